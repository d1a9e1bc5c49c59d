/- A part of the proof that the law TopThree returns true for all arguments of bulk at most 1048576 (no other condition). Here: Parents; the top. What Press is told of its space. The trie's invariant, plain: insertions. The pressing's invariant, plain. The pressing's invariant from the trie's, and back. One state for the three kinds of lattice: what Insert, Low and High do with it. The fixed calls of alive14, by the contracts. -/
import Derived.Test.YtcbahkfbdlhabaaGreatDoorK17
import Derived.Test.YtcbahkfbdlhabaaGreatDoorK28
import Derived.Test.YtcbahkfbdlhabaaGreatDoorK22
namespace Go.Proofs.YtcbahkfbdlhabaaGreatDoor
set_option linter.unusedVariables false
set_option linter.unusedSimpArgs false
open Go.RowKit

theorem depth_lev {d : Dm} {n : Int} (h : LevD d n) : LevD d d.depth ∧ d.len d.depth = 0 := by
  have h1 : LevD d d.depth := ⟨h.1, by have := h.2; omega, Int.le_refl _⟩
  refine ⟨h1, ?_⟩
  rw [lev_len h1]
  have h2 := dimR_step h.1
  have ht : 0 < d.t := by omega
  have h3 : widthI d.k ≤ d.depth * d.t := by
    unfold Dm.depth depthI
    rw [if_pos h.1]
    have h4 := Int.mul_ediv_add_emod (widthI d.k + d.t - 1) d.t
    have h5 := Int.emod_lt_of_pos (widthI d.k + d.t - 1) ht
    rw [Int.mul_comm] at h4
    omega
  omega
theorem topHL_0 (hi lo : Nat) : topH hi lo 0 = 0 ∧ topL hi lo 0 = 0 := ⟨topH_zero hi lo, topL_zero hi lo⟩
theorem key_zero {x : Ky} (h : KR x = true) (hl : x.l = 0) : x = rootK x.k := by
  obtain ⟨k, l, hi, lo, p⟩ := x
  dsimp only at hl
  subst hl
  by_cases hk : k = 3
  · have h1 := kr_lab h hk
    dsimp only at h1
    obtain ⟨h1, h2, h3, h4⟩ := h1
    subst h3 h4
    rw [lenL_eq h1] at h2
    have h5 : labsD p = [] := List.eq_nil_of_length_eq_zero (by omega)
    have h6 : p = ⟨#[]⟩ := by
      unfold labsD at h5
      split at h5
      · exact size0 (by assumption)
      · rw [← join_parts p, h5]
        rfl
    subst h6
    unfold rootK
    rw [if_neg]
    dsimp only
    rw [hk]
    decide
  · have h1 := kr_bits h hk
    dsimp only at h1
    obtain ⟨h1, h2, h3, h4, h5, h6⟩ := h1
    rw [(topHL_0 hi lo).1] at h4
    rw [(topHL_0 hi lo).2] at h5
    subst h4 h5 h6
    unfold rootK
    rw [if_neg]
    dsimp only
    rcases h1 with rfl | rfl <;> decide
theorem on_top {d : Dm} {x : Ky} (h : OnD d d.depth x = true) : x = rootK d.k := by
  obtain ⟨h1, h2, h3, h4, h5⟩ := on_iff.1 h
  have h6 := (depth_lev h1).2
  have h7 := kr_l h3
  have h8 := key_zero h3 (by omega)
  rwa [h2] at h8
theorem right_top {s : Sp} {x : Px} (hn : s.n = 1) (h : RB s x = true) (ha : x.a0 = (topX s).a0) : x = topX s := by
  obtain ⟨h1, h2, h3, _⟩ := right_iff.1 h
  have e : topX s = ⟨s.d0.depth, s.d1.depth, rootK s.d0.k, rootK s.d1.k⟩ := by unfold topX; rw [if_pos h1]
  rw [e] at ha ⊢
  dsimp only at ha
  rw [ha] at h2
  have h4 := on_top h2
  have h5 := h3 hn
  have h6 := sound_d1 h1 hn
  rw [h6]
  obtain ⟨a0, a1, k0, k1⟩ := x
  dsimp only at h4 h5 ha
  obtain ⟨rfl, rfl⟩ := h5
  subst h4 ha
  rfl
theorem up_eq {s : Sp} {x : Px} (hn : s.n = 1) (ho : x.ok) (h : RB s x = true) (hx : x ≠ topX s) : LevS s (x.a0 + 1) x.a1 ∧ upP s x = atP s x (x.a0 + 1) x.a1 := by
  have h1 := right_lev h
  have h2 := right_levS h
  have h3 : x.a0 ≠ (topX s).a0 := fun e => hx (right_top hn h e)
  have e : (topX s).a0 = s.d0.depth := by unfold topX; rw [if_pos h1.1]
  have h4 : LevS s (x.a0 + 1) x.a1 := ⟨⟨h2.1.1, by omega, by omega⟩, h2.2⟩
  exact ⟨h4, up_at ho h h4 (by omega) (Int.le_refl _)⟩
/-- The parent, all told. -/
theorem up_facts {s : Sp} {x : Px} (hn : s.n = 1) (ho : x.ok) (h : RB s x = true) (hx : x ≠ topX s) : (upP s x).ok ∧ RB s (upP s x) = true ∧ (upP s x).a0 = x.a0 + 1 := by
  obtain ⟨h1, h2⟩ := up_eq hn ho h hx
  refine ⟨upX_ok _ _ _ labelFns.small _ _ _ _, ?_, ?_⟩
  · rw [h2]
    exact at_right ho h h1 (by omega) (Int.le_refl _)
  · rw [h2]
    rfl
theorem over_up {s : Sp} {x q : Px} (hn : s.n = 1) (ho : x.ok) (h : RB s x = true) (hx : x ≠ topX s) (hq : q ≠ x) : OB s q x = OB s q (upP s x) := by
  obtain ⟨h1, h2⟩ := up_eq hn ho h hx
  obtain ⟨u1, u2, u3⟩ := up_facts hn ho h hx
  have key : OB s q x = true ↔ OB s q (upP s x) = true := by
    rw [over_iff ho, over_iff u1]
    have ha : (upP s x).a1 = x.a1 := by rw [h2]; rfl
    constructor
    · rintro ⟨r1, r2, r3, r4, r5⟩
      have r6 : q.a0 ≠ x.a0 := fun e => by
        have e1 : q.a1 = x.a1 := by rw [(right_levS r1).2.1 hn, (right_levS r2).2.1 hn]
        rw [e, e1, at_self h] at r5
        exact hq r5
      refine ⟨r1, u2, by omega, by omega, ?_⟩
      rw [h2, at_at ho h h1 (right_levS r1) (by omega) (Int.le_refl _) (by omega) (by omega)]
      exact r5
    · rintro ⟨r1, r2, r3, r4, r5⟩
      refine ⟨r1, h, by omega, by omega, ?_⟩
      rw [h2, at_at ho h h1 (right_levS r1) (by omega) (Int.le_refl _) (by omega) (by omega)] at r5
      exact r5
  cases h5 : OB s q x <;> cases h6 : OB s q (upP s x) <;> simp_all
theorem over_not {s : Sp} {x : Px} (hn : s.n = 1) (ho : x.ok) (h : RB s x = true) (hx : x ≠ topX s) : OB s x (upP s x) = false := by
  obtain ⟨u1, u2, u3⟩ := up_facts hn ho h hx
  cases h5 : OB s x (upP s x) with
  | false => rfl
  | true =>
    have := ((over_iff u1).1 h5).2.2.1
    omega

end Go.Proofs.YtcbahkfbdlhabaaGreatDoor
namespace Go.Proofs.YtcbahkfbdlhabaaGreatDoor
set_option linter.unusedVariables false
set_option linter.unusedSimpArgs false
open Go.RowKit

theorem isNode_yes {s : Sp} (hs : soundB s = true) {x y : Int} (hx : 0 ≤ x) (hx2 : x ≤ (topX s).a0) (hy : 0 ≤ y) (hy2 : y ≤ (topX s).a1) : Gives 175 #[s.v, .agg #[.int .i64 x, .int .i64 y]] (.bool true) := fun w => by
  have h := isNode_walk s.n s.d0.k s.d0.s s.d0.t s.d1.k s.d1.s s.d1.t x y (soundB s) (sound_gives s) (topX s).a0 (topX s).a1 (ends_gives s) w
  have e : (soundB s && (decide (x ≥ 0) && (decide (x ≤ (topX s).a0) && (decide (y ≥ 0) && decide (y ≤ (topX s).a1))))) = true := by simp [hs, hx, hx2, hy, hy2]
  rw [e] at h
  exact h
theorem par_g {s : Sp} (hn : s.n = 1) {p : Px} (ho : p.ok) (h : RB s p = true) (hx : p ≠ topX s) : ParG s p (upP s p) := by
  have h1 := right_lev h
  have h2 := up_facts hn ho h hx
  have h3 := right_lev h2.2.1
  have hb := top_bounds s
  have hnode := isNode_yes h1.1 (x := p.a0 + 1) (y := p.a1) (by omega) (by omega) h1.2.2.2.1 h1.2.2.2.2
  have hup := up_gives labelFns s p ho (p.a0 + 1) p.a1
  have hr := rb_gives s p ho
  rw [h] at hr
  obtain ⟨sn, ⟨k0, s0, t0⟩, ⟨k1, s1, t1⟩⟩ := s
  dsimp only at hn
  subst hn
  intro w
  exact parents_walk k0 s0 t0 k1 s1 t1 _ _ _ _ _ _ _ _ _ _ _ _ hr hnode _ hup h1.2.1 (by omega) w

theorem wOn_mem {e1 : Int} {p0 h n : Nat} {z : Int × Int × Int} : z ∈ wOn e1 p0 h n ↔ ∃ k : Nat, k < n ∧ z = (((p0 + k : Nat) : Int), spanF e1 h + (k : Int), (h : Int) - (spanF e1 h + (k : Int))) := by
  unfold wOn
  simp only [List.mem_map, List.mem_range]
  constructor
  · rintro ⟨k, hk, rfl⟩
    exact ⟨k, hk, rfl⟩
  · rintro ⟨k, hk, rfl⟩
    exact ⟨k, hk, rfl⟩
theorem wUp_mem {e0 e1 : Int} {z : Int × Int × Int} : ∀ n : Nat, z ∈ wUp e0 e1 n → ∃ h k : Nat, h < n ∧ k < cntH e0 e1 h ∧ z.2.1 = spanF e1 h + (k : Int) ∧ z.2.2 = (h : Int) - (spanF e1 h + (k : Int))
  | 0, hz => by cases hz
  | n + 1, hz => by
    rw [wUp] at hz
    rcases List.mem_append.1 hz with hz | hz
    · obtain ⟨h, k, h1, h2⟩ := wUp_mem n hz
      exact ⟨h, k, by omega, h2⟩
    · obtain ⟨k, h1, rfl⟩ := wOn_mem.1 hz
      exact ⟨n, k, by omega, h1, rfl, rfl⟩
theorem mem_wUp {e0 e1 : Int} {h k : Nat} (hk : k < cntH e0 e1 h) : ∀ n : Nat, h < n → ∃ p : Int, (p, spanF e1 h + (k : Int), (h : Int) - (spanF e1 h + (k : Int))) ∈ wUp e0 e1 n
  | 0, hn => absurd hn (Nat.not_lt_zero _)
  | n + 1, hn => by
    rw [wUp]
    by_cases e : h = n
    · subst e
      exact ⟨_, List.mem_append_right _ (wOn_mem.2 ⟨k, hk, rfl⟩)⟩
    · obtain ⟨p, hp⟩ := mem_wUp hk n (by omega)
      exact ⟨p, List.mem_append_left _ hp⟩
theorem wUp_lev {e0 e1 : Int} (b0 : 0 ≤ e0) (b1 : 0 ≤ e1) {z : Int × Int × Int} {n : Nat} (hn : (n : Int) ≤ e0 + e1 + 1) (hz : z ∈ wUp e0 e1 n) : 0 ≤ z.2.1 ∧ z.2.1 ≤ e0 ∧ 0 ≤ z.2.2 ∧ z.2.2 ≤ e1 := by
  obtain ⟨h, k, h1, h2, h3, h4⟩ := wUp_mem n hz
  unfold cntH spanT spanF at h2
  unfold spanF at h3 h4
  omega
theorem wUp_has {e0 e1 x y : Int} (hx : 0 ≤ x) (hx2 : x ≤ e0) (hy : 0 ≤ y) (hy2 : y ≤ e1) : ∃ p : Int, (p, x, y) ∈ wUp e0 e1 ((e0 + e1).toNat + 1) := by
  obtain ⟨h, hh⟩ := Int.eq_ofNat_of_zero_le (show 0 ≤ x + y by omega)
  have hF : 0 ≤ x - spanF e1 h := by
    unfold spanF
    omega
  obtain ⟨k, hk⟩ := Int.eq_ofNat_of_zero_le hF
  obtain ⟨p, hp⟩ := mem_wUp (e0 := e0) (e1 := e1) (h := h) (k := k) (by
    unfold cntH spanT
    unfold spanF at hk ⊢
    omega) ((e0 + e1).toNat + 1) (by omega)
  rw [show spanF e1 h + (k : Int) = x by omega, show (h : Int) - x = y by omega] at hp
  exact ⟨p, hp⟩
theorem wUp_nodup {e0 e1 : Int} : ∀ n : Nat, ((wUp e0 e1 n).map Prod.snd).Nodup
  | 0 => by simp [wUp]
  | n + 1 => by
    rw [wUp, List.map_append, List.nodup_append]
    refine ⟨wUp_nodup n, ?_, ?_⟩
    · unfold wOn
      rw [List.map_map]
      show List.Pairwise (· ≠ ·) _
      rw [List.pairwise_map]
      refine List.Pairwise.imp ?_ (List.nodup_range (n := cntH e0 e1 n))
      intro a b hab e
      simp only [Function.comp, Prod.mk.injEq] at e
      exact hab (by omega)
    · intro a ha b hb hab
      obtain ⟨z, hz, rfl⟩ := List.mem_map.1 ha
      obtain ⟨z2, hz2, rfl⟩ := List.mem_map.1 hb
      obtain ⟨h, k, h1, h2, h3, h4⟩ := wUp_mem n hz
      obtain ⟨k2, _, rfl⟩ := wOn_mem.1 hz2
      have e1 := congrArg Prod.fst hab
      have e2 := congrArg Prod.snd hab
      dsimp only at e1 e2
      omega
/-- The members of All. -/
theorem all_mem {s : Sp} {p q : Px} (ho : p.ok) (h : RB s p = true) : q ∈ allP s p ↔ (RB s q = true ∧ OB s q p = true) := by
  have h1 := right_lev h
  obtain ⟨⟨b0, c0⟩, b1, c1⟩ := top_bounds s
  have hlv : ∀ {x y : Int}, 0 ≤ x → x ≤ (topX s).a0 → 0 ≤ y → y ≤ (topX s).a1 → LevS s x y := fun {x y} hx hx2 hy hy2 => by
    have h2 := right_levS h
    have e : topX s = ⟨s.d0.depth, s.d1.depth, rootK s.d0.k, rootK s.d1.k⟩ := by unfold topX; rw [if_pos h1.1]
    rw [e] at hx2 hy2
    dsimp only at hx2 hy2
    refine ⟨⟨h2.1.1, hx, hx2⟩, fun hn => ?_, fun hn => ⟨(h2.2.2 hn).1, hy, hy2⟩⟩
    rw [sound_d1 h1.1 hn] at hy2
    have : (⟨0, 0, 0⟩ : Dm).depth = 0 := by decide
    omega
  have e1 : allP s p = selT p (fun j => dimCutK okL lenL topT s.d0 j p.k0) (fun j => dimCutK okL lenL topT s.d1 j p.k1) (wUp (topX s).a0 (topX s).a1 (((topX s).a0 + (topX s).a1).toNat + 1)) := by
    unfold allP allD
    exact if_pos h
  rw [e1]
  unfold selT
  rw [List.mem_map]
  constructor
  · rintro ⟨z, hz, rfl⟩
    rw [List.mem_filter] at hz
    obtain ⟨hz, hf⟩ := hz
    simp only [Bool.and_eq_true, decide_eq_true_eq] at hf
    have h2 := wUp_lev b0 b1 (by omega) hz
    have h3 := at_right ho h (hlv h2.1 h2.2.1 h2.2.2.1 h2.2.2.2) hf.1 hf.2
    have e2 : (z.2.1.toNat : Int) = z.2.1 := by omega
    have e3 : (z.2.2.toNat : Int) = z.2.2 := by omega
    have e4 : (⟨z.2.1, z.2.2, dimCutK okL lenL topT s.d0 (z.2.1.toNat : Int) p.k0, dimCutK okL lenL topT s.d1 (z.2.2.toNat : Int) p.k1⟩ : Px) = atP s p z.2.1 z.2.2 := by
      rw [e2, e3]
      rfl
    dsimp only
    rw [e4]
    exact ⟨h3, (over_iff ho).2 ⟨h3, h, hf.1, hf.2, rfl⟩⟩
  · rintro ⟨h2, h3⟩
    obtain ⟨_, _, h4, h5, h6⟩ := (over_iff ho).1 h3
    have h7 := right_lev h2
    obtain ⟨z, hz⟩ := wUp_has h7.2.1 h7.2.2.1 h7.2.2.2.1 h7.2.2.2.2
    refine ⟨_, List.mem_filter.2 ⟨hz, by simp [h4, h5]⟩, ?_⟩
    have e2 : (q.a0.toNat : Int) = q.a0 := by omega
    have e3 : (q.a1.toNat : Int) = q.a1 := by omega
    dsimp only
    rw [e2, e3]
    exact h6.symm
theorem all_nodup (s : Sp) (p : Px) : (allP s p).Nodup := by
  unfold allP allD
  split
  · unfold selT
    have h1 := wUp_nodup (e0 := (topX s).a0) (e1 := (topX s).a1) (((topX s).a0 + (topX s).a1).toNat + 1)
    show List.Pairwise (· ≠ ·) _
    rw [List.pairwise_map]
    have h2 : List.Pairwise (fun a b : Int × Int × Int => a.2 ≠ b.2) (wUp (topX s).a0 (topX s).a1 (((topX s).a0 + (topX s).a1).toNat + 1)) := by
      have h3 : List.Pairwise (· ≠ ·) _ := h1
      rwa [List.pairwise_map] at h3
    refine List.Pairwise.imp ?_ (h2.filter _)
    intro a b hab e
    simp only [Px.mk.injEq] at e
    exact hab (Prod.ext e.1 e.2.1)
  · exact List.nodup_nil
/-- What Press is told of its space. -/
theorem psp {s : Sp} (hn : s.n = 1) : PSp s := {
  pos := fun p h => by
    have h1 := right_lev h
    obtain ⟨z, hz⟩ := wUp_has h1.2.1 h1.2.2.1 h1.2.2.2.1 h1.2.2.2.2
    unfold allP allD
    rw [if_pos (show rightB okL lenL s p = true from h)]
    unfold selT
    rw [List.length_map]
    exact List.length_pos_of_mem (List.mem_filter.2 ⟨hz, by simp⟩)
  par := fun p ho h hx => ⟨par_g hn ho h hx, up_facts hn ho h hx⟩ }

end Go.Proofs.YtcbahkfbdlhabaaGreatDoor
namespace Go.Proofs.YtcbahkfbdlhabaaGreatDoor
set_option linter.unusedVariables false
set_option linter.unusedSimpArgs false
open Go.RowKit

theorem lowD_put {s : Sp} {q : Px} {l : List (Me (Nat × Nat))} {c : Nat} {p : Px} {v : Nat × Nat} : lowD s q (mputL l c p v) + (if OB s q p then ((mget l p).getD (0, 0)).1 else 0) = lowD s q l + (if OB s q p then v.1 else 0) := by
  cases hg : mget l p with
  | none =>
    rw [(mput_none (c := c) (v := v) hg).1, lowD_app]
    simp [lowD]
  | some u =>
    obtain ⟨l1, x, l2, rfl, hx, hu, h2, _⟩ := mput_some (c := c) (v := v) hg
    rw [h2, lowD_app, lowD_app]
    simp only [lowD, hx, hu, zL]
    omega
/-- What holds of a trie: F is what went in below each prefix. -/
structure TI (s : Sp) (mm : List (Me (Nat × Nat))) (c n sl : Nat) (F : Px → Nat) : Prop where
  ok : MOk mm c
  top : ∃ u, mget mm (topX s) = some u
  mem : ∀ x ∈ mm, x.p.ok ∧ RB s x.p = true ∧ x.v.2 ≤ sl
  sum : (mm.map fun x => x.v.1).sum = n
  nb : n ≤ 4611686018427387904
  sb : sl ≤ n
  low : ∀ q, RB s q = true → lowD s q mm ≤ F q
  high : ∀ q, RB s q = true → F q ≤ lowD s q mm + match mget mm q with | some u => u.2 | none => sl

theorem addAll_low {s : Sp} {q : Px} {sl : Nat} : ∀ (L : List Px) (m : List (Me (Nat × Nat))) (c : Nat), (∀ x ∈ L, ((mget m x).getD (0, 0)).1 = 0) → lowD s q (addAll sl m c L).1 = lowD s q m
  | [], m, c, _ => rfl
  | x :: L, m, c, h => by
    have h1 := lowD_put (s := s) (q := q) (l := m) (c := c) (p := x) (v := (0, sl))
    rw [h x (by simp)] at h1
    show lowD s q (addAll sl (mputL m c x (0, sl)) (mputC m c x) L).1 = _
    rw [addAll_low L _ _ fun y hy => by
      rw [mget_put]
      split
      · rfl
      · exact h y (by simp [hy])]
    simpa using h1
theorem ok_at (s : Sp) (p : Px) (b0 b1 : Int) : (atP s p b0 b1).ok := atX_ok okL lenL topT labelFns.small s p b0 b1
theorem miss_mem {s : Sp} {full : Bool} {mm : List (Me (Nat × Nat))} {p q : Px} (ho : p.ok) (h : RB s p = true) (hq : q ∈ missD s full mm p) : mget mm q = none ∧ q.ok ∧ RB s q = true := by
  unfold missD missL at hq
  obtain ⟨h1, h2⟩ := List.mem_filter.1 hq
  obtain ⟨h3, h4⟩ := (all_mem ho h).1 h1
  simp only [Bool.and_eq_true, Bool.not_eq_true', Option.isSome_eq_false_iff, Option.isNone_iff_eq_none] at h2
  refine ⟨h2.1, ?_, h3⟩
  rw [((over_iff ho).1 h4).2.2.2.2]
  exact ok_at s p _ _

theorem addAll_mem {sl : Nat} {x : Me (Nat × Nat)} : ∀ (L : List Px) (m : List (Me (Nat × Nat))) (c : Nat), x ∈ (addAll sl m c L).1 → x ∈ m ∨ (x.p ∈ L ∧ x.v = (0, sl))
  | [], m, c, h => .inl h
  | q :: L, m, c, h => by
    rcases addAll_mem L _ _ (h : x ∈ (addAll sl (mputL m c q (0, sl)) (mputC m c q) L).1) with h1 | ⟨h1, h2⟩
    · rcases mputL_mem h1 with h1 | ⟨h1, h2⟩
      · exact .inl h1
      · exact .inr ⟨by simp [h1], h2⟩
    · exact .inr ⟨by simp [h1], h2⟩
theorem sum_put {l : List (Me (Nat × Nat))} {c : Nat} {p : Px} {v : Nat × Nat} : ((mputL l c p v).map fun x => x.v.1).sum + ((mget l p).getD (0, 0)).1 = (l.map fun x => x.v.1).sum + v.1 := by
  cases hg : mget l p with
  | none =>
    rw [(mput_none (c := c) (v := v) hg).1]
    simp
  | some u =>
    obtain ⟨l1, x, l2, rfl, hx, hu, h2, _⟩ := mput_some (c := c) (v := v) hg
    rw [h2]
    simp [hu]
    omega
theorem addAll_sum {sl : Nat} : ∀ (L : List Px) (m : List (Me (Nat × Nat))) (c : Nat), (∀ x ∈ L, ((mget m x).getD (0, 0)).1 = 0) → ((addAll sl m c L).1.map fun x => x.v.1).sum = (m.map fun x => x.v.1).sum
  | [], m, c, _ => rfl
  | x :: L, m, c, h => by
    have h1 := sum_put (l := m) (c := c) (p := x) (v := (0, sl))
    rw [h x (by simp)] at h1
    show ((addAll sl (mputL m c x (0, sl)) (mputC m c x) L).1.map fun x => x.v.1).sum = _
    rw [addAll_sum L _ _ fun y hy => by
      rw [mget_put]
      split
      · rfl
      · exact h y (by simp [hy])]
    simpa using h1

/-- One more of a leaf, below each prefix. -/
def fOv (s : Sp) (F : Px → Nat) (p : Px) (wv : Nat) (q : Px) : Nat := F q + if OB s q p then wv else 0
theorem TI.ins {s : Sp} {mm : List (Me (Nat × Nat))} {c n sl : Nat} {F : Px → Nat} (h : TI s mm c n sl F) {p : Px} (ho : p.ok) (hlf : leafB s p = true) (full : Bool) (wv : Nat) (hn : n + wv ≤ 4611686018427387904) : TI s (insZ s full sl mm c p wv).1 (insZ s full sl mm c p wv).2 (n + wv) sl (fOv s F p wv) := by
  have hr : RB s p = true := by
    unfold leafB at hlf
    simp only [Bool.and_eq_true] at hlf
    exact hlf.1
  unfold insZ
  split
  · rename_i h0
    subst h0
    have e : fOv s F p 0 = F := by
      funext q
      unfold fOv
      split <;> rfl
    rw [e]
    exact h
  · unfold insM
    dsimp only
    have hz : ∀ x ∈ missD s full mm p, ((mget mm x).getD (0, 0)).1 = 0 := fun x hx => by
      rw [(miss_mem ho hr hx).1]
      rfl
    have hlow := fun q => addAll_low (s := s) (q := q) (sl := sl) (missD s full mm p) mm c hz
    have hsum := addAll_sum (sl := sl) (missD s full mm p) mm c hz
    have hget := fun q => addAll_get sl q (missD s full mm p) mm c
    have hmem := fun x => addAll_mem (sl := sl) (x := x) (missD s full mm p) mm c
    have hok := addAll_ok sl (missD s full mm p) mm c h.ok
    generalize addAll sl mm c (missD s full mm p) = A at *
    obtain ⟨a, ca⟩ := A
    dsimp only at *
    have hpin : ∃ u, mget a p = some u := by
      rw [hget]
      by_cases hp : p ∈ missD s full mm p
      · exact ⟨_, if_pos hp⟩
      · rw [if_neg hp]
        cases hg : mget mm p with
        | some u => exact ⟨u, rfl⟩
        | none =>
          refine absurd ?_ hp
          unfold missD missL
          exact List.mem_filter.2 ⟨(all_mem ho hr).2 ⟨hr, over_self ho hr⟩, by simp [hg, Px.same_self]⟩
    obtain ⟨u, hu⟩ := hpin
    rw [hu, zL]
    have hpu := fun q => lowD_put (s := s) (q := q) (l := a) (c := ca) (p := p) (v := (u.1 + wv, u.2))
    have hsu := sum_put (l := a) (c := ca) (p := p) (v := (u.1 + wv, u.2))
    simp only [hu, zL] at hpu hsu
    obtain ⟨x0, hx0, hxp, hxv⟩ := mem_of_mget hu
    have hsl : ∀ x ∈ a, x.p.ok ∧ RB s x.p = true ∧ x.v.2 ≤ sl := fun x hx => by
      rcases hmem x hx with h1 | ⟨h1, h2⟩
      · exact h.mem x h1
      · have h3 := miss_mem ho hr h1
        exact ⟨h3.2.1, h3.2.2, by rw [h2]; exact Nat.le_refl _⟩
    have hsb := h.sb
    refine ⟨hok.put p _, ?_, ?_, ?_, hn, by omega, ?_, ?_⟩
    · rw [mget_put]
      split
      · exact ⟨_, rfl⟩
      · rw [hget]
        split
        · exact ⟨_, rfl⟩
        · exact h.top
    · intro x hx
      rcases mputL_mem hx with h1 | ⟨h1, h2⟩
      · exact hsl x h1
      · rw [h1, h2]
        refine ⟨ho, hr, ?_⟩
        have := (hsl x0 hx0).2.2
        rwa [hxv] at this
    · have := h.sum
      omega
    · intro q hq
      have h1 := h.low q hq
      have h2 := hpu q
      have h3 := hlow q
      unfold fOv
      split at h2 <;> simp_all <;> omega
    · intro q hq
      have h1 := h.high q hq
      have h2 := hpu q
      have h3 := hlow q
      have h4 := hget q
      have h5 : (match mget mm q with | some u => u.2 | none => sl) = (match mget (mputL a ca p (u.1 + wv, u.2)) q with | some u => u.2 | none => sl) := by
        rw [mget_put]
        by_cases e : q = p
        · subst e
          rw [if_pos rfl]
          rw [h4] at hu
          by_cases e2 : q ∈ missD s full mm q
          · rw [if_pos e2] at hu
            cases hu
            rw [(miss_mem ho hr e2).1]
          · rw [if_neg e2] at hu
            rw [hu]
        · rw [if_neg e, h4]
          by_cases e2 : q ∈ missD s full mm p
          · rw [if_pos e2, (miss_mem ho hr e2).1]
          · rw [if_neg e2]
      rw [← h5]
      unfold fOv
      split at h2 <;> rename_i h6 <;> simp only [h6] <;> simp <;> omega

end Go.Proofs.YtcbahkfbdlhabaaGreatDoor
namespace Go.Proofs.YtcbahkfbdlhabaaGreatDoor
set_option linter.unusedVariables false
set_option linter.unusedSimpArgs false
open Go.RowKit

/-- What a prefix weighs at least, over nodes. -/
def lowN (s : Sp) (q : Px) : List (Me Nd) → Nat
  | [] => 0
  | e :: r => (if OB s q e.p then e.v.g else 0) + lowN s q r
theorem lowN_app (s : Sp) (q : Px) : ∀ a b, lowN s q (a ++ b) = lowN s q a + lowN s q b
  | [], b => by simp [lowN]
  | x :: r, b => by
    show _ + lowN s q (r ++ b) = _ + lowN s q r + _
    rw [lowN_app s q r b]
    omega
theorem lowN_put {s : Sp} {q : Px} {l : List (Me Nd)} {c : Nat} {p : Px} {v z : Nd} (hz : z.g = 0) : lowN s q (mputL l c p v) + (if OB s q p then ((mget l p).getD z).g else 0) = lowN s q l + (if OB s q p then v.g else 0) := by
  cases hg : mget l p with
  | none =>
    rw [(mput_none (c := c) (v := v) hg).1, lowN_app]
    simp [lowN, hz]
  | some u =>
    obtain ⟨l1, x, l2, rfl, hx, hu, h2, _⟩ := mput_some (c := c) (v := v) hg
    rw [h2, lowN_app, lowN_app]
    simp only [lowN, hx, hu, zL]
    omega
theorem lowN_del {s : Sp} {q : Px} {l : List (Me Nd)} {p : Px} {u : Nd} (h : mget l p = some u) : lowN s q (mdel l p) + (if OB s q p then u.g else 0) = lowN s q l := by
  obtain ⟨l1, x, l2, rfl, hx, hu, _, h2, _⟩ := mget_split h
  rw [h2, lowN_app, lowN_app]
  simp only [lowN, hx, hu]
  omega
theorem sumN_put {l : List (Me Nd)} {c : Nat} {p : Px} {v z : Nd} (hz : z.g = 0) : ((mputL l c p v).map fun x => x.v.g).sum + ((mget l p).getD z).g = (l.map fun x => x.v.g).sum + v.g := by
  cases hg : mget l p with
  | none =>
    rw [(mput_none (c := c) (v := v) hg).1]
    simp [hz]
  | some u =>
    obtain ⟨l1, x, l2, rfl, hx, hu, h2, _⟩ := mput_some (c := c) (v := v) hg
    rw [h2]
    simp [hu]
    omega
theorem sumN_del {l : List (Me Nd)} {p : Px} {u : Nd} (h : mget l p = some u) : ((mdel l p).map fun x => x.v.g).sum + u.g = (l.map fun x => x.v.g).sum ∧ (mdel l p).length + 1 = l.length := by
  obtain ⟨l1, x, l2, rfl, hx, hu, _, h2, _⟩ := mget_split h
  rw [h2]
  simp [hu]
  omega
theorem mput_length {α : Type} (l : List (Me α)) (c : Nat) (p : Px) (v : α) : (mputL l c p v).length ≤ l.length + 1 := by
  cases hg : mget l p with
  | none =>
    rw [(mput_none (c := c) (v := v) hg).1]
    simp
  | some u =>
    obtain ⟨l1, x, l2, rfl, hx, hu, h2, _⟩ := mput_some (c := c) (v := v) hg
    rw [h2]
    simp
theorem mdel_mem {α : Type} {l : List (Me α)} {p : Px} {x : Me α} (h : x ∈ mdel l p) : x ∈ l := by
  cases hg : mget l p with
  | none => rwa [mdel_of_none hg] at h
  | some u =>
    obtain ⟨l1, y, l2, rfl, _, _, _, h2, _⟩ := mget_split hg
    rw [h2] at h
    rcases List.mem_append.1 h with h | h
    · simp [h]
    · simp [h]
/-- What holds of a pressing's nodes. -/
structure PI (s : Sp) (F : Px → Nat) (s0 n N : Nat) (mn : List (Me Nd)) (slk h : Nat) : Prop where
  mem : ∀ e ∈ mn, e.v.p = e.p ∧ e.p.ok ∧ RB s e.p = true ∧ e.v.d ≤ s0
  ne : mn ≠ []
  len : mn.length ≤ N
  sum : (mn.map fun x => x.v.g).sum = n
  sl : s0 ≤ slk
  top : ∃ u, mget mn (topX s) = some u
  low : ∀ q, RB s q = true → lowN s q mn ≤ F q
  high : ∀ q, RB s q = true → F q ≤ lowN s q mn + match mget mn q with | some u => u.d | none => if (h : Int) < q.a0 then s0 else slk

theorem PI.next {s : Sp} {F : Px → Nat} {s0 n N : Nat} {mn : List (Me Nd)} {slk h : Nat} (H : PI s F s0 n N mn slk h) : PI s F s0 n N mn slk (h + 1) := by
  refine ⟨H.mem, H.ne, H.len, H.sum, H.sl, H.top, H.low, fun q hq => ?_⟩
  have h1 := H.high q hq
  have h2 := H.sl
  cases hg : mget mn q with
  | some u =>
    rw [hg] at h1
    exact h1
  | none =>
    rw [hg] at h1
    dsimp only at h1 ⊢
    split <;> split at h1 <;> omega

theorem PI.drop {s : Sp} (hn : s.n = 1) {F : Px → Nat} {s0 n N : Nat} {mn : List (Me Nd)} {cn slk h : Nat} (hc : MOk mn cn) (H : PI s F s0 n N mn slk h) {x : Nd} (hx : mget mn x.p = some x) (hh : x.p.a0 = (h : Int)) (ht : x.p ≠ topX s) : PI s F s0 n N (dropM mn cn x (upP s x.p) s0).1 (max slk (x.g + x.d)) h := by
  obtain ⟨ex, hex, hexp, hexv⟩ := mem_of_mget hx
  have hm := H.mem ex hex
  rw [hexp, hexv] at hm
  obtain ⟨_, ho, hr, hd⟩ := hm
  obtain ⟨u1, u2, u3⟩ := up_facts hn ho hr ht
  have hne : upP s x.p ≠ x.p := fun e => by rw [e] at u3; omega
  have hne2 : x.p ≠ upP s x.p := fun e => hne e.symm
  have hget := mget_del hc x.p
  have hlow := fun q => lowN_del (s := s) (q := q) hx
  have hsum := sumN_del hx
  have hdel := fun e => mdel_mem (l := mn) (p := x.p) (x := e)
  have hsl := H.sl
  unfold dropM
  dsimp only
  generalize mdel mn x.p = m1 at *
  generalize hup : upP s x.p = up at *
  have hou := fun q (hq : q ≠ x.p) => over_up (q := q) hn ho hr ht hq
  rw [hup] at hou
  have hov := over_not hn ho hr ht
  rw [hup] at hov
  have hself := over_self ho hr
  have hpl := fun q (v : Nd) => lowN_put (s := s) (q := q) (l := m1) (c := cn) (p := up) (v := v) (z := ⟨up, 0, s0⟩) rfl
  have hps := fun (v : Nd) => sumN_put (l := m1) (c := cn) (p := up) (v := v) (z := ⟨up, 0, s0⟩) rfl
  have hpn := fun (v : Nd) => mput_length m1 cn up v
  have hgu := hget up
  rw [if_neg hne] at hgu
  have hU : ((mget m1 up).getD ⟨up, 0, s0⟩).p = up ∧ ((mget m1 up).getD ⟨up, 0, s0⟩).d ≤ s0 := by
    cases hg : mget m1 up with
    | none => exact ⟨rfl, Nat.le_refl _⟩
    | some u =>
      obtain ⟨e, he, hep, hev⟩ := mem_of_mget hg
      have := H.mem e (hdel e he)
      rw [hep, hev] at this
      exact ⟨this.1, this.2.2.2⟩
  generalize hUU : (mget m1 up).getD ⟨up, 0, s0⟩ = U at *
  have hpl := fun q => hpl q ⟨U.p, U.g + x.g, U.d⟩
  have hps := hps ⟨U.p, U.g + x.g, U.d⟩
  have hpn := hpn ⟨U.p, U.g + x.g, U.d⟩
  have hpg := fun q => mget_put m1 cn up q (⟨U.p, U.g + x.g, U.d⟩ : Nd)
  have hmm := fun e => mputL_mem (l := m1) (c := cn) (p := up) (v := (⟨U.p, U.g + x.g, U.d⟩ : Nd)) (y := e)
  generalize mputL m1 cn up (⟨U.p, U.g + x.g, U.d⟩ : Nd) = m2 at *
  refine ⟨?_, ?_, ?_, ?_, by omega, ?_, ?_, ?_⟩
  · intro e he
    rcases hmm e he with h1 | ⟨h1, h2⟩
    · exact H.mem e (hdel e h1)
    · rw [h1, h2]
      exact ⟨hU.1, u1, u2, hU.2⟩
  · intro e
    have := hpg up
    rw [if_pos rfl, e] at this
    cases this
  · have := H.len
    omega
  · have := H.sum
    dsimp only at hps
    omega
  · obtain ⟨u, hu⟩ := H.top
    rw [hpg]
    split
    · exact ⟨_, rfl⟩
    · rw [hget, if_neg (fun e => ht e.symm)]
      exact ⟨u, hu⟩
  · intro q hq
    have h1 := H.low q hq
    have h2 := hpl q
    have h3 := hlow q
    by_cases e : q = x.p
    · subst e
      rw [hov] at h2
      rw [hself] at h3
      simp at h2 h3
      omega
    · have h4 := hou q e
      rw [h4] at h3
      cases h5 : OB s q up <;> rw [h5] at h2 h3 <;> simp only [if_true, Bool.false_eq_true, if_false] at h2 h3 <;> omega
  · intro q hq
    have h1 := H.high q hq
    have h2 := hpl q
    have h3 := hlow q
    have h6 := hpg q
    by_cases e : q = x.p
    · subst e
      rw [hov] at h2
      rw [hself] at h3
      rw [if_neg hne2, hget, if_pos rfl] at h6
      rw [h6]
      rw [hx] at h1
      simp at h1 h2 h3 ⊢
      split <;> omega
    · have h4 := hou q e
      rw [h4] at h3
      have h7 : lowN s q m2 = lowN s q mn := by
        cases h5 : OB s q up <;> rw [h5] at h2 h3 <;> simp at h2 h3 <;> omega
      rw [h6, h7]
      by_cases e2 : q = up
      · subst e2
        rw [if_pos rfl]
        dsimp only
        rw [hgu] at hUU
        cases hg : mget mn q with
        | some u =>
          rw [hg] at hUU h1
          simp only [zL] at hUU
          subst hUU
          exact h1
        | none =>
          rw [hg] at hUU h1
          simp only [Option.getD_none] at hUU
          subst hUU
          dsimp only at h1 ⊢
          rw [if_pos (by omega)] at h1
          exact h1
      · rw [if_neg e2, hget, if_neg e]
        cases hg : mget mn q with
        | some u =>
          rw [hg] at h1
          exact h1
        | none =>
          rw [hg] at h1
          dsimp only at h1 ⊢
          by_cases hlt : (h : Int) < q.a0
          · rw [if_pos hlt] at h1 ⊢
            exact h1
          · rw [if_neg hlt] at h1 ⊢
            omega

end Go.Proofs.YtcbahkfbdlhabaaGreatDoor
namespace Go.Proofs.YtcbahkfbdlhabaaGreatDoor
set_option linter.unusedVariables false
set_option linter.unusedSimpArgs false
open Go.RowKit

/-- What a prefix weighs at least, over plain nodes. -/
def lowL (s : Sp) (q : Px) (L : List Nd) : Nat := (L.map fun x => if OB s q x.p then x.g else 0).sum
theorem lowL_perm {s : Sp} {q : Px} {a b : List Nd} (h : a.Perm b) : lowL s q a = lowL s q b := (h.map _).sum_nat
theorem lowL_mm (s : Sp) (q : Px) : ∀ mm : List (Me (Nat × Nat)), lowL s q (mm.map ndOf) = lowD s q mm
  | [] => rfl
  | x :: r => by
    have h := lowL_mm s q r
    unfold lowL at h ⊢
    simp only [List.map_cons, List.sum_cons, lowD, h]
    rfl
theorem lowL_mn (s : Sp) (q : Px) : ∀ mn : List (Me Nd), (∀ e ∈ mn, e.v.p = e.p) → lowL s q (mn.map Me.v) = lowN s q mn
  | [], _ => rfl
  | x :: r, h => by
    have h1 := lowL_mn s q r fun e he => h e (by simp [he])
    have h2 := h x (by simp)
    unfold lowL at h1 ⊢
    simp only [List.map_cons, List.sum_cons, lowN, h1, h2]
theorem sumL_mm : ∀ mm : List (Me (Nat × Nat)), ((mm.map ndOf).map Nd.g).sum = (mm.map fun x => x.v.1).sum
  | [] => rfl
  | x :: r => by
    have h := sumL_mm r
    simp only [List.map_cons, List.sum_cons, h]
    rfl

theorem kr_root {k : Int} (h : k = 1 ∨ k = 2 ∨ k = 3) : KR (rootK k) = true ∧ (rootK k).k = k ∧ (rootK k).l = 0 := by
  have e : rootK k = ⟨k, 0, 0, 0, ⟨#[]⟩⟩ := by
    unfold rootK
    rw [if_neg]
    rcases h with rfl | rfl | rfl <;> decide
  rw [e]
  refine ⟨?_, rfl, rfl⟩
  show keyR okL lenL k 0 0 0 ⟨#[]⟩ = true
  unfold keyR
  obtain ⟨t1, t2⟩ := topHL_0 0 0
  by_cases hk : k = 1 ∨ k = 2
  · have h0 := (widthI_le k).1
    rw [if_pos hk, t1, t2, empty_list]
    simp [h0]
  · rw [if_neg hk, if_pos (by omega)]
    have h1 : (⟨#[]⟩ : ByteArray).size = 0 := rfl
    unfold okL lenL
    rw [if_pos h1, h1]
    rfl
theorem top_rb {s : Sp} (hn : s.n = 1) (hs : soundB s = true) : RB s (topX s) = true := by
  have e : topX s = ⟨s.d0.depth, s.d1.depth, rootK s.d0.k, rootK s.d1.k⟩ := by unfold topX; rw [if_pos hs]
  have hd : dimR s.d0.k s.d0.s s.d0.t = true := by
    unfold soundB at hs
    rw [if_pos hn] at hs
    simp only [Bool.and_eq_true] at hs
    exact hs.1
  have hk : s.d0.k = 1 ∨ s.d0.k = 2 ∨ s.d0.k = 3 := by
    have h1 := dimR_step hd
    have h2 : widthI s.d0.k ≠ 0 := by omega
    unfold widthI at h2
    split at h2
    · exact .inl (by assumption)
    · split at h2
      · exact .inr (.inl (by assumption))
      · split at h2
        · exact .inr (.inr (by assumption))
        · exact absurd rfl h2
  have hl : LevD s.d0 s.d0.depth := ⟨hd, (depthI_le _ _ _).1, Int.le_refl _⟩
  obtain ⟨r1, r2, r3⟩ := kr_root hk
  have h0 := (depth_lev hl).2
  rw [e]
  refine right_iff.2 ⟨hs, on_iff.2 ⟨hl, r2, r1, ?_, fun _ => ?_⟩, fun _ => ?_, fun h => absurd hn h⟩
  · show (rootK s.d0.k).l ≤ s.d0.len s.d0.depth
    rw [r3, h0]
    exact Int.le_refl _
  · show (rootK s.d0.k).l = s.d0.len s.d0.depth
    rw [r3, h0]
  · dsimp only
    rw [sound_d1 hs hn]
    exact ⟨by decide, rfl⟩
theorem top_ok (s : Sp) : (topX s).ok := by
  unfold topX
  split
  · exact ⟨rootK_ok _, rootK_ok _⟩
  · exact ⟨ky0_ok, ky0_ok⟩

/-- Nodes put one by one into a map of nodes. -/
theorem putN_all {s : Sp} : ∀ (L : List Nd) (m : List (Me Nd)) (c : Nat), (∀ x ∈ L, mget m x.p = none) → (L.map Nd.p).Nodup → ∀ r, r = (L.foldl (fun a x => (mputL a.1 a.2 x.p x, mputC a.1 a.2 x.p)) (m, c)).1 → (∀ q, lowN s q r = lowN s q m + lowL s q L) ∧ (r.map fun x => x.v.g).sum = (m.map fun x => x.v.g).sum + (L.map Nd.g).sum ∧ r.length ≤ m.length + L.length ∧ (∀ e ∈ r, e ∈ m ∨ (e.v ∈ L ∧ e.v.p = e.p)) ∧ (∀ x ∈ L, mget r x.p = some x) ∧ ∀ q, (∀ x ∈ L, x.p ≠ q) → mget r q = mget m q
  | [], m, c, _, _, r, hr => by
    subst hr
    simp [lowL]
  | x :: L, m, c, h, hd, r, hr => by
    rw [List.map_cons, List.nodup_cons] at hd
    have hx := h x (by simp)
    have h1 := putN_all (s := s) L (mputL m c x.p x) (mputC m c x.p) (fun y hy => by
      rw [mget_put, if_neg (fun e => hd.1 (by rw [← e]; exact List.mem_map_of_mem hy))]
      exact h y (by simp [hy])) hd.2 r hr
    obtain ⟨a1, a2, a3, a4, a5, a6⟩ := h1
    have e := (mput_none (c := c) (v := x) hx).1
    refine ⟨fun q => ?_, ?_, ?_, fun y hy => ?_, fun y hy => ?_, fun q hq => ?_⟩
    · rw [a1, e, lowN_app]
      simp only [lowL, List.map_cons, List.sum_cons, lowN]
      omega
    · rw [a2, e]
      simp
      omega
    · have := mput_length m c x.p x
      simp only [List.length_cons]
      omega
    · rcases a4 y hy with h2 | ⟨h2, h3⟩
      · rcases mputL_mem h2 with h3 | ⟨h3, h4⟩
        · exact .inl h3
        · exact .inr ⟨by simp [h4], by rw [h3, h4]⟩
      · exact .inr ⟨by simp [h2], h3⟩
    · rcases List.mem_cons.1 hy with rfl | hy
      · rw [a6 y.p fun z hz e => hd.1 (by rw [← e]; exact List.mem_map_of_mem hz), mget_put, if_pos rfl]
      · exact a5 y hy
    · rw [a6 q fun z hz => hq z (by simp [hz]), mget_put, if_neg (fun e => hq x (by simp) e.symm)]

/-- Nodes put one by one into a trie's map. -/
theorem putD_all {s : Sp} : ∀ (L : List Nd) (m : List (Me (Nat × Nat))) (c : Nat), (∀ x ∈ L, ((mget m x.p).getD (0, 0)).1 = 0) → (L.map Nd.p).Nodup → ∀ r, r = (L.foldl (fun a x => (mputL a.1 a.2 x.p (x.g, x.d), mputC a.1 a.2 x.p)) (m, c)).1 → (∀ q, lowD s q r = lowD s q m + lowL s q L) ∧ (r.map fun x => x.v.1).sum = (m.map fun x => x.v.1).sum + (L.map Nd.g).sum ∧ r.length ≤ m.length + L.length ∧ (∀ e ∈ r, e ∈ m ∨ ∃ x ∈ L, x.p = e.p ∧ e.v = (x.g, x.d)) ∧ (∀ x ∈ L, mget r x.p = some (x.g, x.d)) ∧ ∀ q, (∀ x ∈ L, x.p ≠ q) → mget r q = mget m q
  | [], m, c, _, _, r, hr => by
    subst hr
    simp [lowL]
  | x :: L, m, c, h, hd, r, hr => by
    rw [List.map_cons, List.nodup_cons] at hd
    have hx := h x (by simp)
    have h1 := putD_all (s := s) L (mputL m c x.p (x.g, x.d)) (mputC m c x.p) (fun y hy => by
      rw [mget_put, if_neg (fun e => hd.1 (by rw [← e]; exact List.mem_map_of_mem hy))]
      exact h y (by simp [hy])) hd.2 r hr
    obtain ⟨a1, a2, a3, a4, a5, a6⟩ := h1
    have e1 := fun q => lowD_put (s := s) (q := q) (l := m) (c := c) (p := x.p) (v := (x.g, x.d))
    have e2 := sum_put (l := m) (c := c) (p := x.p) (v := (x.g, x.d))
    rw [hx] at e2
    refine ⟨fun q => ?_, ?_, ?_, fun y hy => ?_, fun y hy => ?_, fun q hq => ?_⟩
    · have e3 := e1 q
      rw [hx] at e3
      rw [a1]
      simp only [lowL, List.map_cons, List.sum_cons]
      simp at e3
      omega
    · rw [a2]
      simp at e2 ⊢
      omega
    · have := mput_length m c x.p (x.g, x.d)
      simp only [List.length_cons]
      omega
    · rcases a4 y hy with h2 | ⟨z, h2, h3⟩
      · rcases mputL_mem h2 with h3 | ⟨h3, h4⟩
        · exact .inl h3
        · exact .inr ⟨x, by simp, h3.symm, h4⟩
      · exact .inr ⟨z, by simp [h2], h3⟩
    · rcases List.mem_cons.1 hy with rfl | hy
      · rw [a6 y.p fun z hz e => hd.1 (by rw [← e]; exact List.mem_map_of_mem hz), mget_put, if_pos rfl]
      · exact a5 y hy
    · rw [a6 q fun z hz => hq z (by simp [hz]), mget_put, if_neg (fun e => hq x (by simp) e.symm)]

theorem pinv {s : Sp} {F : Px → Nat} {s0 n N : Nat} (hn : s.n = 1) (hN : N ≤ 1000000) (hnb : n ≤ 4611686018427387904) (hs : s0 ≤ n) : PInv s s0 (PI s F s0 n N) := {
  ok := fun mn slk h H e he => ⟨(H.mem e he).1, (H.mem e he).2.1, (H.mem e he).2.2.1⟩
  len := fun mn slk h H => ⟨H.ne, Nat.le_trans H.len hN⟩
  sum := fun mn slk h H e he => by
    have h1 := H.sum
    have h2 : e.v.g ≤ (mn.map fun x => x.v.g).sum := le_sum (List.mem_map_of_mem (f := fun x : Me Nd => x.v.g) he)
    have h3 := (H.mem e he).2.2.2
    exact ⟨by omega, by omega⟩
  next := fun mn slk h H => H.next
  drop := fun mn cn slk h x hc H hx hh ht => H.drop hn hc hx hh ht }

/-- A pressing's start. -/
theorem TI.beg {s : Sp} {mm : List (Me (Nat × Nat))} {c n sl N : Nat} {F : Px → Nat} (h : TI s mm c n sl F) (hN : mm.length ≤ N) {L : List Nd} (hL : L.Perm (mm.map ndOf)) : PI s F sl n N (begM L).1 sl 0 := by
  have hk : (L.map Nd.p).Nodup := by
    refine ((hL.map Nd.p).nodup_iff).2 ?_
    rw [List.map_map]
    exact h.ok.keys
  obtain ⟨a1, a2, a3, a4, a5, a6⟩ := putN_all (s := s) L [] 0 (fun x _ => rfl) hk _ (rfl : (begM L).1 = _)
  have hmem : ∀ x ∈ L, ∃ e ∈ mm, ndOf e = x := fun x hx => List.mem_map.1 (hL.subset hx)
  have hget : ∀ q, (∃ x ∈ L, x.p = q ∧ mget (begM L).1 q = some x ∧ mget mm q = some (x.g, x.d)) ∨ (mget (begM L).1 q = none ∧ mget mm q = none) := fun q => by
    cases hg : mget mm q with
    | some u =>
      obtain ⟨e, he, rfl, rfl⟩ := mem_of_mget hg
      have h1 : ndOf e ∈ L := hL.symm.subset (List.mem_map_of_mem he)
      exact .inl ⟨ndOf e, h1, rfl, a5 _ h1, rfl⟩
    | none =>
      refine .inr ⟨?_, rfl⟩
      rw [a6 q]
      · rfl
      · intro x hx e
        obtain ⟨y, hy, rfl⟩ := hmem x hx
        have h2 := mget_mem h.ok hy
        rw [show y.p = q from e, hg] at h2
        cases h2
  have hl : ∀ q, lowN s q (begM L).1 = lowD s q mm := fun q => by
    rw [a1, lowL_perm hL, lowL_mm]
    simp [lowN]
  refine ⟨fun e he => ?_, ?_, ?_, ?_, Nat.le_refl _, ?_, fun q hq => ?_, fun q hq => ?_⟩
  · rcases a4 e he with h1 | ⟨h1, h2⟩
    · cases h1
    · obtain ⟨y, hy, e1⟩ := hmem _ h1
      have h3 := h.mem y hy
      have e2 : y.p = e.p := by rw [← h2, ← e1]; rfl
      rw [e2] at h3
      refine ⟨h2, h3.1, h3.2.1, ?_⟩
      rw [← e1]
      exact h3.2.2
  · obtain ⟨u, hu⟩ := h.top
    rcases hget (topX s) with ⟨x, _, _, h1, _⟩ | ⟨_, h1⟩
    · intro e
      rw [e] at h1
      cases h1
    · rw [hu] at h1
      cases h1
  · have := hL.length_eq
    rw [List.length_map] at this
    simp at a3
    omega
  · rw [a2]
    have h1 := h.sum
    rw [← sumL_mm] at h1
    have h2 := (hL.map Nd.g).sum_nat
    simp only [List.map_nil, List.sum_nil]
    omega
  · obtain ⟨u, hu⟩ := h.top
    rcases hget (topX s) with ⟨x, _, _, h1, _⟩ | ⟨_, h1⟩
    · exact ⟨_, h1⟩
    · rw [hu] at h1
      cases h1
  · rw [hl]
    exact h.low q hq
  · have h1 := h.high q hq
    rw [hl]
    rcases hget q with ⟨x, _, _, h2, h3⟩ | ⟨h2, h3⟩
    · rw [h3] at h1
      rw [h2]
      exact h1
    · rw [h3] at h1
      rw [h2]
      dsimp only at h1 ⊢
      split <;> exact h1

/-- A pressing's end. -/
theorem PI.of {s : Sp} (hn : s.n = 1) (hs : soundB s = true) {F : Px → Nat} {s0 n N : Nat} {mn : List (Me Nd)} {cn slk h : Nat} (hc : MOk mn cn) (H : PI s F s0 n N mn slk h) {L : List Nd} (hL : L.Perm (mn.map Me.v)) (hR : RtF s n slk L) : TI s (ofM s L).1 (ofM s L).2 n slk F ∧ (ofM s L).1.length ≤ N + 1 := by
  have hp : ∀ e ∈ mn, e.v.p = e.p := fun e he => (H.mem e he).1
  have hk : (L.map Nd.p).Nodup := by
    refine ((hL.map Nd.p).nodup_iff).2 ?_
    have e1 : (mn.map Me.v).map Nd.p = mn.map Me.p := by
      rw [List.map_map]
      exact List.map_congr_left fun e he => hp e he
    rw [e1]
    exact hc.keys
  obtain ⟨a1, a2, a3, a4, a5, a6⟩ := putD_all (s := s) L [⟨topX s, (0, 0), 0⟩] 1 (fun x _ => by
    unfold mget
    split
    · rfl
    · rfl) hk _ (rfl : (ofM s L).1 = _)
  have hmem : ∀ x ∈ L, ∃ e ∈ mn, e.v = x := fun x hx => List.mem_map.1 (hL.subset hx)
  have hget : ∀ q, (∃ x, x.p = q ∧ mget mn q = some x ∧ mget (ofM s L).1 q = some (x.g, x.d)) ∨ (mget mn q = none ∧ mget (ofM s L).1 q = none) := fun q => by
    cases hg : mget mn q with
    | some u =>
      obtain ⟨e, he, rfl, rfl⟩ := mem_of_mget hg
      have h1 : e.v ∈ L := hL.symm.subset (List.mem_map_of_mem he)
      have h2 := a5 _ h1
      rw [hp e he] at h2
      exact .inl ⟨e.v, hp e he, rfl, h2⟩
    | none =>
      refine .inr ⟨rfl, ?_⟩
      rw [a6 q]
      · unfold mget
        rw [if_neg]
        · rfl
        · intro e
          obtain ⟨u, hu⟩ := H.top
          have e2 : q = topX s := Px.same_iff.1 e
          rw [← e2, hg] at hu
          cases hu
      · intro x hx e
        obtain ⟨y, hy, rfl⟩ := hmem x hx
        have h2 := mget_mem hc hy
        rw [← hp y hy, e, hg] at h2
        cases h2
  have hl : ∀ q, lowD s q (ofM s L).1 = lowN s q mn := fun q => by
    rw [a1, lowL_perm hL, lowL_mn s q mn hp]
    simp [lowD]
  obtain ⟨_, _, r3, r4, r5, r6⟩ := hR
  have hll : L.length = mn.length := by
    have := hL.length_eq
    rwa [List.length_map] at this
  have hnl := H.len
  refine ⟨⟨ofM_ok s L, ?_, fun e he => ?_, ?_, r3, r4, fun q hq => ?_, fun q hq => ?_⟩, ?_⟩
  · obtain ⟨u, hu⟩ := H.top
    rcases hget (topX s) with ⟨x, _, _, h1⟩ | ⟨h1, _⟩
    · exact ⟨_, h1⟩
    · rw [hu] at h1
      cases h1
  · rcases a4 e he with h1 | ⟨x, h1, h2, h3⟩
    · rw [List.mem_singleton.1 h1]
      have := top_rb hn hs
      exact ⟨top_ok s, this, Nat.zero_le _⟩
    · obtain ⟨y, hy, e1⟩ := hmem x h1
      have h4 := H.mem y hy
      have h5 := hp y hy
      rw [e1, h2] at h5
      rw [← h5] at h4
      refine ⟨h4.2.1, h4.2.2.1, ?_⟩
      rw [h3]
      exact (r5 x h1).2
  · rw [a2, r6]
    simp
  · rw [hl]
    exact H.low q hq
  · have h1 := H.high q hq
    have hsl := H.sl
    rw [hl]
    rcases hget q with ⟨x, _, h2, h3⟩ | ⟨h2, h3⟩
    · rw [h2] at h1
      rw [h3]
      exact h1
    · rw [h2] at h1
      rw [h3]
      dsimp only at h1 ⊢
      split at h1 <;> omega
  · simp at a3
    omega

theorem gib_ti {s : Sp} (hn : s.n = 1) (hs : soundB s = true) {mm m1 : List (Me (Nat × Nat))} {c c1 n sl sl' N : Nat} {F : Px → Nat} (h : TI s mm c n sl F) (hN : mm.length ≤ N) (hb : GiB s n sl (PI s F sl n N) mm c sl' m1 c1) : TI s m1 c1 n sl' F ∧ m1.length ≤ N + 1 := by
  rcases hb with ⟨rfl, rfl, rfl⟩ | ⟨mn, cn, hh, L, h1, h2, h3, h4, rfl, rfl⟩
  · exact ⟨h, by omega⟩
  · exact h1.of hn hs h2 h3 h4

theorem wUp_le1 (e0 : Int) : ∀ n : Nat, (wUp e0 0 n).length ≤ n
  | 0 => by simp [wUp]
  | n + 1 => by
    have h1 := wUp_le1 e0 n
    rw [wUp, List.length_append]
    unfold wOn
    rw [List.length_map, List.length_range]
    unfold cntH spanT spanF
    omega
theorem all_le1 {s : Sp} (hn : s.n = 1) (p : Px) : (allP s p).length ≤ 129 := by
  unfold allP allD
  split
  · rename_i h
    have h1 := right_lev h
    obtain ⟨b0, b1⟩ := top_bounds s
    have e : (topX s).a1 = 0 := by
      unfold topX
      rw [if_pos h1.1]
      dsimp only
      rw [sound_d1 h1.1 hn]
      decide
    rw [e]
    refine Nat.le_trans (selT_le _ _ _ _) (Nat.le_trans (wUp_le1 _ _) ?_)
    omega
  · exact Nat.zero_le _
theorem addAll_len {sl : Nat} : ∀ (L : List Px) (m : List (Me (Nat × Nat))) (c : Nat), (addAll sl m c L).1.length ≤ m.length + L.length
  | [], m, c => Nat.le_refl _
  | x :: L, m, c => by
    have h1 := addAll_len (sl := sl) L (mputL m c x (0, sl)) (mputC m c x)
    have h2 := mput_length m c x (0, sl)
    show (addAll sl (mputL m c x (0, sl)) (mputC m c x) L).1.length ≤ _
    simp only [List.length_cons]
    omega
theorem insZ_len {s : Sp} (hn : s.n = 1) (full : Bool) (sl : Nat) (mm : List (Me (Nat × Nat))) (c : Nat) (p : Px) (wv : Nat) : (insZ s full sl mm c p wv).1.length ≤ mm.length + 130 := by
  unfold insZ
  split
  · dsimp only
    omega
  · unfold insM
    dsimp only
    have h1 := addAll_len (sl := sl) (missD s full mm p) mm c
    have h2 : (missD s full mm p).length ≤ (allP s p).length := missL_le full mm p _
    have h3 := all_le1 hn p
    have h4 := mput_length (addAll sl mm c (missD s full mm p)).1 (addAll sl mm c (missD s full mm p)).2 p (((mget (addAll sl mm c (missD s full mm p)).1 p).getD (0, 0)).1 + wv, ((mget (addAll sl mm c (missD s full mm p)).1 p).getD (0, 0)).2)
    omega

/-- A new trie. -/
theorem TI.start {s : Sp} (hn : s.n = 1) (hs : soundB s = true) : TI s [⟨topX s, (0, 0), 0⟩] 1 0 0 (fun _ => 0) := by
  refine ⟨⟨by simp, by simp, by simp⟩, ⟨(0, 0), ?_⟩, fun x hx => ?_, by simp, by omega, Nat.le_refl _, fun q _ => ?_, fun q _ => Nat.zero_le _⟩
  · unfold mget
    rw [if_pos (Px.same_self _)]
  · rw [List.mem_singleton.1 hx]
    exact ⟨top_ok s, top_rb hn hs, Nat.le_refl _⟩
  · simp [lowD]

end Go.Proofs.YtcbahkfbdlhabaaGreatDoor
namespace Go.Proofs.YtcbahkfbdlhabaaGreatDoor
set_option linter.unusedVariables false
set_option linter.unusedSimpArgs false
open Go.RowKit

theorem Hp.reads {w0 V : World} {E l : List En} {f : FuncId} {args : Array Value} {R : Ending → Prop} (h : Hp w0 V (E ++ l)) (hc : ∀ (w1 : World) (m : List En), Hp w1 V (E ++ m) → Calls Tryz.prog f args V fun e w' => R e ∧ Hp w1 w' (E ++ m)) : Calls Tryz.prog f args V fun e w' => R e ∧ Below V.heap.size V w' := by
  refine reader_of (Lies.of fun e he => h.lies.mem e (List.mem_append_left _ he)) ?_ hc
  have h1 := h.nodup
  rw [List.map_append, List.nodup_append] at h1
  exact h1.1

theorem over_right {s : Sp} {p q : Px} (ho : p.ok) (h : OB s q p = true) : RB s q = true := ((over_iff ho).1 h).1
theorem allAdd_at : ∀ (A : List Px) (G : Px → Nat) (wv : Nat) (q : Px), A.Nodup → allAdd G A wv q = G q + if q ∈ A then wv else 0
  | [], G, wv, q, _ => by simp [allAdd]
  | a :: A, G, wv, q, h => by
    rw [List.nodup_cons] at h
    have h1 := allAdd_at A (fAdd G a wv) wv q h.2
    show allAdd (fAdd G a wv) A wv q = _
    rw [h1]
    unfold fAdd
    by_cases e : q = a
    · subst e
      rw [if_pos rfl, if_neg h.1, if_pos (by simp), Nat.add_zero]
    · rw [if_neg e]
      simp only [List.mem_cons, e, false_or, Nat.add_zero]
theorem all_not {s : Sp} {p : Px} (h : ¬ RB s p = true) : allP s p = [] := by
  unfold allP allD
  exact if_neg h
theorem all_self {s : Sp} {p : Px} (ho : p.ok) (h : RB s p = true) : 1 ≤ (allP s p).length := List.length_pos_of_mem ((all_mem ho h).2 ⟨h, over_self ho h⟩)
theorem all_lev {s : Sp} {p : Px} (ho : p.ok) : ∀ q ∈ allP s p, 0 ≤ q.a0 ∧ q.a0 ≤ (topX s).a0 ∧ 0 ≤ q.a1 ∧ q.a1 ≤ (topX s).a1 := fun q hq => by
  by_cases h : RB s p = true
  · exact (right_lev ((all_mem ho h).1 hq).1).2
  · rw [all_not h] at hq
    cases hq
theorem allAdd_over {s : Sp} {F : Px → Nat} {p : Px} (ho : p.ok) (h : RB s p = true) (wv : Nat) : allAdd F (allP s p) wv = fOv s F p wv := by
  funext q
  rw [allAdd_at _ _ _ _ (all_nodup s p)]
  unfold fOv
  by_cases hq : q ∈ allP s p
  · rw [if_pos hq, if_pos ((all_mem ho h).1 hq).2]
  · rw [if_neg hq, if_neg]
    intro h2
    exact hq ((all_mem ho h).2 ⟨over_right ho h2, h2⟩)
theorem lowD_le (s : Sp) (q : Px) : ∀ mm : List (Me (Nat × Nat)), lowD s q mm ≤ (mm.map fun x => x.v.1).sum
  | [] => Nat.le_refl _
  | x :: r => by
    have h := lowD_le s q r
    simp only [lowD, List.map_cons, List.sum_cons]
    split <;> omega

/-- Savings. -/
def Lat1 (k most : Int) (s : Sp) (X : Nat) (F : Px → Nat) (t : Nat) (E : List En) : Prop := ∃ (K g n cap : Nat) (js : List Value) (xs : List Sm), E = XB X 1 k most s t (.iface 58 (.pointer (some ⟨K, 0, none⟩))) :: LB K s g n cap :: QW g (xs.map Sm.S) js :: xs.flatMap (Sm.es k) ∧ VS k s F xs ∧ n = (xs.map Sm.S).length ∧ ((xs.map Sm.S).length : Int) = ((topX s).a0 + 1) * ((topX s).a1 + 1)
/-- A trie. -/
def Lat2 (kind k most : Int) (full : Bool) (s : Sp) (X : Nat) (F : Px → Nat) (t i : Nat) (E : List En) : Prop := ∃ (P G T sl bm c : Nat) (mm : List (Me (Nat × Nat))), E = [XB X kind k most s t (.iface 53 (.pointer (some ⟨P, 0, none⟩))), PB P G, GE G T k most, TE T s full t sl bm, ⟨bm, mp encG mm c, true⟩] ∧ s.n = 1 ∧ TI s mm c t sl F ∧ mm.length ≤ 1 + 131 * i
/-- A lattice into which i weights went, t in all, F below each prefix. -/
def Lat (k : Int) (s : Sp) (X : Nat) (F : Px → Nat) (t i : Nat) (E : List En) : Prop := soundB s = true ∧ 1 ≤ k ∧ k ≤ 200 ∧ t ≤ 4611686018427387904 ∧ (∀ q, F q ≤ t) ∧ (∀ q, RB s q = false → F q = 0) ∧ ((∃ most, Lat1 k most s X F t E) ∨ ∃ kind most full, Lat2 kind k most full s X F t i E)
theorem flat_own {k : Int} {s : Sp} {F : Px → Nat} {xs : List Sm} (h : VS k s F xs) : ∀ e ∈ xs.flatMap (Sm.es k), e.own = true := fun e he => by
  obtain ⟨x, hx, hxe⟩ := List.mem_flatMap.1 he
  obtain ⟨i, hi, rfl⟩ := List.getElem_of_mem hx
  exact Sm.own (h i hi) e hxe
theorem Lat.own {k : Int} {s : Sp} {X : Nat} {F : Px → Nat} {t i : Nat} {E : List En} (h : Lat k s X F t i E) : ∀ e ∈ E, e.own = true := by
  obtain ⟨_, _, _, _, _, _, ⟨most, K, g, n, cap, js, xs, rfl, h1, _⟩ | ⟨kind, most, full, P, G, T, sl, bm, c, mm, rfl, _⟩⟩ := h
  · intro e he
    simp only [List.mem_cons] at he
    rcases he with rfl | rfl | rfl | he
    · rfl
    · rfl
    · rfl
    · exact flat_own h1 e he
  · intro e he
    simp only [List.mem_cons, List.not_mem_nil, or_false] at he
    rcases he with rfl | rfl | rfl | rfl | rfl <;> rfl
/-- What New yields. -/
def NewA (w0 : World) (k : Int) (s : Sp) (l : List En) (v : Value) (w' : World) : Prop := (v = .tuple #[.pointer none, .int .i64 1] ∧ Hp w0 w' l) ∨ ∃ X E, v = .tuple #[.pointer (some ⟨X, 0, none⟩), .int .i64 0] ∧ Lat k s X (fun _ => 0) 0 0 E ∧ Hp w0 w' (E ++ l)
theorem new1_a {w0 w' : World} {k most : Int} {s : Sp} {l : List En} {v : Value} (h : New1 w0 k most s l v w') : NewA w0 k s l v w' := by
  rcases h with ⟨rfl, h⟩ | ⟨hm, X, K, g, n, cap, js, xs, rfl, h1, h2, h3, h4⟩
  · exact .inl ⟨rfl, h⟩
  · have h5 := may_true hm
    have h6 := may_sound hm
    refine .inr ⟨X, _, rfl, ⟨h6.1, h5.2.2.1, h5.2.2.2.1, by omega, fun _ => Nat.le_refl _, fun _ _ => rfl, .inl ⟨most, K, g, n, cap, js, xs, rfl, h1, ?_, ?_⟩⟩, h4⟩
    · rw [List.length_map, h2]
    · rw [List.length_map, h3, h6.2]
theorem new2_a {w0 w' : World} {kind k most : Int} {full : Bool} {s : Sp} {l : List En} {v : Value} (hk : kind = 2 ∨ kind = 3) (h : New2 w0 kind k most full s l v w') : NewA w0 k s l v w' := by
  rcases h with ⟨rfl, _, h⟩ | ⟨hm, X, P, G, T, bm, rfl, h4⟩
  · exact .inl ⟨rfl, h⟩
  · have h5 := may_true hm
    have h6 := may_sound hm
    have hn : s.n = 1 := by omega
    exact .inr ⟨X, _, rfl, ⟨h6.1, h5.2.2.1, h5.2.2.2.1, by omega, fun _ => Nat.le_refl _, fun _ _ => rfl, .inr ⟨kind, most, full, P, G, T, 0, bm, 1, _, rfl, hn, TI.start hn h6.1, by simp⟩⟩, h4⟩
theorem lat_new {w0 w : World} {l : List En} (HH : Hp w0 w l) (kind k most : Int) (s : Sp) (hk : kind = 1 ∨ kind = 2 ∨ kind = 3) : Calls Tryz.prog 4 #[.agg #[.int .i64 kind, .int .i64 k, .int .i64 most, .int .i64 s.n, .int .i64 s.d0.k, .int .i64 s.d0.s, .int .i64 s.d0.t, .int .i64 s.d1.k, .int .i64 s.d1.s, .int .i64 s.d1.t]] w fun e w' => ∃ v, e = .returned v ∧ NewA w0 k s l v w' := by
  rcases hk with rfl | rfl | rfl
  · exact (lnew1_walk HH k most s).mono fun e w' ⟨v, h1, h2⟩ => ⟨v, h1, new1_a h2⟩
  · exact (lnew2_walk HH k most s).mono fun e w' ⟨v, h1, h2⟩ => ⟨v, h1, new2_a (.inl rfl) h2⟩
  · exact (lnew3_walk HH k most s).mono fun e w' ⟨v, h1, h2⟩ => ⟨v, h1, new2_a (.inr rfl) h2⟩

/-- What Insert yields. -/
def InsA (w0 : World) (k : Int) (s : Sp) (X : Nat) (F : Px → Nat) (t i : Nat) (p : Px) (wv : Nat) (l : List En) (v : Value) (w' : World) : Prop := (v = .int .i64 0 ∧ ∃ E', Lat k s X (fOv s F p wv) (t + wv) (i + 1) E' ∧ Hp w0 w' (E' ++ l)) ∨ ((∃ z : Int, v = .int .i64 z ∧ z ≠ 0) ∧ Hp w0 w' l)
theorem fOv_le {s : Sp} {F : Px → Nat} {t : Nat} (h : ∀ q, F q ≤ t) (p : Px) (wv : Nat) : ∀ q, fOv s F p wv q ≤ t + wv := fun q => by
  have := h q
  unfold fOv
  split <;> omega
theorem fOv_zero {s : Sp} {F : Px → Nat} (h : ∀ q, RB s q = false → F q = 0) {p : Px} (ho : p.ok) (wv : Nat) : ∀ q, RB s q = false → fOv s F p wv q = 0 := fun q hq => by
  unfold fOv
  rw [h q hq, if_neg]
  intro h1
  rw [over_right ho h1] at hq
  cases hq
theorem lat_ins {w0 w : World} {l E : List En} {k : Int} {s : Sp} {X : Nat} {F : Px → Nat} {t i : Nat} (h : Lat k s X F t i E) (HH : Hp w0 w (E ++ l)) (hi : i ≤ 5000) (p : Px) (hp : p.ok) (wv : Nat) : Calls Tryz.prog 6 #[.pointer (some ⟨X, 0, none⟩), p.v, .int .u64 (wv : Int)] w fun e w' => ∃ v, e = .returned v ∧ InsA w0 k s X F t i p wv l v w' := by
  obtain ⟨h1, h2, h3, h4, h5, h6, ⟨most, K, g, n, cap, js, xs, rfl, r1, r2, r3⟩ | ⟨kind, most, full, P, G, T, sl, bm, c, mm, rfl, r1, r2, r3⟩⟩ := h
  · refine (lins1_walk (l := l) HH r1 rfl r2 h1 r3 h2 h3 h4 p hp (fun hr => all_self hp hr) (all_lev hp) wv).mono ?_
    rintro e w' ⟨v, rfl, G', xs', t', a1, a2, a3, a4⟩
    refine ⟨v, rfl, ?_⟩
    rcases a4 with ⟨rfl, b1, rfl, b2, rfl⟩ | b1
    · rw [allAdd_over hp b1.1] at a1
      refine .inl ⟨rfl, _, ⟨h1, h2, h3, b2, fOv_le h5 p wv, fOv_zero h6 hp wv, .inl ⟨most, K, g, n, cap, js, xs', rfl, a1, ?_, ?_⟩⟩, ?_⟩
      · rw [a2]
        exact r2
      · rw [a2]
        exact r3
      · rw [a2]
        exact a3
    · exact .inr ⟨b1, Hp.dropAll (r := XB X 1 k most s t' (.iface 58 (.pointer (some ⟨K, 0, none⟩))) :: LB K s g n cap :: QW g (xs.map Sm.S) js :: xs'.flatMap (Sm.es k)) a3 fun e he => by
        simp only [List.mem_cons] at he
        rcases he with rfl | rfl | rfl | he
        · rfl
        · rfl
        · rfl
        · exact flat_own a1 e he⟩
  · have hne : mm ≠ [] := fun e => by
      obtain ⟨u, hu⟩ := r2.top
      rw [e] at hu
      cases hu
    refine (lins2_walk (l := l) HH r2.ok hne (by omega) (fun x hx => (r2.mem x hx).1) (fun x hx => ?_) (psp r1) (pinv (F := F) (N := mm.length) r1 (by omega) h4 r2.sb) (fun L hL _ => r2.beg (Nat.le_refl _) hL) h2 h3 h4 p hp wv).mono ?_
    · rw [← r2.sum]
      exact le_sum (List.mem_map_of_mem (f := fun x : Me (Nat × Nat) => x.v.1) hx)
    rintro e w' ⟨v, rfl, ⟨rfl, b1, b2, T', bm', sl', m1, c1, b3, b4⟩ | ⟨b1, _, b2⟩⟩
    · obtain ⟨b5, b6⟩ := gib_ti r1 h1 r2 (Nat.le_refl _) b3
      have b7 := insZ_len r1 full sl' m1 c1 p wv
      exact ⟨_, rfl, .inl ⟨rfl, _, ⟨h1, h2, h3, b2, fOv_le h5 p wv, fOv_zero h6 hp wv, .inr ⟨kind, most, full, P, G, T', sl', bm', _, _, rfl, r1, b5.ins hp b1 full wv b2, by omega⟩⟩, b4⟩⟩
    · exact ⟨v, rfl, .inr ⟨b1, Hp.dropAll (r := [XB X kind k most s t (.iface 53 (.pointer (some ⟨P, 0, none⟩))), PB P G, GE G T k most, TE T s full t sl bm, ⟨bm, mp encG mm c, true⟩]) b2 fun e he => by
        simp only [List.mem_cons, List.not_mem_nil, or_false] at he
        rcases he with rfl | rfl | rfl | rfl | rfl <;> rfl⟩⟩

theorem lat_low {k : Int} {s : Sp} {X : Nat} {F : Px → Nat} {t i : Nat} {E : List En} (h : Lat k s X F t i E) (p : Px) (hp : p.ok) : ∃ lo, lo ≤ F p ∧ ∀ w0 w l, Hp w0 w (E ++ l) → Calls Tryz.prog 7 #[.pointer (some ⟨X, 0, none⟩), p.v] w fun e w' => e = .returned (.int .u64 (lo : Int)) ∧ Hp w0 w' (E ++ l) := by
  obtain ⟨h1, h2, h3, h4, h5, h6, ⟨most, K, g, n, cap, js, xs, rfl, r1, r2, r3⟩ | ⟨kind, most, full, P, G, T, sl, bm, c, mm, rfl, r1, r2, r3⟩⟩ := h
  · by_cases hr : RB s p = true
    · obtain ⟨l1, l2, l3, l4, l5⟩ := right_lev hr
      obtain ⟨b0, b1⟩ := placeV_bounds s l2 l3 l4 l5
      obtain ⟨j, hj⟩ := Int.eq_ofNat_of_zero_le b0
      rw [hj, ← r3, List.length_map] at b1
      have hj2 : j < xs.length := by omega
      have hs := r1 j hj2
      have hb := hs.p.bounds hs.i p
      have e : latF s F j p = F p := if_pos hj
      rw [e] at hb
      refine ⟨slowV xs[j].hs xs[j].mm xs[j].mb p, hb.1, fun w0 w l HH => ?_⟩
      refine (llow58_walk (l := LB K s g n cap :: QW g (xs.map Sm.S) js :: (xs.flatMap (Sm.es k) ++ l)) HH p hp (slowV xs[j].hs xs[j].mm xs[j].mb p) fun _ V hV => ?_).mono ?_
      · refine Hp.reads (E := LB K s g n cap :: QW g (xs.map Sm.S) js :: xs.flatMap (Sm.es k)) (hV.drop rfl) fun w1 m h => ?_
        refine vlow_walk (l := xs.flatMap (Sm.es k) ++ m) h p j (by rw [List.length_map]; exact hj2) r2 hj (place_gives s h1 l2 l3 l4 l5) _ fun V2 h8 => ?_
        have h9 := Hp.pull (P := [LB K s g n cap, QW g (xs.map Sm.S) js]) h8 j hj2
        have e2 : (xs.map Sm.S)[j]'(by rw [List.length_map]; exact hj2) = xs[j].S := by simp
        rw [e2]
        exact Hp.reads h9 fun w2 m2 h10 => slow_walk h10 hs.p hs.i hs.s p
      · rintro e w' ⟨rfl, h7⟩
        rw [if_pos hr]
        exact ⟨rfl, h7⟩
    · refine ⟨0, Nat.zero_le _, fun w0 w l HH => ?_⟩
      refine (llow58_walk (l := LB K s g n cap :: QW g (xs.map Sm.S) js :: (xs.flatMap (Sm.es k) ++ l)) HH p hp 0 fun h _ _ => absurd h hr).mono ?_
      rintro e w' ⟨rfl, h7⟩
      rw [if_neg hr]
      exact ⟨rfl, h7⟩
  · have hl : lowD s p mm < 4611686018427387905 := by
      have := lowD_le s p mm
      have := r2.sum
      omega
    refine ⟨if RB s p then lowD s p mm else 0, ?_, fun w0 w l HH => ?_⟩
    · split
      · exact r2.low p (by assumption)
      · exact Nat.zero_le _
    · refine (llow53_walk (l := [PB P G, GE G T k most, TE T s full t sl bm, ⟨bm, mp encG mm c, true⟩] ++ l) HH p hp (if RB s p then lowD s p mm else 0) fun _ V hV => ?_).mono ?_
      · exact Hp.reads (E := [PB P G, GE G T k most, TE T s full t sl bm, ⟨bm, mp encG mm c, true⟩]) (hV.drop rfl) fun w1 m h => clow_walk h r2.ok p hp (fun x hx => (r2.mem x hx).1) hl
      · rintro e w' ⟨rfl, h7⟩
        refine ⟨?_, h7⟩
        split <;> rfl

theorem lat_high {k : Int} {s : Sp} {X : Nat} {F : Px → Nat} {t i : Nat} {E : List En} (h : Lat k s X F t i E) (p : Px) (hp : p.ok) : ∃ hi, F p ≤ hi ∧ ∀ w0 w l, Hp w0 w (E ++ l) → Calls Tryz.prog 8 #[.pointer (some ⟨X, 0, none⟩), p.v] w fun e w' => e = .returned (.int .u64 (hi : Int)) ∧ Hp w0 w' (E ++ l) := by
  obtain ⟨h1, h2, h3, h4, h5, h6, ⟨most, K, g, n, cap, js, xs, rfl, r1, r2, r3⟩ | ⟨kind, most, full, P, G, T, sl, bm, c, mm, rfl, r1, r2, r3⟩⟩ := h
  · by_cases hr : RB s p = true
    · obtain ⟨l1, l2, l3, l4, l5⟩ := right_lev hr
      obtain ⟨b0, b1⟩ := placeV_bounds s l2 l3 l4 l5
      obtain ⟨j, hj⟩ := Int.eq_ofNat_of_zero_le b0
      rw [hj, ← r3, List.length_map] at b1
      have hj2 : j < xs.length := by omega
      have hs := r1 j hj2
      have hb := hs.p.bounds hs.i p
      have e : latF s F j p = F p := if_pos hj
      rw [e] at hb
      refine ⟨shighV xs[j].sp xs[j].hs xs[j].mm p, hb.2, fun w0 w l HH => ?_⟩
      refine (lhigh58_walk (l := LB K s g n cap :: QW g (xs.map Sm.S) js :: (xs.flatMap (Sm.es k) ++ l)) HH p hp (shighV xs[j].sp xs[j].hs xs[j].mm p) fun _ V hV => ?_).mono ?_
      · refine Hp.reads (E := LB K s g n cap :: QW g (xs.map Sm.S) js :: xs.flatMap (Sm.es k)) (hV.drop rfl) fun w1 m h => ?_
        refine vhigh_walk (l := xs.flatMap (Sm.es k) ++ m) h p j (by rw [List.length_map]; exact hj2) r2 hj (place_gives s h1 l2 l3 l4 l5) _ fun V2 h8 => ?_
        have h9 := Hp.pull (P := [LB K s g n cap, QW g (xs.map Sm.S) js]) h8 j hj2
        have e2 : (xs.map Sm.S)[j]'(by rw [List.length_map]; exact hj2) = xs[j].S := by simp
        rw [e2]
        exact Hp.reads h9 fun w2 m2 h10 => shigh_walk h10 hs.i hs.s p
      · rintro e w' ⟨rfl, h7⟩
        rw [if_pos hr]
        exact ⟨rfl, h7⟩
    · refine ⟨0, by rw [h6 p (by simpa using hr)]; exact Nat.le_refl _, fun w0 w l HH => ?_⟩
      refine (lhigh58_walk (l := LB K s g n cap :: QW g (xs.map Sm.S) js :: (xs.flatMap (Sm.es k) ++ l)) HH p hp 0 fun h _ _ => absurd h hr).mono ?_
      rintro e w' ⟨rfl, h7⟩
      rw [if_neg hr]
      exact ⟨rfl, h7⟩
  · have hl : lowD s p mm < 4611686018427387905 := by
      have := lowD_le s p mm
      have := r2.sum
      omega
    have hsb := r2.sb
    refine ⟨if RB s p then highD s p mm sl else 0, ?_, fun w0 w l HH => ?_⟩
    · split
      · exact r2.high p (by assumption)
      · rename_i hr
        rw [h6 p (by simpa using hr)]
        exact Nat.le_refl _
    · refine (lhigh53_walk (l := [PB P G, GE G T k most, TE T s full t sl bm, ⟨bm, mp encG mm c, true⟩] ++ l) HH p hp (if RB s p then highD s p mm sl else 0) fun _ V hV => ?_).mono ?_
      · refine Hp.reads (E := [PB P G, GE G T k most, TE T s full t sl bm, ⟨bm, mp encG mm c, true⟩]) (hV.drop rfl) fun w1 m h => chigh_walk h r2.ok p hp (fun x hx => (r2.mem x hx).1) hl (by omega) fun u hu => ?_
        obtain ⟨x, hx, _, e⟩ := mem_of_mget hu
        have := (r2.mem x hx).2.2
        rw [e] at this
        omega
      · rintro e w' ⟨rfl, h7⟩
        refine ⟨?_, h7⟩
        split <;> rfl

/-- The weights below a prefix, of a list. -/
def wOf (s : Sp) (ws : List (Px × Nat)) (q : Px) : Nat := (ws.map fun x => if OB s q x.1 then x.2 else 0).sum
theorem wOf_nil (s : Sp) : wOf s [] = fun _ => 0 := rfl
theorem wOf_snoc (s : Sp) (ws : List (Px × Nat)) (p : Px) (wv : Nat) : wOf s (ws ++ [(p, wv)]) = fOv s (wOf s ws) p wv := by
  funext q
  unfold wOf fOv
  simp

end Go.Proofs.YtcbahkfbdlhabaaGreatDoor
namespace Go.Proofs.YtcbahkfbdlhabaaGreatDoor
set_option linter.unusedVariables false
set_option linter.unusedSimpArgs false
open Go.RowKit

def s14 : Sp := ⟨1, ⟨1, 1, 8⟩, ⟨0, 0, 0⟩⟩
def p14 : Px := ⟨0, 0, ⟨1, 32, 4294967296, 0, ⟨#[]⟩⟩, ⟨0, 0, 0, 0, ⟨#[]⟩⟩⟩
theorem p14_ok : p14.ok := ⟨⟨by show 4294967296 < M; rw [M_eq]; omega, by show 0 < M; rw [M_eq]; omega, by show (0 : Nat) < 4294967281; omega⟩, ky0_ok⟩
theorem s14_may : mayV 2 4 20 s14 = true := by decide
theorem s14_top : (topX s14).a0 = 4 := by decide
theorem p14_on : OnD s14.d0 p14.a0 p14.k0 = true := by kernel_rfl
theorem p14_rb : RB s14 p14 = true := right_iff.2 ⟨(may_sound s14_may).1, p14_on, fun _ => ⟨rfl, rfl⟩, fun h => absurd rfl h⟩
theorem all_le2 {s : Sp} (hn : s.n = 1) (p : Px) : ((allP s p).length : Int) ≤ (topX s).a0 + 1 := by
  have b := top_bounds s
  unfold allP allD
  split
  · rename_i h
    have h1 := right_lev h
    have e : (topX s).a1 = 0 := by
      unfold topX
      rw [if_pos h1.1]
      dsimp only
      rw [sound_d1 h1.1 hn]
      decide
    rw [e]
    have h2 := Nat.le_trans (selT_le p (fun j => dimCutK okL lenL topT s.d0 j p.k0) (fun j => dimCutK okL lenL topT s.d1 j p.k1) (wUp (topX s).a0 0 (((topX s).a0 + 0).toNat + 1))) (wUp_le1 _ _)
    omega
  · show (([] : List Px).length : Int) ≤ _
    simp only [List.length_nil]
    omega
theorem miss14 (mm : List (Me (Nat × Nat))) : (missD s14 true mm p14).length ≤ 5 := by
  have h1 : (missD s14 true mm p14).length ≤ (allP s14 p14).length := missL_le true mm p14 _
  have h2 := all_le2 (s := s14) rfl p14
  rw [s14_top] at h2
  omega

/-- What holds when 7 went into the leaf. -/
def Is14 (X : Nat) (E : List En) : Prop := ∃ (P G T sl bm c : Nat) (mm : List (Me (Nat × Nat))), E = [XB X 2 4 20 s14 7 (.iface 53 (.pointer (some ⟨P, 0, none⟩))), PB P G, GE G T 4 20, TE T s14 true 7 sl bm, ⟨bm, mp encG mm c, true⟩] ∧ MOk mm c ∧ (∀ x ∈ mm, x.p.ok) ∧ lowD s14 p14 mm = 7
def At14 (X : Nat) (E : List En) : Prop := ∃ (P G T bm : Nat), E = [XB X 2 4 20 s14 0 (.iface 53 (.pointer (some ⟨P, 0, none⟩))), PB P G, GE G T 4 20, TE T s14 true 0 0 bm, ⟨bm, mp encG [⟨topX s14, (0, 0), 0⟩] 1, true⟩]
theorem new14 {w0 w : World} {l : List En} (HH : Hp w0 w l) : Calls Tryz.prog 4 #[.agg #[.int .i64 2, .int .i64 4, .int .i64 20, .int .i64 1, .int .i64 1, .int .i64 1, .int .i64 8, .int .i64 0, .int .i64 0, .int .i64 0]] w fun e w' => ∃ X E, e = .returned (.tuple #[.pointer (some ⟨X, 0, none⟩), .int .i64 0]) ∧ At14 X E ∧ Hp w0 w' (E ++ l) := by
  refine (lnew2_walk HH 4 20 s14).mono ?_
  rintro e w' ⟨v, rfl, ⟨_, h, _⟩ | ⟨_, X, P, G, T, bm, rfl, h⟩⟩
  · rw [s14_may] at h
    cases h
  · exact ⟨X, _, rfl, ⟨P, G, T, bm, rfl⟩, h⟩
theorem ins14 {w0 w : World} {l E : List En} {X : Nat} (h : At14 X E) (HH : Hp w0 w (E ++ l)) : Calls Tryz.prog 6 #[.pointer (some ⟨X, 0, none⟩), p14.v, .int .u64 7] w fun e w' => ∃ E', e = .returned (.int .i64 0) ∧ Is14 X E' ∧ Hp w0 w' (E' ++ l) := by
  obtain ⟨P, G, T, bm, rfl⟩ := h
  have hs := (may_sound s14_may).1
  have r2 : TI s14 [⟨topX s14, (0, 0), 0⟩] 1 0 0 (fun _ => 0) := TI.start rfl hs
  refine (lins2_walk (l := l) HH r2.ok (by simp) (by simp) (fun x hx => (r2.mem x hx).1) (fun x hx => ?_) (psp rfl) (pinv (F := fun _ => 0) (N := 1) rfl (by omega) (by omega) r2.sb) (fun L hL _ => r2.beg (Nat.le_refl _) hL) (by omega) (by omega) (by omega) p14 p14_ok 7).mono ?_
  · rw [List.mem_singleton.1 hx]
    exact Nat.le_refl _
  rintro e w' ⟨v, rfl, ⟨rfl, b1, b2, T', bm', sl', m1, c1, b3, b4⟩ | ⟨b1, b2, _⟩⟩
  · obtain ⟨b5, b6⟩ := gib_ti rfl hs r2 (Nat.le_refl _) b3
    have b7 := b5.ins p14_ok b1 true 7 b2
    have hsl : sl' = 0 := by
      have := b5.sb
      omega
    subst hsl
    refine ⟨_, rfl, ⟨P, G, T', 0, bm', _, _, rfl, b7.ok, fun x hx => (b7.mem x hx).1, ?_⟩, b4⟩
    have q1 := b7.low p14 p14_rb
    have q2 := b7.high p14 p14_rb
    have c3 : fOv s14 (fun _ => 0) p14 7 p14 = 7 := by
      unfold fOv
      rw [over_self p14_ok p14_rb]
      rfl
    rw [c3] at q1 q2
    have q3 : ∀ u, mget (insZ s14 true 0 m1 c1 p14 7).1 p14 = some u → u.2 = 0 := fun u hg => by
      obtain ⟨x, hx, _, e⟩ := mem_of_mget hg
      have := (b7.mem x hx).2.2
      rw [e] at this
      omega
    cases hg : mget (insZ s14 true 0 m1 c1 p14 7).1 p14 with
    | none =>
      rw [hg] at q2
      dsimp only at q2
      omega
    | some u =>
      have := q3 u hg
      rw [hg] at q2
      dsimp only at q2
      omega
  · refine absurd ⟨p14_rb, rfl, by omega, ?_⟩ b2
    unfold GiZ
    rw [if_pos (leaf_of p14_rb (by decide))]
    have h1 := miss14 [⟨topX s14, (0, 0), 0⟩]
    refine fun h => h ?_
    rw [IntWalk.i64_in _ (by omega)]
    simp only [List.length_cons, List.length_nil]
    omega
theorem low14 {w0 w : World} {l E : List En} {X : Nat} (h : Is14 X E) (HH : Hp w0 w (E ++ l)) : Calls Tryz.prog 7 #[.pointer (some ⟨X, 0, none⟩), p14.v] w fun e w' => e = .returned (.int .u64 7) ∧ Hp w0 w' (E ++ l) := by
  obtain ⟨P, G, T, sl, bm, c, mm, rfl, h1, h2, h3⟩ := h
  refine (llow53_walk (l := [PB P G, GE G T 4 20, TE T s14 true 7 sl bm, ⟨bm, mp encG mm c, true⟩] ++ l) HH p14 p14_ok 7 fun _ V hV => ?_).mono ?_
  · refine Hp.reads (E := [PB P G, GE G T 4 20, TE T s14 true 7 sl bm, ⟨bm, mp encG mm c, true⟩]) (hV.drop rfl) fun w1 m h => (clow_walk h h1 p14 p14_ok h2 (by rw [h3]; omega)).mono ?_
    rintro e w' ⟨rfl, h⟩
    rw [if_pos p14_rb, h3]
    exact ⟨rfl, h⟩
  · rintro e w' ⟨rfl, h7⟩
    rw [if_pos p14_rb]
    exact ⟨rfl, h7⟩
theorem tot14 {w0 w : World} {l E : List En} {X : Nat} (h : Is14 X E) (HH : Hp w0 w (E ++ l)) : Calls Tryz.prog 15 #[.pointer (some ⟨X, 0, none⟩)] w fun e w' => e = .returned (.int .u64 7) ∧ Hp w0 w' (E ++ l) := by
  obtain ⟨P, G, T, sl, bm, c, mm, rfl, h1, h2, h3⟩ := h
  refine (ltotal w (HH.get 0 rfl)).mono ?_
  rintro e w' ⟨rfl, h⟩
  exact ⟨rfl, HH.next h⟩
theorem Is14.own {X : Nat} {E : List En} (h : Is14 X E) : ∀ e ∈ E, e.own = true := by
  obtain ⟨P, G, T, sl, bm, c, mm, rfl, _⟩ := h
  intro e he
  simp only [List.mem_cons, List.not_mem_nil, or_false] at he
  rcases he with rfl | rfl | rfl | rfl | rfl <;> rfl

end Go.Proofs.YtcbahkfbdlhabaaGreatDoor
