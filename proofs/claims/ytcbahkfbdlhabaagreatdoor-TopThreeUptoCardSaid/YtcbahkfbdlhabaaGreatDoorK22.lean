/- A part of the proof that the law TopThree returns true for all arguments of bulk at most 1048576 (no other condition). Here: engine.may, New, Low, High, Insert. -/
import Derived.Test.YtcbahkfbdlhabaaGreatDoorK21
namespace Go.Proofs.YtcbahkfbdlhabaaGreatDoor
set_option linter.unusedVariables false
set_option linter.unusedSimpArgs false
open Go.RowKit
attribute [local go_sem] index24_0 index24_1 field34_0 field34_1
attribute [local irreducible] wpList Code.wp wpB

set_option maxRecDepth 100000 in
set_option maxHeartbeats 4000000 in
theorem gmay_ok (kk most : Int) (h1 : 1 ≤ kk) (h2 : kk ≤ 200) (h3 : 1 ≤ most) (h4 : most ≤ 5000) : Gives 22 #[.int .i64 kk, .int .i64 most] (.bool true) := fun w => by
  have HH := Hp.nil w
  go_enter Tryz.func22, Tryz.ntmps22
  go_wp2_with (first | ((with_reducible show zX (Op.binOp _ _ _ _ _)); (refine wpl_cmp (p := ?_) rfl rfl rfl ?_ ?_ ?_; rotate_left; (focus (go_simp; with_reducible rfl)); all_goals (intro hq; (try (contradiction)); (try simp only [zw] at hq); (try simp only [Act.put, zz])))) | ((with_reducible show zY (Op.binOp _ _ _ _ _)); (refine wpl_cmp (p := ?_) rfl rfl (by simp only [Region.wanted, yielded, zy, Option.bind_some]; decide) ?_ ?_ ?_; rotate_left; (focus (go_simp; with_reducible rfl)); all_goals (intro hq; (try (contradiction)); (try simp only [zw] at hq); (try simp only [Act.put, zz])))))
  go_ret
  exact ⟨rfl, HH.below rfl⟩

set_option maxRecDepth 100000 in
set_option maxHeartbeats 4000000 in
theorem gnew_walk {w0 w : World} {l : List En} (HH : Hp w0 w l) (s : Sp) (full : Bool) (kk most : Int) (hs : soundB s = true) (hn : s.n = 1) (h1 : 1 ≤ kk) (h2 : kk ≤ 200) (h3 : 1 ≤ most) (h4 : most ≤ 5000) : Calls Tryz.prog 11 #[s.v, .bool full, .int .i64 kk, .int .i64 most] w fun e w' => ∃ (v : Value) (G T bm : Nat), e = .returned v ∧ v = .pointer (some ⟨G, 0, none⟩) ∧ Hp w0 w' (GE G T kk most :: TE T s full 0 0 bm :: ⟨bm, mp encG [⟨topX s, (0, 0), 0⟩] 1, true⟩ :: l) := by
  have HMAY := gmay_ok kk most h1 h2 h3 h4
  have hN := Lib.hid hn
  clear hn
  go_enter Tryz.func11, Tryz.ntmps11
  go_wp2_with (first | (go_at_call 21; refine (new_walk s full hs hN.out HH).mono ?_; rintro e V ⟨T, bm, rfl, HH2⟩; clear HH; have HH := HH2; clear HH2; (try simp only [Act.put, zz])) | (go_at_call 22; (with_reducible refine ((HMAY) _).mono ?_); rintro e V ⟨rfl, hb⟩; replace HH := HH.next hb; clear hb) | ((with_reducible show zX (Op.load _ _)); (refine wpl_load HH 0 rfl rfl rfl rfl rfl ?_; (try simp only [Act.put, zz]))) | ((with_reducible show zX (Op.binOp _ _ _ _ _)); (refine wpl_cmp (p := ?_) rfl rfl rfl ?_ ?_ ?_; rotate_left; (focus (go_simp; with_reducible rfl)); all_goals (intro hq; (try (contradiction)); (try simp only [zw] at hq); (try simp only [Act.put, zz])))) | ((with_reducible show zW (Op.box _ _)); refine wpl_box HH rfl rfl rfl ?_; clear HH; intro b V HH; simp only [Act.eval, zx, Value.cells, putl, zC, zB] at HH; (try simp only [Act.put, zz])))
  go_ret
  exact ⟨_, _, T, bm, rfl, rfl, HH.lose 3 rfl rfl⟩

set_option maxRecDepth 100000 in
set_option maxHeartbeats 4000000 in
theorem glow_walk (w : World) {G T n sl bm : Nat} {kk most : Int} (hG : w.heap[G]? = some (.cells #[.pointer (some ⟨T, 0, none⟩), .int .i64 kk, .int .i64 most] 75 (0, 0))) {s : Sp} {full : Bool} (hT : w.heap[T]? = some (.cells #[.int .i64 s.n, .int .i64 s.d0.k, .int .i64 s.d0.s, .int .i64 s.d0.t, .int .i64 s.d1.k, .int .i64 s.d1.s, .int .i64 s.d1.t, .bool full, .int .u64 (n : Int), .int .u64 (sl : Int), .map (some bm)] 92 (0, 0))) {mm : List (Me (Nat × Nat))} {c : Nat} (hM : w.heap[bm]? = some (mp encG mm c)) (hk : MOk mm c) (p : Px) (hp : p.ok) (hmo : ∀ x ∈ mm, x.p.ok) (hb : lowD s p mm < 4611686018427387905) : Calls Tryz.prog 120 #[.pointer (some ⟨G, 0, none⟩), p.v] w fun e w' => e = .returned (.int .u64 ((if RB s p then lowD s p mm else 0 : Nat) : Int)) ∧ Below w.heap.size w w' := by
  have HLW := fun (V : World) (h1 : V.heap[T]? = some (.cells #[.int .i64 s.n, .int .i64 s.d0.k, .int .i64 s.d0.s, .int .i64 s.d0.t, .int .i64 s.d1.k, .int .i64 s.d1.s, .int .i64 s.d1.t, .bool full, .int .u64 (n : Int), .int .u64 (sl : Int), .map (some bm)] 92 (0, 0))) (h2 : V.heap[bm]? = some (mp encG mm c)) => low_walk V h1 h2 hk p hp hmo hb
  generalize (if RB s p then lowD s p mm else 0 : Nat) = lw at *
  have h1 : T ≠ bm := by
    rintro rfl
    rw [hT] at hM
    cases hM
  have h2 : G ≠ T := by
    rintro rfl
    rw [hG] at hT
    cases hT
  have h3 : G ≠ bm := by
    rintro rfl
    rw [hG] at hM
    cases hM
  have HH : Hp w w [⟨G, .cells #[.pointer (some ⟨T, 0, none⟩), .int .i64 kk, .int .i64 most] 75 (0, 0), false⟩, ⟨T, .cells #[.int .i64 s.n, .int .i64 s.d0.k, .int .i64 s.d0.s, .int .i64 s.d0.t, .int .i64 s.d1.k, .int .i64 s.d1.s, .int .i64 s.d1.t, .bool full, .int .u64 (n : Int), .int .u64 (sl : Int), .map (some bm)] 92 (0, 0), false⟩, ⟨bm, mp encG mm c, false⟩] := Hp.start ⟨hG, hT, hM, trivial⟩ (by simp [h1, h2, h3]) rfl
  have hTL := Lib.hid hT
  have hML := Lib.hid hM
  have hGL := Lib.hid hG
  clear hT hM hG
  go_enter Tryz.func120, Tryz.ntmps120
  go_wp2_with (first | (go_at_call 121; (refine (gmade _ (HH.get 1 rfl)).mono ?_); rintro e V ⟨rfl, hb⟩; replace HH := HH.next hb; clear hb) | ((with_reducible show zW (Op.box _ _)); refine wpl_box HH rfl rfl rfl ?_; clear HH; intro b V HH; simp only [Act.eval, zx, Value.cells, putl, zC, zB] at HH; (try simp only [Act.put, zz])) | ((with_reducible show Code.wp _ (Code.region _ _ true) _ _ _); (refine wp_tail_Hp (id := 3) [0, 1, 2, 3, 4, 5, 6] [] (by kernel_rfl) HH ?_; clear HH; (try dsimp only); (try simp only [pick, zy]); repeat' (first | ((with_reducible show wpB _ _ _ _ [] _); refine wpB_nil ?_; intro V HH; (try simp only [pick, zy]); (try simp only [Act.put, zz]); (try simp only [Value.cells] at HH)) | (((with_reducible show zU _); (first | ((with_reducible show zT (Op.move _)); refine wpB_move rfl rfl rfl ?_) | ((with_reducible show zT (Op.assign _)); refine wpB_assign rfl rfl rfl ?_) | ((with_reducible show zT (Op.call _)); refine wpB_callH (f := 128) (args := #[.pointer (some ⟨T, 0, none⟩), p.v]) (v := .int .u64 (lw : Int)) rfl (fun V hV => HLW V (Hp.get hV 2 rfl) (Hp.get hV 3 rfl)) (fun w9 hS9 => ?_) ?_; (focus (go_simp; all_goals (fail)))) | ((with_reducible show zT (Op.load _ _)); (first | refine wpB_load 0 rfl rfl rfl rfl rfl ?_ | refine wpB_load 1 rfl rfl rfl rfl rfl ?_)) | (refine wpB_val (v := ?_) rfl ?_ ?_; rotate_left; (focus (intro w9 hS9; go_simp; all_goals (with_reducible rfl)))))); all_goals (try simp only [Act.put, zz, Act.eval, zx]))))))
  go_ret
  exact ⟨rfl, Hp.back (l := [_]) (r := [_, _, _]) HH (by intro e he; simp only [List.mem_cons, List.not_mem_nil, or_false] at he; rcases he with rfl | rfl | rfl; exact hGL.out; exact hTL.out; exact hML.out) rfl⟩

set_option maxRecDepth 100000 in
set_option maxHeartbeats 4000000 in
theorem ghigh_walk (w : World) {G T n sl bm : Nat} {kk most : Int} (hG : w.heap[G]? = some (.cells #[.pointer (some ⟨T, 0, none⟩), .int .i64 kk, .int .i64 most] 75 (0, 0))) {s : Sp} {full : Bool} (hT : w.heap[T]? = some (.cells #[.int .i64 s.n, .int .i64 s.d0.k, .int .i64 s.d0.s, .int .i64 s.d0.t, .int .i64 s.d1.k, .int .i64 s.d1.s, .int .i64 s.d1.t, .bool full, .int .u64 (n : Int), .int .u64 (sl : Int), .map (some bm)] 92 (0, 0))) {mm : List (Me (Nat × Nat))} {c : Nat} (hM : w.heap[bm]? = some (mp encG mm c)) (hk : MOk mm c) (p : Px) (hp : p.ok) (hmo : ∀ x ∈ mm, x.p.ok) (hb : lowD s p mm < 4611686018427387905) (hsl : sl < 4611686018427387905) (hu : ∀ u, mget mm p = some u → u.2 < 4611686018427387905) : Calls Tryz.prog 118 #[.pointer (some ⟨G, 0, none⟩), p.v] w fun e w' => e = .returned (.int .u64 ((if RB s p then highD s p mm sl else 0 : Nat) : Int)) ∧ Below w.heap.size w w' := by
  have HLW := fun (V : World) (h1 : V.heap[T]? = some (.cells #[.int .i64 s.n, .int .i64 s.d0.k, .int .i64 s.d0.s, .int .i64 s.d0.t, .int .i64 s.d1.k, .int .i64 s.d1.s, .int .i64 s.d1.t, .bool full, .int .u64 (n : Int), .int .u64 (sl : Int), .map (some bm)] 92 (0, 0))) (h2 : V.heap[bm]? = some (mp encG mm c)) => high_walk V h1 h2 hk p hp hmo hb hsl hu
  generalize (if RB s p then highD s p mm sl else 0 : Nat) = lw at *
  have h1 : T ≠ bm := by
    rintro rfl
    rw [hT] at hM
    cases hM
  have h2 : G ≠ T := by
    rintro rfl
    rw [hG] at hT
    cases hT
  have h3 : G ≠ bm := by
    rintro rfl
    rw [hG] at hM
    cases hM
  have HH : Hp w w [⟨G, .cells #[.pointer (some ⟨T, 0, none⟩), .int .i64 kk, .int .i64 most] 75 (0, 0), false⟩, ⟨T, .cells #[.int .i64 s.n, .int .i64 s.d0.k, .int .i64 s.d0.s, .int .i64 s.d0.t, .int .i64 s.d1.k, .int .i64 s.d1.s, .int .i64 s.d1.t, .bool full, .int .u64 (n : Int), .int .u64 (sl : Int), .map (some bm)] 92 (0, 0), false⟩, ⟨bm, mp encG mm c, false⟩] := Hp.start ⟨hG, hT, hM, trivial⟩ (by simp [h1, h2, h3]) rfl
  have hTL := Lib.hid hT
  have hML := Lib.hid hM
  have hGL := Lib.hid hG
  clear hT hM hG
  go_enter Tryz.func118, Tryz.ntmps118
  go_wp2_with (first | (go_at_call 121; (refine (gmade _ (HH.get 1 rfl)).mono ?_); rintro e V ⟨rfl, hb⟩; replace HH := HH.next hb; clear hb) | ((with_reducible show zW (Op.box _ _)); refine wpl_box HH rfl rfl rfl ?_; clear HH; intro b V HH; simp only [Act.eval, zx, Value.cells, putl, zC, zB] at HH; (try simp only [Act.put, zz])) | ((with_reducible show Code.wp _ (Code.region _ _ true) _ _ _); (refine wp_tail_Hp (id := 3) [0, 1, 2, 3, 4, 5, 6] [] (by kernel_rfl) HH ?_; clear HH; (try dsimp only); (try simp only [pick, zy]); repeat' (first | ((with_reducible show wpB _ _ _ _ [] _); refine wpB_nil ?_; intro V HH; (try simp only [pick, zy]); (try simp only [Act.put, zz]); (try simp only [Value.cells] at HH)) | (((with_reducible show zU _); (first | ((with_reducible show zT (Op.move _)); refine wpB_move rfl rfl rfl ?_) | ((with_reducible show zT (Op.assign _)); refine wpB_assign rfl rfl rfl ?_) | ((with_reducible show zT (Op.call _)); refine wpB_callH (f := 122) (args := #[.pointer (some ⟨T, 0, none⟩), p.v]) (v := .int .u64 (lw : Int)) rfl (fun V hV => HLW V (Hp.get hV 2 rfl) (Hp.get hV 3 rfl)) (fun w9 hS9 => ?_) ?_; (focus (go_simp; all_goals (fail)))) | ((with_reducible show zT (Op.load _ _)); (first | refine wpB_load 0 rfl rfl rfl rfl rfl ?_ | refine wpB_load 1 rfl rfl rfl rfl rfl ?_)) | (refine wpB_val (v := ?_) rfl ?_ ?_; rotate_left; (focus (intro w9 hS9; go_simp; all_goals (with_reducible rfl)))))); all_goals (try simp only [Act.put, zz, Act.eval, zx]))))))
  go_ret
  exact ⟨rfl, Hp.back (l := [_]) (r := [_, _, _]) HH (by intro e he; simp only [List.mem_cons, List.not_mem_nil, or_false] at he; rcases he with rfl | rfl | rfl; exact hGL.out; exact hTL.out; exact hML.out) rfl⟩

theorem field169_2 (c0 c1 c2 c3 c4 c5 c6 c7 c8 c9 v : Value) (w : World) : (Instr.field 169 (.agg #[c0, c1, c2, c3, c4, c5, c6, c7, c8, c9, v]) 2).run Tryz.prog w = .ok c8 w := by kernel_rfl
/-- An insertion, that of nothing as well. -/
def insZ (s : Sp) (full : Bool) (sl : Nat) (mm : List (Me (Nat × Nat))) (c : Nat) (p : Px) (wv : Nat) : List (Me (Nat × Nat)) × Nat := if wv = 0 then (mm, c) else insM s full sl mm c p wv
theorem ins_any {w0 w : World} {l : List En} {T n sl bm c : Nat} {s : Sp} {full : Bool} {mm : List (Me (Nat × Nat))} (HH : Hp w0 w (TE T s full n sl bm :: ⟨bm, mp encG mm c, true⟩ :: l)) (hc : MOk mm c) (p : Px) (hp : p.ok) (wv : Nat) (hlf : leafB s p = true) (hn : n + wv ≤ 4611686018427387904) (hg : ∀ x ∈ mm, x.v.1 ≤ n) : Calls Tryz.prog 126 #[.pointer (some ⟨T, 0, none⟩), p.v, .int .u64 (wv : Int)] w fun e w' => e = .returned (.int .i64 0) ∧ Hp w0 w' (TE T s full (n + wv) sl bm :: ⟨bm, mp encG (insZ s full sl mm c p wv).1 (insZ s full sl mm c p wv).2, true⟩ :: l) := by
  rcases Nat.eq_zero_or_pos wv with h0 | h0
  · subst h0
    have h1 : insZ s full sl mm c p 0 = (mm, c) := if_pos rfl
    rw [h1]
    exact ins_zero HH p hp hlf (by omega)
  · have h1 : insZ s full sl mm c p wv = insM s full sl mm c p wv := if_neg (by omega)
    rw [h1]
    exact ins_go HH hc p hp wv hlf hn h0 hg
theorem need_rd {T n sl bm c : Nat} {s : Sp} {full : Bool} {mm : List (Me (Nat × Nat))} (p : Px) (hp : p.ok) (V : World) (hT : V.heap[T]? = some (.cells #[.int .i64 s.n, .int .i64 s.d0.k, .int .i64 s.d0.s, .int .i64 s.d0.t, .int .i64 s.d1.k, .int .i64 s.d1.s, .int .i64 s.d1.t, .bool full, .int .u64 (n : Int), .int .u64 (sl : Int), .map (some bm)] 92 (0, 0))) (hM : V.heap[bm]? = some (mp encG mm c)) : Calls Tryz.prog 123 #[.pointer (some ⟨T, 0, none⟩), p.v] V fun e w' => e = .returned (.int .i64 ((if leafB s p then (missD s full mm p).length else 0 : Nat) : Int)) ∧ Below V.heap.size V w' := by
  have h1 : T ≠ bm := by
    rintro rfl
    rw [hT] at hM
    cases hM
  exact reader_of (E := [TE T s full n sl bm, ⟨bm, mp encG mm c, true⟩]) (R := fun e => e = .returned (.int .i64 ((if leafB s p then (missD s full mm p).length else 0 : Nat) : Int))) ⟨hT, hM, trivial⟩ (by simp [h1]) fun w0 l HH => need_walk HH p hp
theorem mputL_mem {α : Type} {l : List (Me α)} {c : Nat} {p : Px} {v : α} {y : Me α} (h : y ∈ mputL l c p v) : y ∈ l ∨ (y.p = p ∧ y.v = v) := by
  cases hg : mget l p with
  | none =>
    rw [(mput_none (c := c) (v := v) hg).1] at h
    rcases List.mem_append.1 h with h | h
    · exact .inl h
    · simp only [List.mem_singleton] at h
      subst h
      exact .inr ⟨rfl, rfl⟩
  | some u =>
    obtain ⟨l1, x, l2, rfl, hx, _, h2, _⟩ := mput_some (c := c) (v := v) hg
    rw [h2] at h
    rcases List.mem_append.1 h with h | h
    · exact .inl (by simp [h])
    · rcases List.mem_cons.1 h with h | h
      · subst h
        exact .inr ⟨rfl, rfl⟩
      · exact .inl (by simp [h])
theorem foldM_le (n : Nat) : ∀ (L : List Nd) (m : List (Me (Nat × Nat))) (c : Nat), (∀ x ∈ L, x.g ≤ n) → (∀ x ∈ m, x.v.1 ≤ n) → ∀ x ∈ (L.foldl (fun a x => (mputL a.1 a.2 x.p (x.g, x.d), mputC a.1 a.2 x.p)) (m, c)).1, x.v.1 ≤ n
  | [], m, c, _, h => h
  | x :: r, m, c, hl, h => foldM_le n r _ _ (fun y hy => hl y (by simp [hy])) fun y hy => by
      rcases mputL_mem hy with h1 | ⟨_, h1⟩
      · exact h y h1
      · rw [h1]
        exact hl x (by simp)
theorem le_sum {L : List Nat} {x : Nat} (h : x ∈ L) : x ≤ L.sum := by
  induction L with
  | nil => cases h
  | cons y r ih =>
    rcases List.mem_cons.1 h with rfl | h
    · simp
    · have := ih h
      simp only [List.sum_cons]
      omega
theorem ofM_le (s : Sp) {L : List Nd} {n : Nat} (h : (L.map Nd.g).sum = n) : ∀ x ∈ (ofM s L).1, x.v.1 ≤ n :=
  foldM_le n L _ _ (fun x hx => by rw [← h]; exact le_sum (List.mem_map_of_mem hx)) (by simp)
/-- Where an insertion goes in: the elder nodes or pressed ones. -/
def GiB (s : Sp) (n sl : Nat) (I : List (Me Nd) → Nat → Nat → Prop) (mm : List (Me (Nat × Nat))) (c : Nat) (sl' : Nat) (m1 : List (Me (Nat × Nat))) (c1 : Nat) : Prop :=
  (sl' = sl ∧ m1 = mm ∧ c1 = c) ∨ ∃ (mn : List (Me Nd)) (cn h : Nat) (L' : List Nd), I mn sl' h ∧ MOk mn cn ∧ L'.Perm (mn.map Me.v) ∧ RtF s n sl' L' ∧ m1 = (ofM s L').1 ∧ c1 = (ofM s L').2
/-- No room for what an insertion would lay. -/
def GiZ (s : Sp) (full : Bool) (mm : List (Me (Nat × Nat))) (p : Px) (most : Int) : Prop := ¬ (mm.length : Int) ≤ IntKind.i64.wrap (most - ((if leafB s p then (missD s full mm p).length else 0 : Nat) : Int))
/-- What an engine's insertion yields. -/
def GiR (w0 : World) (s : Sp) (full : Bool) (n sl : Nat) (I : List (Me Nd) → Nat → Nat → Prop) (G T bm : Nat) (kk most : Int) (mm : List (Me (Nat × Nat))) (c : Nat) (p : Px) (wv : Nat) (l : List En) (v : Value) (w' : World) : Prop :=
  (v = .int .i64 5 ∧ GiZ s full mm p most ∧ Hp w0 w' (GE G T kk most :: TE T s full n sl bm :: ⟨bm, mp encG mm c, true⟩ :: l)) ∨
  (v = .int .i64 0 ∧ ∃ (T' bm' sl' : Nat) (m1 : List (Me (Nat × Nat))) (c1 : Nat), GiB s n sl I mm c sl' m1 c1 ∧ Hp w0 w' (GE G T' kk most :: TE T' s full (n + wv) sl' bm' :: ⟨bm', mp encG (insZ s full sl' m1 c1 p wv).1 (insZ s full sl' m1 c1 p wv).2, true⟩ :: l))
attribute [local go_sem] field169_2

set_option maxRecDepth 100000 in
set_option maxHeartbeats 4000000 in
theorem gins_walk {w0 w : World} {l : List En} {G T n sl bm c : Nat} {kk most : Int} {s : Sp} {full : Bool} {mm : List (Me (Nat × Nat))} (HH : Hp w0 w (GE G T kk most :: TE T s full n sl bm :: ⟨bm, mp encG mm c, true⟩ :: l)) (hc : MOk mm c) (hne : mm ≠ []) (hlen : mm.length ≤ 1000000) (hmo : ∀ x ∈ mm, x.p.ok) (hg : ∀ x ∈ mm, x.v.1 ≤ n) (hS : PSp s) {I : List (Me Nd) → Nat → Nat → Prop} (hI : PInv s sl I) (h0 : ∀ L : List Nd, L.Perm (mm.map ndOf) → RtF s n sl L → I (begM L).1 sl 0) (hkk : 1 ≤ kk) (hk2 : kk ≤ 200) (p : Px) (hp : p.ok) (hlf : leafB s p = true) (wv : Nat) (hnw : n + wv ≤ 4611686018427387904) :
    Calls Tryz.prog 119 #[.pointer (some ⟨G, 0, none⟩), p.v, .int .u64 (wv : Int)] w fun e w' => ∃ v, e = .returned v ∧ GiR w0 s full n sl I G T bm kk most mm c p wv l v w' := by
  have hne2 : mm.length ≠ 0 := fun h => hne (List.eq_nil_of_length_eq_zero h)
  have hnb : n ≤ 4611686018427387904 := by omega
  have hwb : wv ≤ 4611686018427387904 := by omega
  have hgb : ∀ x ∈ mm, x.v.1 ≤ 4611686018427387904 := fun x hx => Nat.le_trans (hg x hx) hnb
  have HND := fun (V : World) h1 h2 => need_rd (T := T) (n := n) (sl := sl) (bm := bm) (c := c) (s := s) (full := full) (mm := mm) p hp V h1 h2
  have HLN := fun (V : World) h1 h2 => tlen_walk V (T := T) (n := n) (sl := sl) (bm := bm) (s := s) (full := full) h1 (mm := mm) (c := c) h2
  generalize hnd : (if leafB s p then (missD s full mm p).length else 0 : Nat) = nd at HND
  generalize hln : mm.length = ln at HLN
  go_enter Tryz.func119, Tryz.ntmps119
  go_wp2_with (first | (go_at_call 121; (refine (gmade _ (HH.get 1 rfl)).mono ?_); rintro e V ⟨rfl, hb⟩; replace HH := HH.next hb; clear hb) | (go_at_call 124; have H9 := ((HH.front 3 rfl).front 3 rfl); simp only [List.eraseIdx] at H9; (with_reducible refine (state_walk H9 hc hne hlen).mono ?_); clear H9; rintro e9 V ⟨L, v, r, hpm, rfl, HS, HH2⟩; obtain ⟨g, cap, js, rfl, rfl, hx1⟩ := HS.some (by rw [hpm.length_eq, List.length_map]; exact hne2); clear HH hpm HS hx1; simp only [List.cons_append, List.nil_append] at HH2; have HH := (HH2.lose 2 rfl rfl); clear HH2; (try simp only [List.eraseIdx] at HH); (try simp only [Act.put, zz])) | (go_at_call 126; (first | ((with_reducible refine (ins_any HH hc p hp wv hlf hnw hg).mono ?_); rintro e9 V ⟨rfl, HH2⟩; clear HH; have HH := HH2; clear HH2; (try simp only [Act.put, zz])) | ((with_reducible refine (ins_any HH (ofM_ok s _) p hp wv hlf hnw HMG.out).mono ?_); rintro e9 V ⟨rfl, HH2⟩; clear HH; have HH := HH2; clear HH2; (try simp only [Act.put, zz])))) | (go_at_call 127; have H9 := (HH.front 3 rfl); simp only [List.eraseIdx] at H9; (with_reducible refine (pressed_walk H9 hc hne hlen hmo hnb hgb hS hI h0 hkk hk2 wv hwb).mono ?_); clear H9; rintro e9 V ⟨v, rfl, hpd⟩; clear HH; rcases hpd with ⟨rfl, HH2⟩ | ⟨T2, bm2, mn, cn, slk, h, L', rfl, hIm, hcm, hpm, hrt, HH2⟩; rotate_left; (focus (have HMG := Lib.hid (ofM_le s hrt.2.2.2.2.2); have HRT := Lib.hid hrt; clear hrt; have HH := HH2; clear HH2; have HND2 := fun (V : World) h1 h2 => need_rd (T := T2) (n := n) (sl := slk) (bm := bm2) (c := (ofM s L').2) (s := s) (full := full) (mm := (ofM s L').1) p hp V h1 h2; have HLN2 := fun (V : World) h1 h2 => tlen_walk V (T := T2) (n := n) (sl := slk) (bm := bm2) (s := s) (full := full) h1 (mm := (ofM s L').1) (c := (ofM s L').2) h2; generalize hnd2 : (if leafB s p then (missD s full (ofM s L').1 p).length else 0 : Nat) = nd2 at HND2; generalize hln2 : (ofM s L').1.length = ln2 at HLN2; (try simp only [Act.put, zz]))); all_goals (try (have HH := HH2; clear HH2; (try simp only [Act.put, zz])))) | ((with_reducible show zX (Op.load _ _)); (first | (refine wpl_load HH 1 rfl rfl rfl rfl rfl ?_; (try simp only [Act.put, zz])) | (refine wpl_load HH 5 rfl rfl rfl rfl rfl ?_; (try simp only [Act.put, zz])))) | ((with_reducible show zW (Op.store _ _ _)); (refine wpl_store HH 2 rfl rfl rfl rfl rfl rfl rfl rfl ?_; clear HH; intro V HH; simp only [Act.eval, zx, Value.cells, putl, zC, zB] at HH; (try simp only [Act.put, zz]))) | ((with_reducible show zW (Op.box _ _)); refine wpl_box HH rfl rfl rfl ?_; clear HH; intro b V HH; simp only [Act.eval, zx, Value.cells, putl, zC, zB] at HH; (try simp only [Act.put, zz])) | ((with_reducible show Code.wp _ (Code.region _ _ true) _ _ _); (first | (refine wp_tail_Hp (id := 3) [0, 1, 2, 3, 4, 5, 6] [] (by kernel_rfl) HH ?_; clear HH; (try dsimp only); (try simp only [pick, zy]); repeat' (first | ((with_reducible show wpB _ _ _ _ [] _); refine wpB_nil ?_; intro V HH; (try simp only [pick, zy]); (try simp only [Act.put, zz]); (try simp only [Value.cells] at HH)) | (((with_reducible show zU _); (first | ((with_reducible show zT (Op.move _)); refine wpB_move rfl rfl rfl ?_) | ((with_reducible show zT (Op.assign _)); refine wpB_assign rfl rfl rfl ?_) | ((with_reducible show zT (Op.call _)); refine wpB_callH (f := 123) (args := #[.pointer (some ⟨T, 0, none⟩), p.v]) (v := .int .i64 (nd : Int)) rfl (fun V hV => HND V (Hp.get hV 2 rfl) (Hp.get hV 3 rfl)) (fun w9 hS9 => ?_) ?_; (focus (go_simp; all_goals (fail)))) | ((with_reducible show zT (Op.load _ _)); (first | refine wpB_load 0 rfl rfl rfl rfl rfl ?_ | refine wpB_load 1 rfl rfl rfl rfl rfl ?_)) | (refine wpB_val (v := ?_) rfl ?_ ?_; rotate_left; (focus (intro w9 hS9; go_simp; all_goals (with_reducible rfl)))))); all_goals (try simp only [Act.put, zz, Act.eval, zx])))) | (refine wp_tail_Hp (id := 5) [0, 1, 2, 3, 4, 5, 6, 7, 8, 9, 10, 11, 12, 13, 14, 15, 16, 17, 18, 19, 20, 21, 22, 23, 24, 25] [] (by kernel_rfl) HH ?_; clear HH; (try dsimp only); (try simp only [pick, zy]); repeat' (first | ((with_reducible show wpB _ _ _ _ [] _); refine wpB_nil ?_; intro V HH; (try simp only [pick, zy]); (try simp only [Act.put, zz]); (try simp only [Value.cells] at HH)) | ((first | ((with_reducible show zU _); (first | ((with_reducible show zT (Op.move _)); refine wpB_move rfl rfl rfl ?_) | ((with_reducible show zT (Op.binOp _ _ _ _ _)); (refine wpB_bool (p := ?_) rfl ?_ ?_ ?_; rotate_left; (focus (intro w9 hS9; go_simp; with_reducible rfl)); all_goals (intro hq; (try (fail))))) | ((with_reducible show zT (Op.pick _ _ _)); (refine wpB_bool (p := ?_) rfl ?_ ?_ ?_; rotate_left; (focus (intro w9 hS9; go_simp; with_reducible rfl)); all_goals (intro hq; (try (contradiction))))))) | ((with_reducible show zV _); (first | (refine wpB_skip (by simp only [Region.wanted, yielded, zy, Option.bind_some]; decide) ?_) | ((with_reducible show zT (Op.move _)); refine wpB_move rfl (by simp only [Region.wanted, yielded, zy, Option.bind_some]; decide) rfl ?_) | ((with_reducible show zT (Op.call _)); refine wpB_callH (f := 125) (args := #[.pointer (some ⟨T, 0, none⟩)]) (v := .int .i64 (ln : Int)) rfl (fun V hV => HLN V (Hp.get hV 0 rfl) (Hp.get hV 1 rfl)) (fun w9 hS9 => ?_) ?_; (focus (go_simp; all_goals (fail)))) | ((with_reducible show zT (Op.load _ _)); (refine wpB_load 3 rfl rfl rfl (by simp only [Region.wanted, yielded, zy, Option.bind_some]; decide) rfl ?_)) | ((with_reducible show zT (Op.binOp _ _ _ _ _)); (refine wpB_bool (p := ?_) (by simp only [Region.wanted, yielded, zy, Option.bind_some]; decide) ?_ ?_ ?_; rotate_left; (focus (intro w9 hS9; go_simp; with_reducible rfl)); all_goals (intro hq; (try (fail))))) | (refine wpB_val (v := ?_) (by simp only [Region.wanted, yielded, zy, Option.bind_some]; decide) ?_ ?_; rotate_left; (focus (intro w9 hS9; go_simp; all_goals (with_reducible rfl))))))); all_goals (try simp only [Act.put, zz, Act.eval, zx])))) | (refine wp_tail_Hp (id := 6) [0, 1, 2, 3, 4, 5] [6, 7] (by kernel_rfl) HH ?_; clear HH; (try dsimp only); (try simp only [pick, zy]); repeat' (first | ((with_reducible show wpB _ _ _ _ [] _); refine wpB_nil ?_; intro V HH; (try simp only [pick, zy]); (try simp only [Act.put, zz]); (try simp only [Value.cells] at HH)) | (((with_reducible show zU _); (first | ((with_reducible show zT (Op.move _)); refine wpB_move rfl rfl rfl ?_) | ((with_reducible show zT (Op.load _ _)); (first | refine wpB_load 2 rfl rfl rfl rfl rfl ?_ | refine wpB_load 3 rfl rfl rfl rfl rfl ?_)) | (refine wpB_val (v := ?_) rfl ?_ ?_; rotate_left; (focus (intro w9 hS9; go_simp; all_goals (with_reducible rfl)))))); all_goals (try simp only [Act.put, zz, Act.eval, zx])))) | (refine wp_tail_Hp (id := 8) [0, 1, 2, 3, 4, 5, 6, 7, 8, 9, 10, 11, 12, 13, 14] [] (by kernel_rfl) HH ?_; clear HH; (try dsimp only); (try simp only [pick, zy]); repeat' (first | ((with_reducible show wpB _ _ _ _ [] _); refine wpB_nil ?_; intro V HH; (try simp only [pick, zy]); (try simp only [Act.put, zz]); (try simp only [Value.cells] at HH)) | ((first | ((with_reducible show zU _); (first | ((with_reducible show zT (Op.move _)); refine wpB_move rfl rfl rfl ?_) | ((with_reducible show zT (Op.binOp _ _ _ _ _)); (refine wpB_bool (p := ?_) rfl ?_ ?_ ?_; rotate_left; (focus (intro w9 hS9; go_simp; with_reducible rfl)); all_goals (intro hq; (try (contradiction))))) | ((with_reducible show zT (Op.pick _ _ _)); (refine wpB_bool (p := ?_) rfl ?_ ?_ ?_; rotate_left; (focus (intro w9 hS9; go_simp; with_reducible rfl)); all_goals (intro hq; (try (contradiction))))))) | ((with_reducible show zV _); (first | (refine wpB_skip (by simp only [Region.wanted, yielded, zy, Option.bind_some]; decide) ?_) | ((with_reducible show zT (Op.move _)); refine wpB_move rfl (by simp only [Region.wanted, yielded, zy, Option.bind_some]; decide) rfl ?_) | ((with_reducible show zT (Op.call _)); refine wpB_callH (f := 123) (args := #[.pointer (some ⟨T2, 0, none⟩), p.v]) (v := .int .i64 (nd2 : Int)) rfl (fun V hV => HND2 V (Hp.get hV 0 rfl) (Hp.get hV 1 rfl)) (fun w9 hS9 => ?_) ?_; (focus (go_simp; all_goals (fail)))) | ((with_reducible show zT (Op.call _)); refine wpB_callH (f := 125) (args := #[.pointer (some ⟨T2, 0, none⟩)]) (v := .int .i64 (ln2 : Int)) rfl (fun V hV => HLN2 V (Hp.get hV 0 rfl) (Hp.get hV 1 rfl)) (fun w9 hS9 => ?_) ?_; (focus (go_simp; all_goals (fail)))) | ((with_reducible show zT (Op.load _ _)); (first | refine wpB_load 2 rfl rfl rfl (by simp only [Region.wanted, yielded, zy, Option.bind_some]; decide) rfl ?_ | refine wpB_load 5 rfl rfl rfl (by simp only [Region.wanted, yielded, zy, Option.bind_some]; decide) rfl ?_)) | ((with_reducible show zT (Op.binOp _ _ _ _ _)); (refine wpB_bool (p := ?_) (by simp only [Region.wanted, yielded, zy, Option.bind_some]; decide) ?_ ?_ ?_; rotate_left; (focus (intro w9 hS9; go_simp; with_reducible rfl)); all_goals (intro hq; (try (fail))))) | (refine wpB_val (v := ?_) (by simp only [Region.wanted, yielded, zy, Option.bind_some]; decide) ?_ ?_; rotate_left; (focus (intro w9 hS9; go_simp; all_goals (with_reducible rfl))))))); all_goals (try simp only [Act.put, zz, Act.eval, zx])))))))
  all_goals (go_ret; have H9 := HH; clear HH; first | (have HH := H9.front 3 rfl; simp only [List.eraseIdx] at HH; exact ⟨_, rfl, .inr ⟨rfl, T, bm, sl, mm, c, .inl ⟨rfl, rfl, rfl⟩, HH.lose 3 rfl rfl⟩⟩) | exact ⟨_, rfl, .inl ⟨rfl, (by unfold GiZ; rw [hnd, hln]; (apply of_decide_eq_false; assumption)), H9.lose 3 rfl rfl⟩⟩ | exact ⟨_, rfl, .inl ⟨rfl, (by unfold GiZ; rw [hnd, hln]; (apply of_decide_eq_false; assumption)), (((H9.drop rfl).drop rfl).lose 3 rfl rfl)⟩⟩ | (have HH := H9.front 2 rfl; simp only [List.eraseIdx] at HH; exact ⟨_, rfl, .inr ⟨rfl, T2, bm2, slk, _, _, .inr ⟨mn, cn, h, L', hIm, hcm, hpm, HRT.out, rfl, rfl⟩, (((HH.lose 3 rfl rfl).lose 3 rfl rfl).lose 3 rfl rfl)⟩⟩))

end Go.Proofs.YtcbahkfbdlhabaaGreatDoor
