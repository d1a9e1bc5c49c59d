/- The feed: FeedPours' walk. -/
import Derived.Test.YtlomjckmclefeaaE
import Derived.Test.YtlomjckmclefeaaF
namespace Go.Proofs.Ytlomjckmclefeaa
set_option linter.unusedVariables false
set_option linter.unusedSimpArgs false
open Go.Conc Go.RowKit

theorem Apart.right {b cu cn b2 cu2 cn2 : Nat} (d : Apart b cu cn b2 cu2 cn2) : b2 ∉ [cu, cn] ∧ cu2 ∉ [cu, cn] ∧ cn2 ∉ [cu, cn] := by
  obtain ⟨h1, h2, h3, h4, h5, h6, h7, h8, h9⟩ := d.l
  simp only [List.mem_cons, List.not_mem_nil, or_false, not_or]
  exact ⟨⟨h2, h3⟩, ⟨h5, h6⟩, ⟨h8, h9⟩⟩
theorem Apart.left {b cu cn b2 cu2 cn2 : Nat} (d : Apart b cu cn b2 cu2 cn2) : b ∉ [cu2, cn2] ∧ cu ∉ [cu2, cn2] ∧ cn ∉ [cu2, cn2] := by
  obtain ⟨h1, h2, h3, h4, h5, h6, h7, h8, h9⟩ := d.l
  simp only [List.mem_cons, List.not_mem_nil, or_false, not_or]
  exact ⟨⟨h4.symm, h7.symm⟩, ⟨h5.symm, h8.symm⟩, ⟨h6.symm, h9.symm⟩⟩
/-- Three feeds, two of them alike. -/
structure PrsAt (w wr : World) (n b1 c1 d1 b2 c2 d2 b3 c3 d3 : Nat) (U N U2 N2 : List Int) : Prop where
  f : FeedAt wr b1 c1 d1 n U N false
  g : FeedAt wr b2 c2 d2 n U2 N2 false
  t : FeedAt wr b3 c3 d3 n [] [] false
  below : Below w.heap.size w wr
  lo : w.heap.size ≤ b1 ∧ w.heap.size ≤ c1 ∧ w.heap.size ≤ d1 ∧ w.heap.size ≤ b2 ∧ w.heap.size ≤ c2 ∧ w.heap.size ≤ d2 ∧ w.heap.size ≤ b3 ∧ w.heap.size ≤ c3 ∧ w.heap.size ≤ d3
  a12 : Apart b1 c1 d1 b2 c2 d2
  a13 : Apart b1 c1 d1 b3 c3 d3
  a23 : Apart b2 c2 d2 b3 c3 d3
theorem PrsAt.start {w w1 w2 w3 : World} {n b1 c1 d1 b2 c2 d2 b3 c3 d3 : Nat} (h1 : FeedAt w1 b1 c1 d1 n [] [] false) (k1 : Below w.heap.size w w1) (l1 : w.heap.size ≤ b1 ∧ w.heap.size ≤ c1 ∧ w.heap.size ≤ d1)
    (h2 : FeedAt w2 b2 c2 d2 n [] [] false) (k2 : Below w1.heap.size w1 w2) (l2 : w1.heap.size ≤ b2 ∧ w1.heap.size ≤ c2 ∧ w1.heap.size ≤ d2)
    (h3 : FeedAt w3 b3 c3 d3 n [] [] false) (k3 : Below w2.heap.size w2 w3) (l3 : w2.heap.size ≤ b3 ∧ w2.heap.size ≤ c3 ∧ w2.heap.size ≤ d3) : PrsAt w w3 n b1 c1 d1 b2 c2 d2 b3 c3 d3 [] [] [] [] := by
  have s1 := h1.lt
  have s2 := h2.lt
  have z1 := k1.size
  have z2 := k2.size
  exact ⟨(h1.upd (Upd.of_below (l := []) k2) (by simp) (by simp) (by simp)).upd (Upd.of_below (l := []) k3) (by simp) (by simp) (by simp), h2.upd (Upd.of_below (l := []) k3) (by simp) (by simp) (by simp), h3,
    (k1.trans (k2.mono z1)).trans (k3.mono (by omega)), by omega, ⟨by omega⟩, ⟨by omega⟩, ⟨by omega⟩⟩
theorem PrsAt.drew {w wr : World} {n b1 c1 d1 b2 c2 d2 b3 c3 d3 : Nat} {U N U2 N2 : List Int} (h : PrsAt w wr n b1 c1 d1 b2 c2 d2 b3 c3 d3 U N U2 N2) : PrsAt w wr.drew n b1 c1 d1 b2 c2 d2 b3 c3 d3 U N U2 N2 :=
  ⟨h.f.drew, h.g.drew, h.t.drew, h.below.drew, h.lo, h.a12, h.a13, h.a23⟩
theorem PrsAt.push1 {w wr w1 : World} {n b1 c1 d1 b2 c2 d2 b3 c3 d3 : Nat} {U N U2 N2 U' N' : List Int} (h : PrsAt w wr n b1 c1 d1 b2 c2 d2 b3 c3 d3 U N U2 N2) (hf : FeedAt w1 b1 c1 d1 n U' N' false) (k : Upd [c1, d1] wr w1) : PrsAt w w1 n b1 c1 d1 b2 c2 d2 b3 c3 d3 U' N' U2 N2 := by
  obtain ⟨a1, a2, a3⟩ := h.a12.right
  obtain ⟨t1, t2, t3⟩ := h.a13.right
  have lo := h.lo
  exact ⟨hf, h.g.upd k a1 a2 a3, h.t.upd k t1 t2 t3, k.below h.below h.below.size (fun i hi => by simp at hi; omega), lo, h.a12, h.a13, h.a23⟩
theorem PrsAt.push2 {w wr w1 : World} {n b1 c1 d1 b2 c2 d2 b3 c3 d3 : Nat} {U N U2 N2 U' N' : List Int} (h : PrsAt w wr n b1 c1 d1 b2 c2 d2 b3 c3 d3 U N U2 N2) (hf : FeedAt w1 b2 c2 d2 n U' N' false) (k : Upd [c2, d2] wr w1) : PrsAt w w1 n b1 c1 d1 b2 c2 d2 b3 c3 d3 U N U' N' := by
  obtain ⟨a1, a2, a3⟩ := h.a12.left
  obtain ⟨t1, t2, t3⟩ := h.a23.right
  have lo := h.lo
  exact ⟨h.f.upd k a1 a2 a3, hf, h.t.upd k t1 t2 t3, k.below h.below h.below.size (fun i hi => by simp at hi; omega), lo, h.a12, h.a13, h.a23⟩

/-- Behind the pouring. -/
structure EmptiedAt (w wr : World) (n b1 c1 d1 b2 c2 d2 b3 c3 d3 : Nat) (U N : List Int) : Prop where
  f : FeedAt wr b1 c1 d1 n [] [] false
  g : FeedAt wr b2 c2 d2 n U N false
  t : FeedAt wr b3 c3 d3 n U N false
  below : Below w.heap.size w wr
  lo : w.heap.size ≤ b1 ∧ w.heap.size ≤ c1 ∧ w.heap.size ≤ d1 ∧ w.heap.size ≤ b2 ∧ w.heap.size ≤ c2 ∧ w.heap.size ≤ d2 ∧ w.heap.size ≤ b3 ∧ w.heap.size ≤ c3 ∧ w.heap.size ≤ d3
  a23 : Apart b2 c2 d2 b3 c3 d3
theorem EmptiedAt.drew {w wr : World} {n b1 c1 d1 b2 c2 d2 b3 c3 d3 : Nat} {U N : List Int} (h : EmptiedAt w wr n b1 c1 d1 b2 c2 d2 b3 c3 d3 U N) : EmptiedAt w wr.drew n b1 c1 d1 b2 c2 d2 b3 c3 d3 U N :=
  ⟨h.f.drew, h.g.drew, h.t.drew, h.below.drew, h.lo, h.a23⟩
theorem EmptiedAt.of {w w1 w2 : World} {n b1 c1 d1 b2 c2 d2 b3 c3 d3 : Nat} {U N : List Int} {cl : Bool} (h : PrsAt w w1 n b1 c1 d1 b2 c2 d2 b3 c3 d3 U N U N) (k : PourAt w1 w2 b1 c1 d1 n b3 c3 d3 n false [] [] U N) : EmptiedAt w w2 n b1 c1 d1 b2 c2 d2 b3 c3 d3 U N := by
  obtain ⟨a1, a2, a3⟩ := h.a12.right
  obtain ⟨t1, t2, t3⟩ := h.a23.left
  have lo := h.lo
  have q : ∀ i, i ∉ [c1, d1] → i ∉ [c3, d3] → i ∉ [c1, d1, c3, d3] := fun i h1 h2 h3 => by simp at h1 h2 h3; omega
  exact ⟨k.f, h.g.upd k.upd (q _ a1 t1) (q _ a2 t2) (q _ a3 t3), k.t, k.upd.below h.below h.below.size (fun i hi => by simp at hi; omega), lo, h.a23⟩
/-- What two feeds gave. -/
structure CmpAt (w wr : World) (g h : Value) (Q : List Int) : Prop where
  got : IntsAt wr g Q
  want : IntsAt wr h Q
  below : Below w.heap.size w wr
theorem CmpAt.drew {w wr : World} {g h : Value} {Q : List Int} (e : CmpAt w wr g h Q) : CmpAt w wr.drew g h Q :=
  ⟨e.got.below ((Below.refl _ _).drew), e.want.below ((Below.refl _ _).drew), e.below.drew⟩
theorem EmptiedAt.rest1 {w w1 w2 : World} {n b1 c1 d1 b2 c2 d2 b3 c3 d3 : Nat} {U N : List Int} {v : Value} {Q : List Int} (h : EmptiedAt w w1 n b1 c1 d1 b2 c2 d2 b3 c3 d3 U N) (r : RestAt w1 w2 b2 c2 d2 n false v Q [] []) : FeedAt w2 b3 c3 d3 n U N false := by
  obtain ⟨t1, t2, t3⟩ := h.a23.right
  exact h.t.upd r.upd t1 t2 t3
theorem CmpAt.of {w w1 w2 w3 : World} {n b1 c1 d1 b2 c2 d2 b3 c3 d3 : Nat} {U N : List Int} {v v' : Value} {Q : List Int} (h : EmptiedAt w w1 n b1 c1 d1 b2 c2 d2 b3 c3 d3 U N) (r : RestAt w1 w2 b2 c2 d2 n false v Q [] []) (r' : RestAt w2 w3 b3 c3 d3 n false v' Q [] []) : CmpAt w w3 v v' Q := by
  have t := h.t.lt
  have lo := h.lo
  refine ⟨(r.own.upd r'.upd (fun i hi => ?_)).at, r'.own.at, r'.upd.below (r.upd.below h.below h.below.size (fun i hi => by simp at hi; omega)) (by have := h.below.size; have := r.upd.size; omega) (fun i hi => by simp at hi; omega)⟩
  have := (r.own.lt i hi).1
  simp; omega

set_option maxRecDepth 100000 in
theorem pours_none (n : Int) (v1 v2 : Value) (hn : n < 1 ∨ 256 < n) (w : World) : Calls Try.prog 5 #[.int .i64 n, v1, v2] w fun e w' => e = .returned (.bool true) ∧ Below w.heap.size w w' := by
  have C := Lib.hid (new_none n hn w)
  have A := Lib.hid (alive19_any w)
  by_cases h1 : n < 1
  · have d1 : decide (n < 1) = true := decide_eq_true h1
    clear hn h1
    go_enter Try.func5, Try.ntmps5
    go_wp2_with (first
      | (go_at_call 6; (with_reducible refine C.out.mono ?_); rintro e w1 ⟨rfl, rfl⟩)
      | (go_at_call 7; (with_reducible refine A.out.mono ?_); rintro e w1 ⟨rfl, hb⟩; have HB := Lib.hid hb; clear hb))
    go_ret
    exact ⟨rfl, HB.out⟩
  · have d1 : decide (n < 1) = false := decide_eq_false h1
    have d2 : decide (256 < n) = true := decide_eq_true (by omega)
    clear hn h1
    go_enter Try.func5, Try.ntmps5
    go_wp2_with (first
      | (go_at_call 6; (with_reducible refine C.out.mono ?_); rintro e w1 ⟨rfl, rfl⟩)
      | (go_at_call 7; (with_reducible refine A.out.mono ?_); rintro e w1 ⟨rfl, hb⟩; have HB := Lib.hid hb; clear hb))
    go_ret
    exact ⟨rfl, HB.out⟩

set_option maxRecDepth 100000 in
set_option maxHeartbeats 16000000 in
theorem pours_walk (n : Nat) (hn1 : 1 ≤ n) (hn2 : n ≤ 256) (xs : List Int) (us : List Bool) (v1 v2 : Value) (w : World) (hx : IntsAt w v1 xs) (hu : BoolsAt w v2 us) :
    Calls Try.prog 5 #[.int .i64 (n : Int), v1, v2] w fun e w' => e = .returned (.bool true) ∧ Below w.heap.size w w' := by
  obtain ⟨a1, cap1, rfl, hc1⟩ := hx.form
  obtain ⟨a2, cap2, rfl, hc2⟩ := hu.form
  have HC1 := Lib.hid hc1
  have HC2 := Lib.hid hc2
  have HNew : Hid (∀ W, Calls Try.prog 6 #[.int .i64 (n : Int)] W fun e w' => ∃ v, e = .returned v ∧ NewFeed W w' v n) := fun W => new_any n hn1 hn2 W
  have HN := Lib.hid hn2
  clear hx hu hc1 hc2 hn1 hn2
  go_enter Try.func5, Try.ntmps5
  go_wp2_with (first
    | (go_at_call 6; (with_reducible refine (HNew.out w).mono ?_); rintro e w1 ⟨v, rfl, hN⟩
       obtain ⟨b1, c1, d1, rfl, hf1, l1⟩ := hN.ex
       have hk1 := hN.below
       clear hN)
    | (go_at_call 6; (with_reducible refine (HNew.out w1).mono ?_); rintro e w2 ⟨v, rfl, hN⟩
       obtain ⟨b2, c2, d2, rfl, hf2, l2⟩ := hN.ex
       have hk2 := hN.below
       clear hN)
    | (go_at_call 6; (with_reducible refine (HNew.out w2).mono ?_); rintro e w3 ⟨v, rfl, hN⟩
       obtain ⟨b3, c3, d3, rfl, hf3, l3⟩ := hN.ex
       have hk3 := hN.below
       have H0 := Lib.hid (PrsAt.start hf1 hk1 l1 hf2 hk2 l2 hf3 hk3 l3)
       clear hN hk1 hk2 hk3 hf1 hf2 hf3 l1 l2 l3))
  go_loopw [10] (fun i wr => ∃ (k : Nat) (U N : List Int), i = .int .i64 k ∧ k ≤ 2000 ∧ PrsAt w wr n b1 c1 d1 b2 c2 d2 b3 c3 d3 U N U N) (fun i _ => (2000 - intOf i).toNat)
  case atStart => exact ⟨0, [], [], rfl, by omega, H0.out⟩
  case round =>
    obtain ⟨k, U, N, rfl, hk, hO⟩ := hrel
    clear H0 HNew
    have HO := Lib.hid hO
    by_cases hall : k < xs.length ∧ k < us.length ∧ k < 2000
    · obtain ⟨q1, q2, q3⟩ := hall
      obtain ⟨e1, off1, rfl, hcell1⟩ := HC1.out (by omega)
      obtain ⟨e2, off2, rfl, hcell2⟩ := HC2.out (by omega)
      have HCx : Hid (∀ W, Below w.heap.size w W → W.cell? ⟨e1, off1 + k, none⟩ = some (.int .i64 xs[k])) := fun W hW => by
        rw [hW.cell (World.block_lt_of_cell? w _ (hcell1 k q1))]; exact hcell1 k q1
      have HCu : Hid (∀ W, Below w.heap.size w W → W.cell? ⟨e2, off2 + k, none⟩ = some (.bool us[k])) := fun W hW => by
        rw [hW.cell (World.block_lt_of_cell? w _ (hcell2 k q2))]; exact hcell2 k q2
      have d1' : decide (k < xs.length) = true := decide_eq_true q1
      have d2' : decide (k < us.length) = true := decide_eq_true q2
      have d3' : decide ((k : Int) < 2000) = true := by simp; omega
      have k0 : (0 : Int) ≤ k := by omega
      have k1 : (k : Int) < xs.length := by omega
      have k2 : (k : Int) < us.length := by omega
      have e9 : IntKind.i64.wrap ((k : Int) + 1) = ((k + 1 : Nat) : Int) := by rw [IntWalk.i64_in _ (by omega)]; omega
      have HK : Hid (k < 2000) := q3
      generalize xs[k] = x at *
      generalize us[k] = u at *
      have cx0 := HCx.out _ hO.below.drew
      have cu0 := HCu.out _ hO.below.drew
      have C1 : Hid (Calls Try.prog 8 #[.pointer (some ⟨b1, 0, none⟩), .int .i64 x, .bool u] wr.drew fun e w' => ∃ v, e = .returned v ∧ PrsAt w w' n b1 c1 d1 b2 c2 d2 b3 c3 d3 (pushU n U false u x) (pushN n N false u x) U N) :=
        (push_any b1 c1 d1 n U N false x u wr.drew hO.f.drew).mono (fun e w' he => ⟨_, he.1, hO.drew.push1 he.2.1 he.2.2⟩)
      have C2 : Hid (∀ W, PrsAt w W n b1 c1 d1 b2 c2 d2 b3 c3 d3 (pushU n U false u x) (pushN n N false u x) U N → Calls Try.prog 8 #[.pointer (some ⟨b2, 0, none⟩), .int .i64 x, .bool u] W.drew fun e w' => ∃ v, e = .returned v ∧ PrsAt w w' n b1 c1 d1 b2 c2 d2 b3 c3 d3 (pushU n U false u x) (pushN n N false u x) (pushU n U false u x) (pushN n N false u x)) := fun W hW =>
        (push_any b2 c2 d2 n U N false x u W.drew hW.g.drew).mono (fun e w' he => ⟨_, he.1, hW.drew.push2 he.2.1 he.2.2⟩)
      generalize pushU n U false u x = U' at *
      generalize pushN n N false u x = N' at *
      clear hcell1 hcell2 hk q1 q2 q3 hO HO
      go_wp2_with fail
      refine wp_region_noPanic ?_
      refine wp_region_held_drew (S := fun W => W.cell? ⟨e1, off1 + k, none⟩ = some (.int .i64 x) ∧ W.cell? ⟨e2, off2 + k, none⟩ = some (.bool u)) (by kernel_rfl) ?_ (fun hHeld => ?_)
      · exact ⟨cx0, cu0⟩
      refine wpAnyH_take (i := 0) (oi := { dst := some 58, op := Op.move (Operand.tmp 7), type := 24, pos := "outright.go:63", after := #[], guard := none }) (v := ?_) rfl (by kernel_rfl) (by kernel_rfl) (by kernel_rfl) (fun _ _ _ h => h) (Or.inl ⟨by rfl, ?_⟩) (by assumption) ?_
      rotate_left
      · (intro w9 hS9; (try dsimp only at hS9); go_simp); all_goals (with_reducible rfl)
      (try simp only [Act.put, List.setIfInBounds_toArray, List.set_cons_zero, List.set_cons_succ])
      refine wpAnyH_take (i := 1) (oi := { dst := some 59, op := Op.move (Operand.tmp 1), type := 22, pos := "outright.go:63", after := #[], guard := none }) (v := ?_) rfl (by kernel_rfl) (by kernel_rfl) (by kernel_rfl) (fun _ _ _ h => h) (Or.inl ⟨by rfl, ?_⟩) (by assumption) ?_
      rotate_left
      · (intro w9 hS9; (try dsimp only at hS9); go_simp); all_goals (with_reducible rfl)
      (try simp only [Act.put, List.setIfInBounds_toArray, List.set_cons_zero, List.set_cons_succ])
      refine wpAnyH_take (i := 2) (oi := { dst := some 60, op := Op.move (Operand.tmp 10), type := 3, pos := "outright.go:63", after := #[], guard := none }) (v := ?_) rfl (by kernel_rfl) (by kernel_rfl) (by kernel_rfl) (fun _ _ _ h => h) (Or.inl ⟨by rfl, ?_⟩) (by assumption) ?_
      rotate_left
      · (intro w9 hS9; (try dsimp only at hS9); go_simp); all_goals (with_reducible rfl)
      (try simp only [Act.put, List.setIfInBounds_toArray, List.set_cons_zero, List.set_cons_succ])
      refine wpAnyH_take (i := 3) (oi := { dst := some 61, op := Op.indexAddr 22 (Operand.tmp 59) (Operand.tmp 60), type := 0, pos := "outright.go:63", after := #[{ on := 1, ground := Ground.data }, { on := 2, ground := Ground.data }], guard := none }) (v := ?_) rfl (by kernel_rfl) (by kernel_rfl) (by kernel_rfl) (fun _ _ _ h => h) (Or.inl ⟨by rfl, ?_⟩) (by assumption) ?_
      rotate_left
      · (intro w9 hS9; (try dsimp only at hS9); go_simp); all_goals (with_reducible rfl)
      (try simp only [Act.put, List.setIfInBounds_toArray, List.set_cons_zero, List.set_cons_succ])
      refine wpAnyH_take (i := 4) (oi := { dst := some 62, op := Op.load 3 (Operand.tmp 61), type := 3, pos := "outright.go:63", after := #[{ on := 3, ground := Ground.data }], guard := none }) (v := ?_) rfl (by kernel_rfl) (by kernel_rfl) (by kernel_rfl) (fun _ _ _ h => h) (Or.inl ⟨by rfl, ?_⟩) (by assumption) ?_
      rotate_left
      · (intro w9 hS9; (try dsimp only at hS9); go_simp); all_goals (with_reducible rfl)
      (try simp only [Act.put, List.setIfInBounds_toArray, List.set_cons_zero, List.set_cons_succ])
      refine wpAnyH_take (i := 5) (oi := { dst := some 63, op := Op.move (Operand.tmp 2), type := 23, pos := "outright.go:63", after := #[], guard := none }) (v := ?_) rfl (by kernel_rfl) (by kernel_rfl) (by kernel_rfl) (fun _ _ _ h => h) (Or.inl ⟨by rfl, ?_⟩) (by assumption) ?_
      rotate_left
      · (intro w9 hS9; (try dsimp only at hS9); go_simp); all_goals (with_reducible rfl)
      (try simp only [Act.put, List.setIfInBounds_toArray, List.set_cons_zero, List.set_cons_succ])
      refine wpAnyH_take (i := 6) (oi := { dst := some 64, op := Op.move (Operand.tmp 10), type := 3, pos := "outright.go:63", after := #[], guard := none }) (v := ?_) rfl (by kernel_rfl) (by kernel_rfl) (by kernel_rfl) (fun _ _ _ h => h) (Or.inl ⟨by rfl, ?_⟩) (by assumption) ?_
      rotate_left
      · (intro w9 hS9; (try dsimp only at hS9); go_simp); all_goals (with_reducible rfl)
      (try simp only [Act.put, List.setIfInBounds_toArray, List.set_cons_zero, List.set_cons_succ])
      refine wpAnyH_take (i := 7) (oi := { dst := some 65, op := Op.indexAddr 23 (Operand.tmp 63) (Operand.tmp 64), type := 0, pos := "outright.go:63", after := #[{ on := 5, ground := Ground.data }, { on := 6, ground := Ground.data }], guard := none }) (v := ?_) rfl (by kernel_rfl) (by kernel_rfl) (by kernel_rfl) (fun _ _ _ h => h) (Or.inl ⟨by rfl, ?_⟩) (by assumption) ?_
      rotate_left
      · (intro w9 hS9; (try dsimp only at hS9); go_simp); all_goals (with_reducible rfl)
      (try simp only [Act.put, List.setIfInBounds_toArray, List.set_cons_zero, List.set_cons_succ])
      refine wpAnyH_take (i := 8) (oi := { dst := some 66, op := Op.load 4 (Operand.tmp 65), type := 4, pos := "outright.go:63", after := #[{ on := 7, ground := Ground.data }], guard := none }) (v := ?_) rfl (by kernel_rfl) (by kernel_rfl) (by kernel_rfl) (fun _ _ _ h => h) (Or.inl ⟨by rfl, ?_⟩) (by assumption) ?_
      rotate_left
      · (intro w9 hS9; (try dsimp only at hS9); go_simp); all_goals (with_reducible rfl)
      (try simp only [Act.put, List.setIfInBounds_toArray, List.set_cons_zero, List.set_cons_succ])
      refine wpAnyH_ready (rs := [9]) (by kernel_rfl) (by simp) ?_
      refine AllReadyH.cons (o := { dst := some 67, op := Op.call { callee := Callee.value (Operand.func 8), args := #[Operand.tmp 58, Operand.tmp 62, Operand.tmp 66], argTypes := #[24, 3, 4] }, type := 27, pos := "outright.go:63", after := #[{ on := 0, ground := Ground.data }, { on := 4, ground := Ground.data }, { on := 8, ground := Ground.data }], guard := none }) rfl (fun K hK => ?_) ?_
      · go_simp
        (with_reducible refine C1.out.mono ?_)
        rintro e w2 ⟨v2, rfl, hO2⟩
        have HO2 := Lib.hid hO2
        have cx2 := HCx.out _ hO2.below
        have cu2 := HCu.out _ hO2.below
        clear hO2 C1
        (try go_wp2_with fail)
        refine hK.out _ _ ?_ (fun hHeld => ?_)
        · (first | exact ⟨cx0, cu0⟩ | exact ⟨cx2, cu2⟩)
        clear hK K
        (try simp only [Act.put, List.setIfInBounds_toArray, List.set_cons_zero, List.set_cons_succ])
        refine wpAnyH_done (by kernel_rfl) (NoPanic.normal ?_) _
        go_wp2_with fail
        refine wp_region_noPanic ?_
        refine wp_region_held_drew (S := fun W => W.cell? ⟨e1, off1 + k, none⟩ = some (.int .i64 x) ∧ W.cell? ⟨e2, off2 + k, none⟩ = some (.bool u)) (by kernel_rfl) ?_ (fun hHeld => ?_)
        · exact ⟨cx2, cu2⟩
        refine wpAnyH_take (i := 0) (oi := { dst := some 68, op := Op.move (Operand.tmp 8), type := 24, pos := "outright.go:64", after := #[], guard := none }) (v := ?_) rfl (by kernel_rfl) (by kernel_rfl) (by kernel_rfl) (fun _ _ _ h => h) (Or.inl ⟨by rfl, ?_⟩) (by assumption) ?_
        rotate_left
        · (intro w9 hS9; (try dsimp only at hS9); go_simp); all_goals (with_reducible rfl)
        (try simp only [Act.put, List.setIfInBounds_toArray, List.set_cons_zero, List.set_cons_succ])
        refine wpAnyH_take (i := 1) (oi := { dst := some 69, op := Op.move (Operand.tmp 1), type := 22, pos := "outright.go:64", after := #[], guard := none }) (v := ?_) rfl (by kernel_rfl) (by kernel_rfl) (by kernel_rfl) (fun _ _ _ h => h) (Or.inl ⟨by rfl, ?_⟩) (by assumption) ?_
        rotate_left
        · (intro w9 hS9; (try dsimp only at hS9); go_simp); all_goals (with_reducible rfl)
        (try simp only [Act.put, List.setIfInBounds_toArray, List.set_cons_zero, List.set_cons_succ])
        refine wpAnyH_take (i := 2) (oi := { dst := some 70, op := Op.move (Operand.tmp 10), type := 3, pos := "outright.go:64", after := #[], guard := none }) (v := ?_) rfl (by kernel_rfl) (by kernel_rfl) (by kernel_rfl) (fun _ _ _ h => h) (Or.inl ⟨by rfl, ?_⟩) (by assumption) ?_
        rotate_left
        · (intro w9 hS9; (try dsimp only at hS9); go_simp); all_goals (with_reducible rfl)
        (try simp only [Act.put, List.setIfInBounds_toArray, List.set_cons_zero, List.set_cons_succ])
        refine wpAnyH_take (i := 3) (oi := { dst := some 71, op := Op.indexAddr 22 (Operand.tmp 69) (Operand.tmp 70), type := 0, pos := "outright.go:64", after := #[{ on := 1, ground := Ground.data }, { on := 2, ground := Ground.data }], guard := none }) (v := ?_) rfl (by kernel_rfl) (by kernel_rfl) (by kernel_rfl) (fun _ _ _ h => h) (Or.inl ⟨by rfl, ?_⟩) (by assumption) ?_
        rotate_left
        · (intro w9 hS9; (try dsimp only at hS9); go_simp); all_goals (with_reducible rfl)
        (try simp only [Act.put, List.setIfInBounds_toArray, List.set_cons_zero, List.set_cons_succ])
        refine wpAnyH_take (i := 4) (oi := { dst := some 72, op := Op.load 3 (Operand.tmp 71), type := 3, pos := "outright.go:64", after := #[{ on := 3, ground := Ground.data }], guard := none }) (v := ?_) rfl (by kernel_rfl) (by kernel_rfl) (by kernel_rfl) (fun _ _ _ h => h) (Or.inl ⟨by rfl, ?_⟩) (by assumption) ?_
        rotate_left
        · (intro w9 hS9; (try dsimp only at hS9); go_simp); all_goals (with_reducible rfl)
        (try simp only [Act.put, List.setIfInBounds_toArray, List.set_cons_zero, List.set_cons_succ])
        refine wpAnyH_take (i := 5) (oi := { dst := some 73, op := Op.move (Operand.tmp 2), type := 23, pos := "outright.go:64", after := #[], guard := none }) (v := ?_) rfl (by kernel_rfl) (by kernel_rfl) (by kernel_rfl) (fun _ _ _ h => h) (Or.inl ⟨by rfl, ?_⟩) (by assumption) ?_
        rotate_left
        · (intro w9 hS9; (try dsimp only at hS9); go_simp); all_goals (with_reducible rfl)
        (try simp only [Act.put, List.setIfInBounds_toArray, List.set_cons_zero, List.set_cons_succ])
        refine wpAnyH_take (i := 6) (oi := { dst := some 74, op := Op.move (Operand.tmp 10), type := 3, pos := "outright.go:64", after := #[], guard := none }) (v := ?_) rfl (by kernel_rfl) (by kernel_rfl) (by kernel_rfl) (fun _ _ _ h => h) (Or.inl ⟨by rfl, ?_⟩) (by assumption) ?_
        rotate_left
        · (intro w9 hS9; (try dsimp only at hS9); go_simp); all_goals (with_reducible rfl)
        (try simp only [Act.put, List.setIfInBounds_toArray, List.set_cons_zero, List.set_cons_succ])
        refine wpAnyH_take (i := 7) (oi := { dst := some 75, op := Op.indexAddr 23 (Operand.tmp 73) (Operand.tmp 74), type := 0, pos := "outright.go:64", after := #[{ on := 5, ground := Ground.data }, { on := 6, ground := Ground.data }], guard := none }) (v := ?_) rfl (by kernel_rfl) (by kernel_rfl) (by kernel_rfl) (fun _ _ _ h => h) (Or.inl ⟨by rfl, ?_⟩) (by assumption) ?_
        rotate_left
        · (intro w9 hS9; (try dsimp only at hS9); go_simp); all_goals (with_reducible rfl)
        (try simp only [Act.put, List.setIfInBounds_toArray, List.set_cons_zero, List.set_cons_succ])
        refine wpAnyH_take (i := 8) (oi := { dst := some 76, op := Op.load 4 (Operand.tmp 75), type := 4, pos := "outright.go:64", after := #[{ on := 7, ground := Ground.data }], guard := none }) (v := ?_) rfl (by kernel_rfl) (by kernel_rfl) (by kernel_rfl) (fun _ _ _ h => h) (Or.inl ⟨by rfl, ?_⟩) (by assumption) ?_
        rotate_left
        · (intro w9 hS9; (try dsimp only at hS9); go_simp); all_goals (with_reducible rfl)
        (try simp only [Act.put, List.setIfInBounds_toArray, List.set_cons_zero, List.set_cons_succ])
        refine wpAnyH_ready (rs := [9]) (by kernel_rfl) (by simp) ?_
        refine AllReadyH.cons (o := { dst := some 77, op := Op.call { callee := Callee.value (Operand.func 8), args := #[Operand.tmp 68, Operand.tmp 72, Operand.tmp 76], argTypes := #[24, 3, 4] }, type := 27, pos := "outright.go:64", after := #[{ on := 0, ground := Ground.data }, { on := 4, ground := Ground.data }, { on := 8, ground := Ground.data }], guard := none }) rfl (fun K hK => ?_) ?_
        · go_simp
          (with_reducible refine (C2.out _ HO2.out).mono ?_)
          rintro e w3 ⟨v3, rfl, hO3⟩
          have HO3 := Lib.hid hO3
          have cx3 := HCx.out _ hO3.below
          have cu3 := HCu.out _ hO3.below
          clear hO3
          (try go_wp2_with fail)
          refine hK.out _ _ ?_ (fun hHeld => ?_)
          · (first | exact ⟨cx2, cu2⟩ | exact ⟨cx3, cu3⟩)
          clear hK K
          (try simp only [Act.put, List.setIfInBounds_toArray, List.set_cons_zero, List.set_cons_succ])
          refine wpAnyH_done (by kernel_rfl) (NoPanic.normal ?_) _
          go_wp2_with fail
          go_roundw
          case rel => exact ⟨k + 1, U', N', rfl, HK.out, HO3.out⟩
          case measure => have := HK.out; simp [intOf]; omega
        exact AllReadyH.nil
      exact AllReadyH.nil
    · rcases (show ¬ k < xs.length ∨ (k < xs.length ∧ ¬ k < us.length) ∨ (k < xs.length ∧ k < us.length ∧ ¬ k < 2000) by omega) with q1 | ⟨q1, q2⟩ | ⟨q1, q2, q3⟩
      · have d1' : decide (k < xs.length) = false := decide_eq_false q1
        have HL : Hid (U.length + N.length ≤ 1000) := by show _ ≤ _; have := hO.f.lu; have := hO.f.ln; have := HN.out; omega
        have HP0 := Lib.hid (pourU_all n N [] (by have := hO.f.ln; simpa using this) U [] (by have := hO.f.lu; simpa using this))
        obtain ⟨Q, hQe⟩ : ∃ Q, U ++ N = Q := ⟨_, rfl⟩
        have hQl : U.length + N.length = Q.length := by rw [← hQe, List.length_append]
        have HQe := Lib.hid hQe
        have HQ : Hid (Q.length ≤ 1000) := by show _ ≤ _; rw [← hQl]; exact HL.out
        have L1 : Hid (Calls Try.prog 12 #[.pointer (some ⟨b1, 0, none⟩)] wr fun e w' => e = .returned (.int .i64 (Q.length : Int)) ∧ PrsAt w w' n b1 c1 d1 b2 c2 d2 b3 c3 d3 U N U N) :=
          (len_any b1 c1 d1 n U N false wr hO.f).mono (by rintro e w' ⟨rfl, rfl⟩; exact ⟨by rw [hQl], hO.drew⟩)
        have P1 : Hid (∀ W, PrsAt w W n b1 c1 d1 b2 c2 d2 b3 c3 d3 U N U N → Calls Try.prog 15 #[.pointer (some ⟨b1, 0, none⟩), .pointer (some ⟨b3, 0, none⟩)] W fun e w' => e = .returned (.tuple #[.int .i64 (Q.length : Int), .int .i64 0]) ∧ EmptiedAt w w' n b1 c1 d1 b2 c2 d2 b3 c3 d3 U N) := fun W hW => by
          have c := pour_any b1 c1 d1 n b3 c3 d3 n U N [] [] false hW.a13 W hW.f hW.t
          rw [HP0.out] at c
          exact c.mono (fun e w' he => ⟨by rw [he.1, ← hQl], EmptiedAt.of (cl := false) hW he.2⟩)
        have L2 : Hid (∀ W, EmptiedAt w W n b1 c1 d1 b2 c2 d2 b3 c3 d3 U N → Calls Try.prog 12 #[.pointer (some ⟨b1, 0, none⟩)] W fun e w' => e = .returned (.int .i64 0) ∧ EmptiedAt w w' n b1 c1 d1 b2 c2 d2 b3 c3 d3 U N) := fun W hW =>
          (len_any b1 c1 d1 n [] [] false W hW.f).mono (by rintro e w' ⟨rfl, rfl⟩; exact ⟨rfl, hW.drew⟩)
        have L3 : Hid (∀ W, EmptiedAt w W n b1 c1 d1 b2 c2 d2 b3 c3 d3 U N → Calls Try.prog 12 #[.pointer (some ⟨b3, 0, none⟩)] W fun e w' => e = .returned (.int .i64 (Q.length : Int)) ∧ EmptiedAt w w' n b1 c1 d1 b2 c2 d2 b3 c3 d3 U N) := fun W hW =>
          (len_any b3 c3 d3 n U N false W hW.t).mono (by rintro e w' ⟨rfl, rfl⟩; exact ⟨by rw [hQl], hW.drew⟩)
        have R1 : Hid (∀ W, EmptiedAt w W n b1 c1 d1 b2 c2 d2 b3 c3 d3 U N → Calls Try.prog 10 #[.pointer (some ⟨b2, 0, none⟩), .int .i64 1000] W fun e w' => ∃ v, e = .returned v ∧ RestAt W w' b2 c2 d2 n false v Q [] []) := fun W hW => by
          rw [← hQe]; exact rest_any b2 c2 d2 n U N false 1000 (Nat.le_refl _) HL.out W hW.g
        have R2 : Hid (∀ W, FeedAt W b3 c3 d3 n U N false → Calls Try.prog 10 #[.pointer (some ⟨b3, 0, none⟩), .int .i64 1000] W fun e w' => ∃ v, e = .returned v ∧ RestAt W w' b3 c3 d3 n false v Q [] []) := fun W hW => by
          rw [← hQe]; exact rest_any b3 c3 d3 n U N false 1000 (Nat.le_refl _) HL.out W hW
        clear hk hall hO hQe hQl HO HP0
        go_wp2_with (first
          | (go_at_call 12; (with_reducible refine L1.out.mono ?_); rintro e w4 ⟨rfl, h4⟩; have HE4 := Lib.hid h4; clear h4 L1)
          | (go_at_call 15; (with_reducible refine (P1.out _ HE4.out).mono ?_); rintro e w5 ⟨rfl, h5⟩; have HE5 := Lib.hid h5; clear h5 P1)
          | (go_at_call 12; (with_reducible refine (L2.out _ HE5.out).mono ?_); rintro e w6 ⟨rfl, h6⟩; have HE6 := Lib.hid h6; clear h6 L2)
          | (go_at_call 12; (with_reducible refine (L3.out _ HE6.out).mono ?_); rintro e w7 ⟨rfl, h7⟩; have HE7 := Lib.hid h7; clear h7 L3)
          | (go_at_call 10; (with_reducible refine (R1.out _ HE7.out).mono ?_); rintro e w8 ⟨g, rfl, r⟩; have HR8 := Lib.hid r; have HF8 := Lib.hid (HE7.out.rest1 r); clear r R1)
          | (go_at_call 10; (with_reducible refine (R2.out _ HF8.out).mono ?_); rintro e w9 ⟨h', rfl, r⟩
             have HE : Hid (CmpAt w w9 g h' Q) := CmpAt.of HE7.out HR8.out r
             obtain ⟨ag, capg, rfl, hg⟩ := HE.out.got.form
             obtain ⟨ah, caph, rfl, hh⟩ := HE.out.want.form
             clear hg hh r R2))
        go_loopw [16] (fun i wr => ∃ k : Nat, k ≤ Q.length ∧ i = .int .i64 k ∧ CmpAt w wr (.slice ag Q.length capg) (.slice ah Q.length caph) Q) (fun i _ => ((Q.length : Int) - intOf i).toNat)
        case atStart => exact ⟨0, Nat.zero_le _, rfl, HE.out⟩
        case round =>
          obtain ⟨k, hk, rfl, hE⟩ := hrel
          clear HE
          have HE := Lib.hid hE
          by_cases hlt : k < Q.length
          · obtain ⟨a', cap', heq, hcell⟩ := hE.got.form
            simp only [Value.slice.injEq] at heq
            obtain ⟨rfl, -, rfl⟩ := heq
            obtain ⟨a', cap', heq, hcell'⟩ := hE.want.form
            simp only [Value.slice.injEq] at heq
            obtain ⟨rfl, -, rfl⟩ := heq
            obtain ⟨bg, og, rfl, hg⟩ := hcell (by omega)
            obtain ⟨bh, oh, rfl, hh⟩ := hcell' (by omega)
            have cg := hg k hlt
            have ch := hh k hlt
            have d1'' : decide (k < Q.length) = true := decide_eq_true hlt
            have k0 : (0 : Int) ≤ k := by omega
            have k1 : (k : Int) < Q.length := by omega
            have e9 : IntKind.i64.wrap ((k : Int) + 1) = ((k + 1 : Nat) : Int) := by have := HQ.out; rw [IntWalk.i64_in _ (by omega)]; omega
            have HK : Hid (k < Q.length) := hlt
            generalize Q[k] = x at *
            clear hg hh hcell hcell' hk hE hlt
            go_wp2_with fail
            go_region
            all_goals (
              go_wp2_with fail
              go_roundw
              (case rel => exact ⟨k + 1, HK.out, rfl, HE.out.drew⟩)
              (case measure => have := HK.out; simp [intOf]; omega))
          · obtain rfl : k = Q.length := by omega
            have d1'' : decide (Q.length < Q.length) = false := by simp
            have A1 : Hid (Calls Try.prog 7 #[] wr fun e w' => e = .returned (.bool true) ∧ Below w.heap.size w w') := (alive19_any wr).mono (fun e w' h => ⟨h.1, hE.below.trans (h.2.mono hE.below.size)⟩)
            clear hk hlt hE
            go_wp2_with (go_at_call 7; (with_reducible refine A1.out.mono ?_); rintro e w8 ⟨rfl, hb⟩; have HB8 := Lib.hid hb; clear hb)
            go_ret
            exact ⟨rfl, HB8.out⟩
      · have d1' : decide (k < xs.length) = true := decide_eq_true q1
        have d2' : decide (k < us.length) = false := decide_eq_false q2
        have HL : Hid (U.length + N.length ≤ 1000) := by show _ ≤ _; have := hO.f.lu; have := hO.f.ln; have := HN.out; omega
        have HP0 := Lib.hid (pourU_all n N [] (by have := hO.f.ln; simpa using this) U [] (by have := hO.f.lu; simpa using this))
        obtain ⟨Q, hQe⟩ : ∃ Q, U ++ N = Q := ⟨_, rfl⟩
        have hQl : U.length + N.length = Q.length := by rw [← hQe, List.length_append]
        have HQe := Lib.hid hQe
        have HQ : Hid (Q.length ≤ 1000) := by show _ ≤ _; rw [← hQl]; exact HL.out
        have L1 : Hid (Calls Try.prog 12 #[.pointer (some ⟨b1, 0, none⟩)] wr fun e w' => e = .returned (.int .i64 (Q.length : Int)) ∧ PrsAt w w' n b1 c1 d1 b2 c2 d2 b3 c3 d3 U N U N) :=
          (len_any b1 c1 d1 n U N false wr hO.f).mono (by rintro e w' ⟨rfl, rfl⟩; exact ⟨by rw [hQl], hO.drew⟩)
        have P1 : Hid (∀ W, PrsAt w W n b1 c1 d1 b2 c2 d2 b3 c3 d3 U N U N → Calls Try.prog 15 #[.pointer (some ⟨b1, 0, none⟩), .pointer (some ⟨b3, 0, none⟩)] W fun e w' => e = .returned (.tuple #[.int .i64 (Q.length : Int), .int .i64 0]) ∧ EmptiedAt w w' n b1 c1 d1 b2 c2 d2 b3 c3 d3 U N) := fun W hW => by
          have c := pour_any b1 c1 d1 n b3 c3 d3 n U N [] [] false hW.a13 W hW.f hW.t
          rw [HP0.out] at c
          exact c.mono (fun e w' he => ⟨by rw [he.1, ← hQl], EmptiedAt.of (cl := false) hW he.2⟩)
        have L2 : Hid (∀ W, EmptiedAt w W n b1 c1 d1 b2 c2 d2 b3 c3 d3 U N → Calls Try.prog 12 #[.pointer (some ⟨b1, 0, none⟩)] W fun e w' => e = .returned (.int .i64 0) ∧ EmptiedAt w w' n b1 c1 d1 b2 c2 d2 b3 c3 d3 U N) := fun W hW =>
          (len_any b1 c1 d1 n [] [] false W hW.f).mono (by rintro e w' ⟨rfl, rfl⟩; exact ⟨rfl, hW.drew⟩)
        have L3 : Hid (∀ W, EmptiedAt w W n b1 c1 d1 b2 c2 d2 b3 c3 d3 U N → Calls Try.prog 12 #[.pointer (some ⟨b3, 0, none⟩)] W fun e w' => e = .returned (.int .i64 (Q.length : Int)) ∧ EmptiedAt w w' n b1 c1 d1 b2 c2 d2 b3 c3 d3 U N) := fun W hW =>
          (len_any b3 c3 d3 n U N false W hW.t).mono (by rintro e w' ⟨rfl, rfl⟩; exact ⟨by rw [hQl], hW.drew⟩)
        have R1 : Hid (∀ W, EmptiedAt w W n b1 c1 d1 b2 c2 d2 b3 c3 d3 U N → Calls Try.prog 10 #[.pointer (some ⟨b2, 0, none⟩), .int .i64 1000] W fun e w' => ∃ v, e = .returned v ∧ RestAt W w' b2 c2 d2 n false v Q [] []) := fun W hW => by
          rw [← hQe]; exact rest_any b2 c2 d2 n U N false 1000 (Nat.le_refl _) HL.out W hW.g
        have R2 : Hid (∀ W, FeedAt W b3 c3 d3 n U N false → Calls Try.prog 10 #[.pointer (some ⟨b3, 0, none⟩), .int .i64 1000] W fun e w' => ∃ v, e = .returned v ∧ RestAt W w' b3 c3 d3 n false v Q [] []) := fun W hW => by
          rw [← hQe]; exact rest_any b3 c3 d3 n U N false 1000 (Nat.le_refl _) HL.out W hW
        clear hk hall hO hQe hQl HO HP0
        go_wp2_with (first
          | (go_at_call 12; (with_reducible refine L1.out.mono ?_); rintro e w4 ⟨rfl, h4⟩; have HE4 := Lib.hid h4; clear h4 L1)
          | (go_at_call 15; (with_reducible refine (P1.out _ HE4.out).mono ?_); rintro e w5 ⟨rfl, h5⟩; have HE5 := Lib.hid h5; clear h5 P1)
          | (go_at_call 12; (with_reducible refine (L2.out _ HE5.out).mono ?_); rintro e w6 ⟨rfl, h6⟩; have HE6 := Lib.hid h6; clear h6 L2)
          | (go_at_call 12; (with_reducible refine (L3.out _ HE6.out).mono ?_); rintro e w7 ⟨rfl, h7⟩; have HE7 := Lib.hid h7; clear h7 L3)
          | (go_at_call 10; (with_reducible refine (R1.out _ HE7.out).mono ?_); rintro e w8 ⟨g, rfl, r⟩; have HR8 := Lib.hid r; have HF8 := Lib.hid (HE7.out.rest1 r); clear r R1)
          | (go_at_call 10; (with_reducible refine (R2.out _ HF8.out).mono ?_); rintro e w9 ⟨h', rfl, r⟩
             have HE : Hid (CmpAt w w9 g h' Q) := CmpAt.of HE7.out HR8.out r
             obtain ⟨ag, capg, rfl, hg⟩ := HE.out.got.form
             obtain ⟨ah, caph, rfl, hh⟩ := HE.out.want.form
             clear hg hh r R2))
        go_loopw [16] (fun i wr => ∃ k : Nat, k ≤ Q.length ∧ i = .int .i64 k ∧ CmpAt w wr (.slice ag Q.length capg) (.slice ah Q.length caph) Q) (fun i _ => ((Q.length : Int) - intOf i).toNat)
        case atStart => exact ⟨0, Nat.zero_le _, rfl, HE.out⟩
        case round =>
          obtain ⟨k, hk, rfl, hE⟩ := hrel
          clear HE
          have HE := Lib.hid hE
          by_cases hlt : k < Q.length
          · obtain ⟨a', cap', heq, hcell⟩ := hE.got.form
            simp only [Value.slice.injEq] at heq
            obtain ⟨rfl, -, rfl⟩ := heq
            obtain ⟨a', cap', heq, hcell'⟩ := hE.want.form
            simp only [Value.slice.injEq] at heq
            obtain ⟨rfl, -, rfl⟩ := heq
            obtain ⟨bg, og, rfl, hg⟩ := hcell (by omega)
            obtain ⟨bh, oh, rfl, hh⟩ := hcell' (by omega)
            have cg := hg k hlt
            have ch := hh k hlt
            have d1'' : decide (k < Q.length) = true := decide_eq_true hlt
            have k0 : (0 : Int) ≤ k := by omega
            have k1 : (k : Int) < Q.length := by omega
            have e9 : IntKind.i64.wrap ((k : Int) + 1) = ((k + 1 : Nat) : Int) := by have := HQ.out; rw [IntWalk.i64_in _ (by omega)]; omega
            have HK : Hid (k < Q.length) := hlt
            generalize Q[k] = x at *
            clear hg hh hcell hcell' hk hE hlt
            go_wp2_with fail
            go_region
            all_goals (
              go_wp2_with fail
              go_roundw
              (case rel => exact ⟨k + 1, HK.out, rfl, HE.out.drew⟩)
              (case measure => have := HK.out; simp [intOf]; omega))
          · obtain rfl : k = Q.length := by omega
            have d1'' : decide (Q.length < Q.length) = false := by simp
            have A1 : Hid (Calls Try.prog 7 #[] wr fun e w' => e = .returned (.bool true) ∧ Below w.heap.size w w') := (alive19_any wr).mono (fun e w' h => ⟨h.1, hE.below.trans (h.2.mono hE.below.size)⟩)
            clear hk hlt hE
            go_wp2_with (go_at_call 7; (with_reducible refine A1.out.mono ?_); rintro e w8 ⟨rfl, hb⟩; have HB8 := Lib.hid hb; clear hb)
            go_ret
            exact ⟨rfl, HB8.out⟩
      · have d1' : decide (k < xs.length) = true := decide_eq_true q1
        have d2' : decide (k < us.length) = true := decide_eq_true q2
        have d3' : decide ((k : Int) < 2000) = false := by simp; omega
        have HL : Hid (U.length + N.length ≤ 1000) := by show _ ≤ _; have := hO.f.lu; have := hO.f.ln; have := HN.out; omega
        have HP0 := Lib.hid (pourU_all n N [] (by have := hO.f.ln; simpa using this) U [] (by have := hO.f.lu; simpa using this))
        obtain ⟨Q, hQe⟩ : ∃ Q, U ++ N = Q := ⟨_, rfl⟩
        have hQl : U.length + N.length = Q.length := by rw [← hQe, List.length_append]
        have HQe := Lib.hid hQe
        have HQ : Hid (Q.length ≤ 1000) := by show _ ≤ _; rw [← hQl]; exact HL.out
        have L1 : Hid (Calls Try.prog 12 #[.pointer (some ⟨b1, 0, none⟩)] wr fun e w' => e = .returned (.int .i64 (Q.length : Int)) ∧ PrsAt w w' n b1 c1 d1 b2 c2 d2 b3 c3 d3 U N U N) :=
          (len_any b1 c1 d1 n U N false wr hO.f).mono (by rintro e w' ⟨rfl, rfl⟩; exact ⟨by rw [hQl], hO.drew⟩)
        have P1 : Hid (∀ W, PrsAt w W n b1 c1 d1 b2 c2 d2 b3 c3 d3 U N U N → Calls Try.prog 15 #[.pointer (some ⟨b1, 0, none⟩), .pointer (some ⟨b3, 0, none⟩)] W fun e w' => e = .returned (.tuple #[.int .i64 (Q.length : Int), .int .i64 0]) ∧ EmptiedAt w w' n b1 c1 d1 b2 c2 d2 b3 c3 d3 U N) := fun W hW => by
          have c := pour_any b1 c1 d1 n b3 c3 d3 n U N [] [] false hW.a13 W hW.f hW.t
          rw [HP0.out] at c
          exact c.mono (fun e w' he => ⟨by rw [he.1, ← hQl], EmptiedAt.of (cl := false) hW he.2⟩)
        have L2 : Hid (∀ W, EmptiedAt w W n b1 c1 d1 b2 c2 d2 b3 c3 d3 U N → Calls Try.prog 12 #[.pointer (some ⟨b1, 0, none⟩)] W fun e w' => e = .returned (.int .i64 0) ∧ EmptiedAt w w' n b1 c1 d1 b2 c2 d2 b3 c3 d3 U N) := fun W hW =>
          (len_any b1 c1 d1 n [] [] false W hW.f).mono (by rintro e w' ⟨rfl, rfl⟩; exact ⟨rfl, hW.drew⟩)
        have L3 : Hid (∀ W, EmptiedAt w W n b1 c1 d1 b2 c2 d2 b3 c3 d3 U N → Calls Try.prog 12 #[.pointer (some ⟨b3, 0, none⟩)] W fun e w' => e = .returned (.int .i64 (Q.length : Int)) ∧ EmptiedAt w w' n b1 c1 d1 b2 c2 d2 b3 c3 d3 U N) := fun W hW =>
          (len_any b3 c3 d3 n U N false W hW.t).mono (by rintro e w' ⟨rfl, rfl⟩; exact ⟨by rw [hQl], hW.drew⟩)
        have R1 : Hid (∀ W, EmptiedAt w W n b1 c1 d1 b2 c2 d2 b3 c3 d3 U N → Calls Try.prog 10 #[.pointer (some ⟨b2, 0, none⟩), .int .i64 1000] W fun e w' => ∃ v, e = .returned v ∧ RestAt W w' b2 c2 d2 n false v Q [] []) := fun W hW => by
          rw [← hQe]; exact rest_any b2 c2 d2 n U N false 1000 (Nat.le_refl _) HL.out W hW.g
        have R2 : Hid (∀ W, FeedAt W b3 c3 d3 n U N false → Calls Try.prog 10 #[.pointer (some ⟨b3, 0, none⟩), .int .i64 1000] W fun e w' => ∃ v, e = .returned v ∧ RestAt W w' b3 c3 d3 n false v Q [] []) := fun W hW => by
          rw [← hQe]; exact rest_any b3 c3 d3 n U N false 1000 (Nat.le_refl _) HL.out W hW
        clear hk hall hO hQe hQl HO HP0
        go_wp2_with (first
          | (go_at_call 12; (with_reducible refine L1.out.mono ?_); rintro e w4 ⟨rfl, h4⟩; have HE4 := Lib.hid h4; clear h4 L1)
          | (go_at_call 15; (with_reducible refine (P1.out _ HE4.out).mono ?_); rintro e w5 ⟨rfl, h5⟩; have HE5 := Lib.hid h5; clear h5 P1)
          | (go_at_call 12; (with_reducible refine (L2.out _ HE5.out).mono ?_); rintro e w6 ⟨rfl, h6⟩; have HE6 := Lib.hid h6; clear h6 L2)
          | (go_at_call 12; (with_reducible refine (L3.out _ HE6.out).mono ?_); rintro e w7 ⟨rfl, h7⟩; have HE7 := Lib.hid h7; clear h7 L3)
          | (go_at_call 10; (with_reducible refine (R1.out _ HE7.out).mono ?_); rintro e w8 ⟨g, rfl, r⟩; have HR8 := Lib.hid r; have HF8 := Lib.hid (HE7.out.rest1 r); clear r R1)
          | (go_at_call 10; (with_reducible refine (R2.out _ HF8.out).mono ?_); rintro e w9 ⟨h', rfl, r⟩
             have HE : Hid (CmpAt w w9 g h' Q) := CmpAt.of HE7.out HR8.out r
             obtain ⟨ag, capg, rfl, hg⟩ := HE.out.got.form
             obtain ⟨ah, caph, rfl, hh⟩ := HE.out.want.form
             clear hg hh r R2))
        go_loopw [16] (fun i wr => ∃ k : Nat, k ≤ Q.length ∧ i = .int .i64 k ∧ CmpAt w wr (.slice ag Q.length capg) (.slice ah Q.length caph) Q) (fun i _ => ((Q.length : Int) - intOf i).toNat)
        case atStart => exact ⟨0, Nat.zero_le _, rfl, HE.out⟩
        case round =>
          obtain ⟨k, hk, rfl, hE⟩ := hrel
          clear HE
          have HE := Lib.hid hE
          by_cases hlt : k < Q.length
          · obtain ⟨a', cap', heq, hcell⟩ := hE.got.form
            simp only [Value.slice.injEq] at heq
            obtain ⟨rfl, -, rfl⟩ := heq
            obtain ⟨a', cap', heq, hcell'⟩ := hE.want.form
            simp only [Value.slice.injEq] at heq
            obtain ⟨rfl, -, rfl⟩ := heq
            obtain ⟨bg, og, rfl, hg⟩ := hcell (by omega)
            obtain ⟨bh, oh, rfl, hh⟩ := hcell' (by omega)
            have cg := hg k hlt
            have ch := hh k hlt
            have d1'' : decide (k < Q.length) = true := decide_eq_true hlt
            have k0 : (0 : Int) ≤ k := by omega
            have k1 : (k : Int) < Q.length := by omega
            have e9 : IntKind.i64.wrap ((k : Int) + 1) = ((k + 1 : Nat) : Int) := by have := HQ.out; rw [IntWalk.i64_in _ (by omega)]; omega
            have HK : Hid (k < Q.length) := hlt
            generalize Q[k] = x at *
            clear hg hh hcell hcell' hk hE hlt
            go_wp2_with fail
            go_region
            all_goals (
              go_wp2_with fail
              go_roundw
              (case rel => exact ⟨k + 1, HK.out, rfl, HE.out.drew⟩)
              (case measure => have := HK.out; simp [intOf]; omega))
          · obtain rfl : k = Q.length := by omega
            have d1'' : decide (Q.length < Q.length) = false := by simp
            have A1 : Hid (Calls Try.prog 7 #[] wr fun e w' => e = .returned (.bool true) ∧ Below w.heap.size w w') := (alive19_any wr).mono (fun e w' h => ⟨h.1, hE.below.trans (h.2.mono hE.below.size)⟩)
            clear hk hlt hE
            go_wp2_with (go_at_call 7; (with_reducible refine A1.out.mono ?_); rintro e w8 ⟨rfl, hb⟩; have HB8 := Lib.hid hb; clear hb)
            go_ret
            exact ⟨rfl, HB8.out⟩

theorem pours_any (n : Int) (xs : List Int) (us : List Bool) (v1 v2 : Value) (w : World) (hx : IntsAt w v1 xs) (hu : BoolsAt w v2 us) :
    Calls Try.prog 5 #[.int .i64 n, v1, v2] w fun e w' => e = .returned (.bool true) ∧ Below w.heap.size w w' := by
  by_cases h : n < 1 ∨ 256 < n
  · exact pours_none n v1 v2 h w
  · obtain ⟨m, rfl⟩ := Int.eq_ofNat_of_zero_le (show 0 ≤ n by omega)
    exact pours_walk m (by omega) (by omega) xs us v1 v2 w hx hu

end Go.Proofs.Ytlomjckmclefeaa

