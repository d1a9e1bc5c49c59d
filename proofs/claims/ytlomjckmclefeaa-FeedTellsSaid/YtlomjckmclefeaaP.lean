/- The feed: FeedTells' walk. -/
import Derived.Test.YtlomjckmclefeaaL0
import Derived.Test.YtlomjckmclefeaaL1
namespace Go.Proofs.Ytlomjckmclefeaa
set_option linter.unusedVariables false
set_option linter.unusedSimpArgs false
open Go.Conc Go.RowKit

set_option maxRecDepth 100000 in
theorem fits_some (b n : Nat) (h1 : 1 ≤ n) (h2 : n ≤ 256) (w : World) : Calls Try.prog 13 #[.pointer (some ⟨b, 0, none⟩), .int .i64 (n : Int)] w fun e w' => e = .returned (.bool true) ∧ w = w' := by
  have d1 : decide ((1 : Int) ≤ n) = true := decide_eq_true (by omega)
  have d2 : decide ((n : Int) ≤ 256) = true := decide_eq_true (by omega)
  clear h1 h2
  go_enter Try.func13, Try.ntmps13
  go_wp2_with fail
  go_ret
  exact ⟨rfl, rfl⟩
set_option maxRecDepth 100000 in
theorem fits_none (n : Int) (hn : n < 1 ∨ 256 < n) (w : World) : Calls Try.prog 13 #[.pointer none, .int .i64 n] w fun e w' => e = .returned (.bool true) ∧ w = w' := by
  by_cases h1 : 1 ≤ n
  · have d1 : decide (1 ≤ n) = true := decide_eq_true h1
    have d2 : decide (n ≤ 256) = false := decide_eq_false (by omega)
    clear h1 hn
    go_enter Try.func13, Try.ntmps13
    go_wp2_with fail
    go_ret
    exact ⟨rfl, rfl⟩
  · have d1 : decide (1 ≤ n) = false := decide_eq_false h1
    clear h1 hn
    go_enter Try.func13, Try.ntmps13
    go_wp2_with fail
    go_ret
    exact ⟨rfl, rfl⟩

/-- A slice of steps, read. -/
structure StepsAt (w : World) (v : Value) (xs : List (Int × Int × Int)) : Prop where
  form : ∃ a cap, v = .slice a xs.length cap ∧ (0 < xs.length → ∃ b off, a = some ⟨b, off, none⟩ ∧ ∀ i, (h : i < xs.length) →
    w.cell? ⟨b, off + i * 3, none⟩ = some (.int .i64 xs[i].1) ∧ w.cell? ⟨b, off + i * 3 + 1, none⟩ = some (.int .i64 xs[i].2.1) ∧ w.cell? ⟨b, off + i * 3 + 2, none⟩ = some (.int .i64 xs[i].2.2))

/-- Where a feed is wanting. -/
structure NB (w W : World) (bf : Nat) (v1 v2 : Value) : Prop where
  below : Below w.heap.size w W
  hp : W.heap[bf]? = some (.cells #[v1, v2] 36 (0, 0))
  lo : w.heap.size ≤ bf
theorem NB.next {w W V : World} {bf : Nat} {v1 v2 : Value} (h : NB w W bf v1 v2) (hb : Below W.heap.size W V) : NB w V bf v1 v2 := ⟨h.below.trans (hb.mono h.below.size), old_below hb h.hp, h.lo⟩
theorem NB.cells {w W : World} {bf : Nat} {v1 v2 : Value} (h : NB w W bf v1 v2) : W.cell? ⟨bf, 0, none⟩ = some v1 ∧ W.cell? ⟨bf, 1, none⟩ = some v2 :=
  ⟨by rw [cell_of_row _ _ _ _ _ _ h.hp]; rfl, by rw [cell_of_row _ _ _ _ _ _ h.hp]; rfl⟩
/-- The same, and a feed. -/
structure NF (w W : World) (bf : Nat) (v1 v2 : Value) (b c d n : Nat) : Prop where
  nb : NB w W bf v1 v2
  f : ∃ U N, FeedAt W b c d n U N false
  lo : w.heap.size ≤ b ∧ w.heap.size ≤ c ∧ w.heap.size ≤ d
  ne : bf ≠ b ∧ bf ≠ c ∧ bf ≠ d
theorem NF.next {w W V : World} {bf : Nat} {v1 v2 : Value} {b c d n : Nat} (h : NF w W bf v1 v2 b c d n) (hb : Below W.heap.size W V) : NF w V bf v1 v2 b c d n := by
  obtain ⟨U, N, hf⟩ := h.f
  exact ⟨h.nb.next hb, ⟨U, N, hf.upd (Upd.of_below (l := []) hb) (by simp) (by simp) (by simp)⟩, h.lo, h.ne⟩
theorem NF.turn {w W V : World} {bf : Nat} {v1 v2 : Value} {b c d n : Nat} {U N : List Int} (h : NF w W bf v1 v2 b c d n) (hf : FeedAt V b c d n U N false) (k : Upd [c, d] W V) : NF w V bf v1 v2 b c d n := by
  have lo := h.lo
  have ne := h.ne
  exact ⟨⟨k.below h.nb.below h.nb.below.size (fun i hi => by simp at hi; omega), (k.block _ (lt_of_heap h.nb.hp) (by simp; omega)).trans h.nb.hp, h.nb.lo⟩, ⟨U, N, hf⟩, lo, ne⟩
theorem NF.push {w W : World} {bf : Nat} {v1 v2 : Value} {b c d n : Nat} (h : NF w W bf v1 v2 b c d n) (x : Int) (u : Bool) : Calls Try.prog 8 #[.pointer (some ⟨b, 0, none⟩), .int .i64 x, .bool u] W fun e w' => ∃ E : Int, 0 ≤ E ∧ E ≤ 7 ∧ e = .returned (.int .i64 E) ∧ NF w w' bf v1 v2 b c d n := by
  obtain ⟨U, N, hf⟩ := h.f
  refine (push_any b c d n U N false x u W hf).mono (fun e w' he => ⟨_, ?_, ?_, he.1, h.turn he.2.1 he.2.2⟩)
  · unfold pushE; repeat' split
    all_goals omega
  · unfold pushE; repeat' split
    all_goals omega
theorem NF.len {w W : World} {bf : Nat} {v1 v2 : Value} {b c d n : Nat} (h : NF w W bf v1 v2 b c d n) : Calls Try.prog 12 #[.pointer (some ⟨b, 0, none⟩)] W fun e w' => ∃ k : Nat, e = .returned (.int .i64 (k : Int)) ∧ NF w w' bf v1 v2 b c d n := by
  obtain ⟨U, N, hf⟩ := h.f
  refine (len_any b c d n U N false W hf).mono (fun e w' he => ⟨_, he.1, by rw [he.2]; exact h.next ((Below.refl _ _).drew)⟩)

set_option maxRecDepth 100000 in
set_option maxHeartbeats 4000000 in
theorem tells_nn (n : Int) (m : Int) (v : Value) (hn : n < 1 ∨ 256 < n) (hm : m < 1 ∨ 256 < m) (w : World) : Calls Try.prog 4 #[.int .i64 n, .int .i64 m, v] w fun e w' => e = .returned (.bool true) ∧ Below w.heap.size w w' := by
  have HN1 := Lib.hid (new_none n hn w)
  have HN2 : Hid (∀ W, Calls Try.prog 6 #[.int .i64 m] W fun e w' => e = .returned (.pointer none) ∧ W = w') := fun W => new_none m hm W
  have HF1 : Hid (∀ W, Calls Try.prog 13 #[.pointer none, .int .i64 n] W fun e w' => e = .returned (.bool true) ∧ W = w') := fun W => fits_none n hn W
  have HF2 : Hid (∀ W, Calls Try.prog 13 #[.pointer none, .int .i64 m] W fun e w' => e = .returned (.bool true) ∧ W = w') := fun W => fits_none m hm W
  clear hn hm
  go_enter Try.func4, Try.ntmps4
  go_wp2_with (first
    | (go_at_call 6; (with_reducible refine HN1.out.mono ?_); rintro e w1 ⟨rfl, rfl⟩)
    | (go_at_call 6; (with_reducible refine (HN2.out _).mono ?_); rintro e w2 ⟨rfl, rfl⟩)
    | (go_at_call 13; (with_reducible refine (HF1.out _).mono ?_); rintro e w4 ⟨rfl, rfl⟩)
    | (go_at_call 13; (with_reducible refine (HF2.out _).mono ?_); rintro e w4 ⟨rfl, rfl⟩))
  obtain ⟨w3, hw⟩ : ∃ w3, w.alloc (.cells #[.pointer none, .pointer none] 36) = w3 := ⟨_, rfl⟩
  rewrite [hw]
  have HB3 : Hid (NB w w3 w.heap.size (.pointer none) (.pointer none)) := ⟨by rewrite [← hw]; exact (Below.refl _ _).alloc (Nat.le_refl _) _, by rewrite [← hw]; exact heap_alloc_new _ _, Nat.le_refl _⟩
  clear hw
  obtain ⟨p0, p1⟩ := HB3.out.cells
  have HA : Hid (∀ W, NB w W w.heap.size (.pointer none) (.pointer none) → Calls Try.prog 7 #[] W fun e w' => e = .returned (.bool true) ∧ NB w w' w.heap.size (.pointer none) (.pointer none)) := fun W hW => (alive19_any W).mono (fun e w' he => ⟨he.1, hW.next he.2⟩)
  have HL : Hid (∀ W, NB w W w.heap.size (.pointer none) (.pointer none) → Calls Try.prog 12 #[.pointer none] W fun e w' => ∃ k : Nat, e = .returned (.int .i64 (k : Int)) ∧ NB w w' w.heap.size (.pointer none) (.pointer none)) := fun W hW => (len_none none W (made_nil W)).mono (fun e w' he => ⟨0, he.1, by rw [← he.2]; exact hW⟩)
  have HP1 : Hid (∀ W, NB w W w.heap.size (.pointer none) (.pointer none) → Calls Try.prog 8 #[.pointer none, .int .i64 1, .bool false] W fun e w' => ∃ E : Int, 0 ≤ E ∧ E ≤ 7 ∧ 6 ≤ E ∧ e = .returned (.int .i64 E) ∧ NB w w' w.heap.size (.pointer none) (.pointer none)) := fun W hW => (push_none none 1 false W (made_nil W)).mono (fun e w' he => ⟨6, by omega, by omega, by omega, he.1, by rw [← he.2]; exact hW⟩)
  have HP2 : Hid (∀ W, NB w W w.heap.size (.pointer none) (.pointer none) → Calls Try.prog 8 #[.pointer none, .int .i64 1, .bool true] W fun e w' => ∃ E : Int, 0 ≤ E ∧ E ≤ 7 ∧ 6 ≤ E ∧ e = .returned (.int .i64 E) ∧ NB w w' w.heap.size (.pointer none) (.pointer none)) := fun W hW => (push_none none 1 true W (made_nil W)).mono (fun e w' he => ⟨6, by omega, by omega, by omega, he.1, by rw [← he.2]; exact hW⟩)
  refine wp_region_noPanic ?_
  refine wp_region_held_drew (S := fun W => W.cell? ⟨w.heap.size, 0, none⟩ = some (.pointer none) ∧ W.cell? ⟨w.heap.size, 1, none⟩ = some (.pointer none)) (by kernel_rfl) ?_ (fun hHeld => ?_)
  · exact ⟨p0, p1⟩
  refine wpAnyH_ready (rs := [0]) (by kernel_rfl) (by simp) ?_
  refine AllReadyH.cons (o := { dst := some 35, op := Op.call { callee := Callee.value (Operand.func 7), args := #[], argTypes := #[] }, type := 4, pos := "law.go:40", after := #[], guard := none }) rfl (fun K hK => ?_) ?_
  · go_simp
    (with_reducible refine (HA.out _ (HB3.out.next ((Below.refl _ _).drew))).mono ?_)
    rintro e w5 ⟨rfl, h5⟩
    have HB5 := Lib.hid h5
    clear h5
    (try go_wp2_with fail)
    refine hK.out _ _ ?_ (fun hHeld => ?_)
    · (first | exact HB8.out.cells | exact HB7.out.cells | exact HB6.out.cells | exact HB5.out.cells)
    clear hK K
    (try simp only [Act.put, List.setIfInBounds_toArray, List.set_cons_zero, List.set_cons_succ])
    refine wpAnyH_take (i := 1) (oi := { dst := some 36, op := Op.move (Operand.tmp 35), type := 4, pos := "law.go:40", after := #[{ on := 0, ground := Ground.data }, { on := 0, ground := Ground.chain }], guard := none }) (v := ?_) rfl (by kernel_rfl) (by kernel_rfl) (by kernel_rfl) (fun _ _ _ h => h) (Or.inl ⟨by rfl, ?_⟩) (by assumption) ?_
    rotate_left
    · (intro w9 hS9; (try dsimp only at hS9); go_simp); all_goals (with_reducible rfl)
    (try simp only [Act.put, List.setIfInBounds_toArray, List.set_cons_zero, List.set_cons_succ])
    refine wpAnyH_take (i := 2) (oi := { dst := some 37, op := Op.indexAddr 36 (Operand.tmp 7) (Operand.const (Value.int IntKind.i64 0)), type := 0, pos := "law.go:40", after := #[{ on := 1, ground := Ground.guard }], guard := some (1, true) }) (v := ?_) rfl (by kernel_rfl) (by kernel_rfl) (by kernel_rfl) (fun _ _ _ h => h) (Or.inl ⟨by rfl, ?_⟩) (by assumption) ?_
    rotate_left
    · (intro w9 hS9; (try dsimp only at hS9); go_simp); all_goals (with_reducible rfl)
    (try simp only [Act.put, List.setIfInBounds_toArray, List.set_cons_zero, List.set_cons_succ])
    refine wpAnyH_take (i := 3) (oi := { dst := some 38, op := Op.load 24 (Operand.tmp 37), type := 24, pos := "law.go:40", after := #[{ on := 2, ground := Ground.data }, { on := 1, ground := Ground.guard }], guard := some (1, true) }) (v := ?_) rfl (by kernel_rfl) (by kernel_rfl) (by kernel_rfl) (fun _ _ _ h => h) (Or.inl ⟨by rfl, ?_⟩) (by assumption) ?_
    rotate_left
    · (intro w9 hS9; (try dsimp only at hS9); go_simp); all_goals (with_reducible rfl)
    (try simp only [Act.put, List.setIfInBounds_toArray, List.set_cons_zero, List.set_cons_succ])
    refine wpAnyH_ready (rs := [4]) (by kernel_rfl) (by simp) ?_
    refine AllReadyH.cons (o := { dst := some 39, op := Op.call { callee := Callee.value (Operand.func 12), args := #[Operand.tmp 38], argTypes := #[24] }, type := 3, pos := "law.go:40", after := #[{ on := 3, ground := Ground.data }, { on := 1, ground := Ground.chain }, { on := 1, ground := Ground.guard }], guard := some (1, true) }) rfl (fun K hK => ?_) ?_
    · go_simp
      (with_reducible refine (HL.out _ HB5.out).mono ?_)
      rintro e w6 ⟨k6, rfl, h6⟩
      have HB6 := Lib.hid h6
      have d6 : decide ((0 : Int) ≤ (k6 : Int)) = true := decide_eq_true (by omega)
      clear h6
      (try go_wp2_with fail)
      refine hK.out _ _ ?_ (fun hHeld => ?_)
      · (first | exact HB8.out.cells | exact HB7.out.cells | exact HB6.out.cells | exact HB5.out.cells)
      clear hK K
      (try simp only [Act.put, List.setIfInBounds_toArray, List.set_cons_zero, List.set_cons_succ])
      refine wpAnyH_take (i := 5) (oi := { dst := some 40, op := Op.binOp BinOp.geq 3 (Operand.tmp 39) (Operand.const (Value.int IntKind.i64 0)) 3, type := 4, pos := "law.go:40", after := #[{ on := 4, ground := Ground.data }, { on := 1, ground := Ground.guard }], guard := some (1, true) }) (v := ?_) rfl (by kernel_rfl) (by kernel_rfl) (by kernel_rfl) (fun _ _ _ h => h) (Or.inl ⟨by rfl, ?_⟩) (by assumption) ?_
      rotate_left
      · (intro w9 hS9; (try dsimp only at hS9); go_simp); all_goals (with_reducible rfl)
      (try simp only [Act.put, List.setIfInBounds_toArray, List.set_cons_zero, List.set_cons_succ])
      refine wpAnyH_take (i := 6) (oi := { dst := some 41, op := Op.pick (Operand.tmp 36) (Operand.tmp 40) (Operand.const (Value.bool false)), type := 4, pos := "law.go:40", after := #[{ on := 1, ground := Ground.data }, { on := 5, ground := Ground.data }], guard := none }) (v := ?_) rfl (by kernel_rfl) (by kernel_rfl) (by kernel_rfl) (fun _ _ _ h => h) (Or.inl ⟨by rfl, ?_⟩) (by assumption) ?_
      rotate_left
      · (intro w9 hS9; (try dsimp only at hS9); go_simp); all_goals (with_reducible rfl)
      (try simp only [Act.put, List.setIfInBounds_toArray, List.set_cons_zero, List.set_cons_succ])
      refine wpAnyH_take (i := 7) (oi := { dst := some 42, op := Op.move (Operand.tmp 41), type := 4, pos := "law.go:40", after := #[{ on := 6, ground := Ground.data }, { on := 4, ground := Ground.chain }], guard := none }) (v := ?_) rfl (by kernel_rfl) (by kernel_rfl) (by kernel_rfl) (fun _ _ _ h => h) (Or.inl ⟨by rfl, ?_⟩) (by assumption) ?_
      rotate_left
      · (intro w9 hS9; (try dsimp only at hS9); go_simp); all_goals (with_reducible rfl)
      (try simp only [Act.put, List.setIfInBounds_toArray, List.set_cons_zero, List.set_cons_succ])
      refine wpAnyH_take (i := 8) (oi := { dst := some 43, op := Op.indexAddr 36 (Operand.tmp 7) (Operand.const (Value.int IntKind.i64 0)), type := 0, pos := "law.go:40", after := #[{ on := 7, ground := Ground.guard }], guard := some (7, true) }) (v := ?_) rfl (by kernel_rfl) (by kernel_rfl) (by kernel_rfl) (fun _ _ _ h => h) (Or.inl ⟨by rfl, ?_⟩) (by assumption) ?_
      rotate_left
      · (intro w9 hS9; (try dsimp only at hS9); go_simp); all_goals (with_reducible rfl)
      (try simp only [Act.put, List.setIfInBounds_toArray, List.set_cons_zero, List.set_cons_succ])
      refine wpAnyH_take (i := 9) (oi := { dst := some 44, op := Op.load 24 (Operand.tmp 43), type := 24, pos := "law.go:40", after := #[{ on := 8, ground := Ground.data }, { on := 7, ground := Ground.guard }], guard := some (7, true) }) (v := ?_) rfl (by kernel_rfl) (by kernel_rfl) (by kernel_rfl) (fun _ _ _ h => h) (Or.inl ⟨by rfl, ?_⟩) (by assumption) ?_
      rotate_left
      · (intro w9 hS9; (try dsimp only at hS9); go_simp); all_goals (with_reducible rfl)
      (try simp only [Act.put, List.setIfInBounds_toArray, List.set_cons_zero, List.set_cons_succ])
      refine wpAnyH_take (i := 11) (oi := { dst := some 46, op := Op.indexAddr 36 (Operand.tmp 7) (Operand.const (Value.int IntKind.i64 1)), type := 0, pos := "law.go:40", after := #[{ on := 7, ground := Ground.guard }], guard := some (7, true) }) (v := ?_) rfl (by kernel_rfl) (by kernel_rfl) (by kernel_rfl) (fun _ _ _ h => h) (Or.inl ⟨by rfl, ?_⟩) (by assumption) ?_
      rotate_left
      · (intro w9 hS9; (try dsimp only at hS9); go_simp); all_goals (with_reducible rfl)
      (try simp only [Act.put, List.setIfInBounds_toArray, List.set_cons_zero, List.set_cons_succ])
      refine wpAnyH_take (i := 12) (oi := { dst := some 47, op := Op.load 24 (Operand.tmp 46), type := 24, pos := "law.go:40", after := #[{ on := 11, ground := Ground.data }, { on := 7, ground := Ground.guard }], guard := some (7, true) }) (v := ?_) rfl (by kernel_rfl) (by kernel_rfl) (by kernel_rfl) (fun _ _ _ h => h) (Or.inl ⟨by rfl, ?_⟩) (by assumption) ?_
      rotate_left
      · (intro w9 hS9; (try dsimp only at hS9); go_simp); all_goals (with_reducible rfl)
      (try simp only [Act.put, List.setIfInBounds_toArray, List.set_cons_zero, List.set_cons_succ])
      refine wpAnyH_ready (rs := [10]) (by kernel_rfl) (by simp) ?_
      refine AllReadyH.cons (o := { dst := some 45, op := Op.call { callee := Callee.value (Operand.func 8), args := #[Operand.tmp 44, Operand.const (Value.int IntKind.i64 1), Operand.const (Value.bool false)], argTypes := #[24, 3, 4] }, type := 27, pos := "law.go:40", after := #[{ on := 9, ground := Ground.data }, { on := 7, ground := Ground.chain }, { on := 7, ground := Ground.guard }], guard := some (7, true) }) rfl (fun K hK => ?_) ?_
      · go_simp
        (with_reducible refine (HP1.out _ HB6.out).mono ?_)
        rintro e w7 ⟨E1, e1a, e1b, e1c, rfl, h7⟩
        have HB7 := Lib.hid h7
        clear h7
        (try go_wp2_with fail)
        refine hK.out _ _ ?_ (fun hHeld => ?_)
        · (first | exact HB8.out.cells | exact HB7.out.cells | exact HB6.out.cells | exact HB5.out.cells)
        clear hK K
        (try simp only [Act.put, List.setIfInBounds_toArray, List.set_cons_zero, List.set_cons_succ])
        refine wpAnyH_ready (rs := [13]) (by kernel_rfl) (by simp) ?_
        refine AllReadyH.cons (o := { dst := some 48, op := Op.call { callee := Callee.value (Operand.func 8), args := #[Operand.tmp 47, Operand.const (Value.int IntKind.i64 1), Operand.const (Value.bool true)], argTypes := #[24, 3, 4] }, type := 27, pos := "law.go:40", after := #[{ on := 12, ground := Ground.data }, { on := 10, ground := Ground.chain }, { on := 7, ground := Ground.guard }], guard := some (7, true) }) rfl (fun K hK => ?_) ?_
        · go_simp
          (with_reducible refine (HP2.out _ HB7.out).mono ?_)
          rintro e w8 ⟨E2, e2a, e2b, e2c, rfl, h8⟩
          have HB8 := Lib.hid h8
          have w64 : IntKind.i64.wrap (E1 + E2) = E1 + E2 := IntWalk.i64_in _ (by omega)
          have w64' : wrap64 (E1 + E2) = E1 + E2 := IntWalk.wrap64_in _ (by omega)
          have d8 : decide ((6 : Int) ≤ E1 + E2) = true := decide_eq_true (by omega)
          clear h8 e1a e1b e1c e2a e2b e2c
          (try go_wp2_with fail)
          refine hK.out _ _ ?_ (fun hHeld => ?_)
          · (first | exact HB8.out.cells | exact HB7.out.cells | exact HB6.out.cells | exact HB5.out.cells)
          clear hK K
          (try simp only [Act.put, List.setIfInBounds_toArray, List.set_cons_zero, List.set_cons_succ])
          refine wpAnyH_take (i := 14) (oi := { dst := some 49, op := Op.binOp BinOp.add 27 (Operand.tmp 45) (Operand.tmp 48) 27, type := 27, pos := "law.go:40", after := #[{ on := 10, ground := Ground.data }, { on := 13, ground := Ground.data }, { on := 7, ground := Ground.guard }], guard := some (7, true) }) (v := ?_) rfl (by kernel_rfl) (by kernel_rfl) (by kernel_rfl) (fun _ _ _ h => h) (Or.inl ⟨by rfl, ?_⟩) (by assumption) ?_
          rotate_left
          · (intro w9 hS9; (try dsimp only at hS9); go_simp); all_goals (with_reducible rfl)
          (try simp only [Act.put, List.setIfInBounds_toArray, List.set_cons_zero, List.set_cons_succ])
          refine wpAnyH_take (i := 15) (oi := { dst := some 50, op := Op.binOp BinOp.geq 27 (Operand.tmp 49) (Operand.const (Value.int IntKind.i64 6)) 27, type := 4, pos := "law.go:40", after := #[{ on := 14, ground := Ground.data }, { on := 7, ground := Ground.guard }], guard := some (7, true) }) (v := ?_) rfl (by kernel_rfl) (by kernel_rfl) (by kernel_rfl) (fun _ _ _ h => h) (Or.inl ⟨by rfl, ?_⟩) (by assumption) ?_
          rotate_left
          · (intro w9 hS9; (try dsimp only at hS9); go_simp); all_goals (with_reducible rfl)
          (try simp only [Act.put, List.setIfInBounds_toArray, List.set_cons_zero, List.set_cons_succ])
          refine wpAnyH_take (i := 16) (oi := { dst := some 51, op := Op.pick (Operand.tmp 42) (Operand.tmp 50) (Operand.const (Value.bool false)), type := 4, pos := "law.go:40", after := #[{ on := 7, ground := Ground.data }, { on := 15, ground := Ground.data }], guard := none }) (v := ?_) rfl (by kernel_rfl) (by kernel_rfl) (by kernel_rfl) (fun _ _ _ h => h) (Or.inl ⟨by rfl, ?_⟩) (by assumption) ?_
          rotate_left
          · (intro w9 hS9; (try dsimp only at hS9); go_simp); all_goals (with_reducible rfl)
          (try simp only [Act.put, List.setIfInBounds_toArray, List.set_cons_zero, List.set_cons_succ])
          refine wpAnyH_take (i := 17) (oi := { dst := some 6, op := Op.assign (Operand.tmp 51), type := 4, pos := "law.go:40", after := #[{ on := 16, ground := Ground.data }, { on := 13, ground := Ground.chain }, { on := 0, ground := Ground.phase }, { on := 1, ground := Ground.phase }, { on := 2, ground := Ground.phase }, { on := 3, ground := Ground.phase }, { on := 4, ground := Ground.phase }, { on := 5, ground := Ground.phase }, { on := 6, ground := Ground.phase }, { on := 7, ground := Ground.phase }, { on := 8, ground := Ground.phase }, { on := 9, ground := Ground.phase }, { on := 10, ground := Ground.phase }, { on := 11, ground := Ground.phase }, { on := 12, ground := Ground.phase }, { on := 13, ground := Ground.phase }, { on := 14, ground := Ground.phase }, { on := 15, ground := Ground.phase }, { on := 16, ground := Ground.phase }], guard := none }) (v := ?_) rfl (by kernel_rfl) (by kernel_rfl) (by kernel_rfl) (fun _ _ _ h => h) (Or.inl ⟨by rfl, ?_⟩) (by assumption) ?_
          rotate_left
          · (intro w9 hS9; (try dsimp only at hS9); go_simp); all_goals (with_reducible rfl)
          (try simp only [Act.put, List.setIfInBounds_toArray, List.set_cons_zero, List.set_cons_succ])
          refine wpAnyH_done (by kernel_rfl) (NoPanic.normal ?_) _
          go_wp2_with fail
          go_ret
          exact ⟨rfl, HB8.out.below⟩
        exact AllReadyH.nil
      exact AllReadyH.nil
    exact AllReadyH.nil
  exact AllReadyH.nil

set_option maxRecDepth 100000 in
set_option maxHeartbeats 4000000 in
theorem tells_ns (n : Int) (m : Nat) (v : Value) (hn : n < 1 ∨ 256 < n) (hm1 : 1 ≤ m) (hm2 : m ≤ 256) (w : World) : Calls Try.prog 4 #[.int .i64 n, .int .i64 (m : Int), v] w fun e w' => e = .returned (.bool true) ∧ Below w.heap.size w w' := by
  have HN1 := Lib.hid (new_none n hn w)
  have HN2 : Hid (∀ W, Calls Try.prog 6 #[.int .i64 (m : Int)] W fun e w' => ∃ v, e = .returned v ∧ NewFeed W w' v m) := fun W => new_any m hm1 hm2 W
  have HF1 : Hid (∀ W, Calls Try.prog 13 #[.pointer none, .int .i64 n] W fun e w' => e = .returned (.bool true) ∧ W = w') := fun W => fits_none n hn W
  have HF2 : Hid (∀ b W, Calls Try.prog 13 #[.pointer (some ⟨b, 0, none⟩), .int .i64 (m : Int)] W fun e w' => e = .returned (.bool true) ∧ W = w') := fun b W => fits_some b m hm1 hm2 W
  clear hn hm1 hm2
  go_enter Try.func4, Try.ntmps4
  go_wp2_with (first
    | (go_at_call 6; (with_reducible refine HN1.out.mono ?_); rintro e w1 ⟨rfl, rfl⟩)
    | (go_at_call 6; (with_reducible refine (HN2.out w).mono ?_); rintro e w1 ⟨v1, rfl, hN⟩
       obtain ⟨b2, c2, d2, rfl, hf, l1, l2, l3⟩ := hN.ex
       have hk := hN.below
       clear hN)
    | (obtain ⟨w3, hw⟩ : ∃ w3, w1.alloc (.cells #[.pointer none, .pointer (some ⟨b2, 0, none⟩)] 36) = w3 := ⟨_, rfl⟩
       rewrite [hw]
       have hb : Below w1.heap.size w1 w3 := by rewrite [← hw]; exact (Below.refl _ _).alloc (Nat.le_refl _) _
       have hn3 : NB w w3 w1.heap.size (.pointer none) (.pointer (some ⟨b2, 0, none⟩)) := ⟨hk.trans (hb.mono hk.size), by rewrite [← hw]; exact heap_alloc_new _ _, hk.size⟩
       have hlt := hf.lt
       have HB3 : Hid (NF w w3 w1.heap.size (.pointer none) (.pointer (some ⟨b2, 0, none⟩)) b2 c2 d2 m) := ⟨hn3, ⟨[], [], hf.upd (Upd.of_below (l := []) hb) (by simp) (by simp) (by simp)⟩, ⟨l1, l2, l3⟩, by omega⟩
       clear hw hb hn3 hlt hf hk l1 l2 l3
       skip
       generalize w1.heap.size = bf at *
       skip
       obtain ⟨p0, p1⟩ := HB3.out.nb.cells)
    | (go_at_call 13; (with_reducible refine (HF1.out _).mono ?_); rintro e w4 ⟨rfl, rfl⟩)
    | (go_at_call 13; (with_reducible refine (HF2.out _ _).mono ?_); rintro e w4 ⟨rfl, rfl⟩))
  have HA : Hid (∀ W, NF w W bf (.pointer none) (.pointer (some ⟨b2, 0, none⟩)) b2 c2 d2 m → Calls Try.prog 7 #[] W fun e w' => e = .returned (.bool true) ∧ NF w w' bf (.pointer none) (.pointer (some ⟨b2, 0, none⟩)) b2 c2 d2 m) := fun W hW => (alive19_any W).mono (fun e w' he => ⟨he.1, hW.next he.2⟩)
  have HL : Hid (∀ W, NF w W bf (.pointer none) (.pointer (some ⟨b2, 0, none⟩)) b2 c2 d2 m → Calls Try.prog 12 #[.pointer none] W fun e w' => ∃ k : Nat, e = .returned (.int .i64 (k : Int)) ∧ NF w w' bf (.pointer none) (.pointer (some ⟨b2, 0, none⟩)) b2 c2 d2 m) := fun W hW => (len_none none W (made_nil W)).mono (fun e w' he => ⟨0, he.1, by rw [← he.2]; exact hW⟩)
  have HP1 : Hid (∀ W, NF w W bf (.pointer none) (.pointer (some ⟨b2, 0, none⟩)) b2 c2 d2 m → Calls Try.prog 8 #[.pointer none, .int .i64 1, .bool false] W fun e w' => ∃ E : Int, 0 ≤ E ∧ E ≤ 7 ∧ 6 ≤ E ∧ e = .returned (.int .i64 E) ∧ NF w w' bf (.pointer none) (.pointer (some ⟨b2, 0, none⟩)) b2 c2 d2 m) := fun W hW => (push_none none 1 false W (made_nil W)).mono (fun e w' he => ⟨6, by omega, by omega, by omega, he.1, by rw [← he.2]; exact hW⟩)
  have HP2 : Hid (∀ W, NF w W bf (.pointer none) (.pointer (some ⟨b2, 0, none⟩)) b2 c2 d2 m → Calls Try.prog 8 #[.pointer (some ⟨b2, 0, none⟩), .int .i64 1, .bool true] W fun e w' => ∃ E : Int, 0 ≤ E ∧ E ≤ 7 ∧ 0 ≤ E ∧ e = .returned (.int .i64 E) ∧ NF w w' bf (.pointer none) (.pointer (some ⟨b2, 0, none⟩)) b2 c2 d2 m) := fun W hW => (hW.push 1 true).mono (fun e w' ⟨E, h1, h2, h3, h4⟩ => ⟨E, h1, h2, h1, h3, h4⟩)
  refine wp_region_noPanic ?_
  refine wp_region_held_drew (S := fun W => W.cell? ⟨bf, 0, none⟩ = some (.pointer none) ∧ W.cell? ⟨bf, 1, none⟩ = some (.pointer (some ⟨b2, 0, none⟩))) (by kernel_rfl) ?_ (fun hHeld => ?_)
  · exact ⟨p0, p1⟩
  refine wpAnyH_ready (rs := [0]) (by kernel_rfl) (by simp) ?_
  refine AllReadyH.cons (o := { dst := some 35, op := Op.call { callee := Callee.value (Operand.func 7), args := #[], argTypes := #[] }, type := 4, pos := "law.go:40", after := #[], guard := none }) rfl (fun K hK => ?_) ?_
  · go_simp
    (with_reducible refine (HA.out _ (HB3.out.next ((Below.refl _ _).drew))).mono ?_)
    rintro e w5 ⟨rfl, h5⟩
    have HB5 := Lib.hid h5
    clear h5
    (try go_wp2_with fail)
    refine hK.out _ _ ?_ (fun hHeld => ?_)
    · (first | exact HB8.out.nb.cells | exact HB7.out.nb.cells | exact HB6.out.nb.cells | exact HB5.out.nb.cells)
    clear hK K
    (try simp only [Act.put, List.setIfInBounds_toArray, List.set_cons_zero, List.set_cons_succ])
    refine wpAnyH_take (i := 1) (oi := { dst := some 36, op := Op.move (Operand.tmp 35), type := 4, pos := "law.go:40", after := #[{ on := 0, ground := Ground.data }, { on := 0, ground := Ground.chain }], guard := none }) (v := ?_) rfl (by kernel_rfl) (by kernel_rfl) (by kernel_rfl) (fun _ _ _ h => h) (Or.inl ⟨by rfl, ?_⟩) (by assumption) ?_
    rotate_left
    · (intro w9 hS9; (try dsimp only at hS9); go_simp); all_goals (with_reducible rfl)
    (try simp only [Act.put, List.setIfInBounds_toArray, List.set_cons_zero, List.set_cons_succ])
    refine wpAnyH_take (i := 2) (oi := { dst := some 37, op := Op.indexAddr 36 (Operand.tmp 7) (Operand.const (Value.int IntKind.i64 0)), type := 0, pos := "law.go:40", after := #[{ on := 1, ground := Ground.guard }], guard := some (1, true) }) (v := ?_) rfl (by kernel_rfl) (by kernel_rfl) (by kernel_rfl) (fun _ _ _ h => h) (Or.inl ⟨by rfl, ?_⟩) (by assumption) ?_
    rotate_left
    · (intro w9 hS9; (try dsimp only at hS9); go_simp); all_goals (with_reducible rfl)
    (try simp only [Act.put, List.setIfInBounds_toArray, List.set_cons_zero, List.set_cons_succ])
    refine wpAnyH_take (i := 3) (oi := { dst := some 38, op := Op.load 24 (Operand.tmp 37), type := 24, pos := "law.go:40", after := #[{ on := 2, ground := Ground.data }, { on := 1, ground := Ground.guard }], guard := some (1, true) }) (v := ?_) rfl (by kernel_rfl) (by kernel_rfl) (by kernel_rfl) (fun _ _ _ h => h) (Or.inl ⟨by rfl, ?_⟩) (by assumption) ?_
    rotate_left
    · (intro w9 hS9; (try dsimp only at hS9); go_simp); all_goals (with_reducible rfl)
    (try simp only [Act.put, List.setIfInBounds_toArray, List.set_cons_zero, List.set_cons_succ])
    refine wpAnyH_ready (rs := [4]) (by kernel_rfl) (by simp) ?_
    refine AllReadyH.cons (o := { dst := some 39, op := Op.call { callee := Callee.value (Operand.func 12), args := #[Operand.tmp 38], argTypes := #[24] }, type := 3, pos := "law.go:40", after := #[{ on := 3, ground := Ground.data }, { on := 1, ground := Ground.chain }, { on := 1, ground := Ground.guard }], guard := some (1, true) }) rfl (fun K hK => ?_) ?_
    · go_simp
      (with_reducible refine (HL.out _ HB5.out).mono ?_)
      rintro e w6 ⟨k6, rfl, h6⟩
      have HB6 := Lib.hid h6
      have d6 : decide ((0 : Int) ≤ (k6 : Int)) = true := decide_eq_true (by omega)
      clear h6
      (try go_wp2_with fail)
      refine hK.out _ _ ?_ (fun hHeld => ?_)
      · (first | exact HB8.out.nb.cells | exact HB7.out.nb.cells | exact HB6.out.nb.cells | exact HB5.out.nb.cells)
      clear hK K
      (try simp only [Act.put, List.setIfInBounds_toArray, List.set_cons_zero, List.set_cons_succ])
      refine wpAnyH_take (i := 5) (oi := { dst := some 40, op := Op.binOp BinOp.geq 3 (Operand.tmp 39) (Operand.const (Value.int IntKind.i64 0)) 3, type := 4, pos := "law.go:40", after := #[{ on := 4, ground := Ground.data }, { on := 1, ground := Ground.guard }], guard := some (1, true) }) (v := ?_) rfl (by kernel_rfl) (by kernel_rfl) (by kernel_rfl) (fun _ _ _ h => h) (Or.inl ⟨by rfl, ?_⟩) (by assumption) ?_
      rotate_left
      · (intro w9 hS9; (try dsimp only at hS9); go_simp); all_goals (with_reducible rfl)
      (try simp only [Act.put, List.setIfInBounds_toArray, List.set_cons_zero, List.set_cons_succ])
      refine wpAnyH_take (i := 6) (oi := { dst := some 41, op := Op.pick (Operand.tmp 36) (Operand.tmp 40) (Operand.const (Value.bool false)), type := 4, pos := "law.go:40", after := #[{ on := 1, ground := Ground.data }, { on := 5, ground := Ground.data }], guard := none }) (v := ?_) rfl (by kernel_rfl) (by kernel_rfl) (by kernel_rfl) (fun _ _ _ h => h) (Or.inl ⟨by rfl, ?_⟩) (by assumption) ?_
      rotate_left
      · (intro w9 hS9; (try dsimp only at hS9); go_simp); all_goals (with_reducible rfl)
      (try simp only [Act.put, List.setIfInBounds_toArray, List.set_cons_zero, List.set_cons_succ])
      refine wpAnyH_take (i := 7) (oi := { dst := some 42, op := Op.move (Operand.tmp 41), type := 4, pos := "law.go:40", after := #[{ on := 6, ground := Ground.data }, { on := 4, ground := Ground.chain }], guard := none }) (v := ?_) rfl (by kernel_rfl) (by kernel_rfl) (by kernel_rfl) (fun _ _ _ h => h) (Or.inl ⟨by rfl, ?_⟩) (by assumption) ?_
      rotate_left
      · (intro w9 hS9; (try dsimp only at hS9); go_simp); all_goals (with_reducible rfl)
      (try simp only [Act.put, List.setIfInBounds_toArray, List.set_cons_zero, List.set_cons_succ])
      refine wpAnyH_take (i := 8) (oi := { dst := some 43, op := Op.indexAddr 36 (Operand.tmp 7) (Operand.const (Value.int IntKind.i64 0)), type := 0, pos := "law.go:40", after := #[{ on := 7, ground := Ground.guard }], guard := some (7, true) }) (v := ?_) rfl (by kernel_rfl) (by kernel_rfl) (by kernel_rfl) (fun _ _ _ h => h) (Or.inl ⟨by rfl, ?_⟩) (by assumption) ?_
      rotate_left
      · (intro w9 hS9; (try dsimp only at hS9); go_simp); all_goals (with_reducible rfl)
      (try simp only [Act.put, List.setIfInBounds_toArray, List.set_cons_zero, List.set_cons_succ])
      refine wpAnyH_take (i := 9) (oi := { dst := some 44, op := Op.load 24 (Operand.tmp 43), type := 24, pos := "law.go:40", after := #[{ on := 8, ground := Ground.data }, { on := 7, ground := Ground.guard }], guard := some (7, true) }) (v := ?_) rfl (by kernel_rfl) (by kernel_rfl) (by kernel_rfl) (fun _ _ _ h => h) (Or.inl ⟨by rfl, ?_⟩) (by assumption) ?_
      rotate_left
      · (intro w9 hS9; (try dsimp only at hS9); go_simp); all_goals (with_reducible rfl)
      (try simp only [Act.put, List.setIfInBounds_toArray, List.set_cons_zero, List.set_cons_succ])
      refine wpAnyH_take (i := 11) (oi := { dst := some 46, op := Op.indexAddr 36 (Operand.tmp 7) (Operand.const (Value.int IntKind.i64 1)), type := 0, pos := "law.go:40", after := #[{ on := 7, ground := Ground.guard }], guard := some (7, true) }) (v := ?_) rfl (by kernel_rfl) (by kernel_rfl) (by kernel_rfl) (fun _ _ _ h => h) (Or.inl ⟨by rfl, ?_⟩) (by assumption) ?_
      rotate_left
      · (intro w9 hS9; (try dsimp only at hS9); go_simp); all_goals (with_reducible rfl)
      (try simp only [Act.put, List.setIfInBounds_toArray, List.set_cons_zero, List.set_cons_succ])
      refine wpAnyH_take (i := 12) (oi := { dst := some 47, op := Op.load 24 (Operand.tmp 46), type := 24, pos := "law.go:40", after := #[{ on := 11, ground := Ground.data }, { on := 7, ground := Ground.guard }], guard := some (7, true) }) (v := ?_) rfl (by kernel_rfl) (by kernel_rfl) (by kernel_rfl) (fun _ _ _ h => h) (Or.inl ⟨by rfl, ?_⟩) (by assumption) ?_
      rotate_left
      · (intro w9 hS9; (try dsimp only at hS9); go_simp); all_goals (with_reducible rfl)
      (try simp only [Act.put, List.setIfInBounds_toArray, List.set_cons_zero, List.set_cons_succ])
      refine wpAnyH_ready (rs := [10]) (by kernel_rfl) (by simp) ?_
      refine AllReadyH.cons (o := { dst := some 45, op := Op.call { callee := Callee.value (Operand.func 8), args := #[Operand.tmp 44, Operand.const (Value.int IntKind.i64 1), Operand.const (Value.bool false)], argTypes := #[24, 3, 4] }, type := 27, pos := "law.go:40", after := #[{ on := 9, ground := Ground.data }, { on := 7, ground := Ground.chain }, { on := 7, ground := Ground.guard }], guard := some (7, true) }) rfl (fun K hK => ?_) ?_
      · go_simp
        (with_reducible refine (HP1.out _ HB6.out).mono ?_)
        rintro e w7 ⟨E1, e1a, e1b, e1c, rfl, h7⟩
        have HB7 := Lib.hid h7
        clear h7
        (try go_wp2_with fail)
        refine hK.out _ _ ?_ (fun hHeld => ?_)
        · (first | exact HB8.out.nb.cells | exact HB7.out.nb.cells | exact HB6.out.nb.cells | exact HB5.out.nb.cells)
        clear hK K
        (try simp only [Act.put, List.setIfInBounds_toArray, List.set_cons_zero, List.set_cons_succ])
        refine wpAnyH_ready (rs := [13]) (by kernel_rfl) (by simp) ?_
        refine AllReadyH.cons (o := { dst := some 48, op := Op.call { callee := Callee.value (Operand.func 8), args := #[Operand.tmp 47, Operand.const (Value.int IntKind.i64 1), Operand.const (Value.bool true)], argTypes := #[24, 3, 4] }, type := 27, pos := "law.go:40", after := #[{ on := 12, ground := Ground.data }, { on := 10, ground := Ground.chain }, { on := 7, ground := Ground.guard }], guard := some (7, true) }) rfl (fun K hK => ?_) ?_
        · go_simp
          (with_reducible refine (HP2.out _ HB7.out).mono ?_)
          rintro e w8 ⟨E2, e2a, e2b, e2c, rfl, h8⟩
          have HB8 := Lib.hid h8
          have w64 : IntKind.i64.wrap (E1 + E2) = E1 + E2 := IntWalk.i64_in _ (by omega)
          have w64' : wrap64 (E1 + E2) = E1 + E2 := IntWalk.wrap64_in _ (by omega)
          have d8 : decide ((6 : Int) ≤ E1 + E2) = true := decide_eq_true (by omega)
          clear h8 e1a e1b e1c e2a e2b e2c
          (try go_wp2_with fail)
          refine hK.out _ _ ?_ (fun hHeld => ?_)
          · (first | exact HB8.out.nb.cells | exact HB7.out.nb.cells | exact HB6.out.nb.cells | exact HB5.out.nb.cells)
          clear hK K
          (try simp only [Act.put, List.setIfInBounds_toArray, List.set_cons_zero, List.set_cons_succ])
          refine wpAnyH_take (i := 14) (oi := { dst := some 49, op := Op.binOp BinOp.add 27 (Operand.tmp 45) (Operand.tmp 48) 27, type := 27, pos := "law.go:40", after := #[{ on := 10, ground := Ground.data }, { on := 13, ground := Ground.data }, { on := 7, ground := Ground.guard }], guard := some (7, true) }) (v := ?_) rfl (by kernel_rfl) (by kernel_rfl) (by kernel_rfl) (fun _ _ _ h => h) (Or.inl ⟨by rfl, ?_⟩) (by assumption) ?_
          rotate_left
          · (intro w9 hS9; (try dsimp only at hS9); go_simp); all_goals (with_reducible rfl)
          (try simp only [Act.put, List.setIfInBounds_toArray, List.set_cons_zero, List.set_cons_succ])
          refine wpAnyH_take (i := 15) (oi := { dst := some 50, op := Op.binOp BinOp.geq 27 (Operand.tmp 49) (Operand.const (Value.int IntKind.i64 6)) 27, type := 4, pos := "law.go:40", after := #[{ on := 14, ground := Ground.data }, { on := 7, ground := Ground.guard }], guard := some (7, true) }) (v := ?_) rfl (by kernel_rfl) (by kernel_rfl) (by kernel_rfl) (fun _ _ _ h => h) (Or.inl ⟨by rfl, ?_⟩) (by assumption) ?_
          rotate_left
          · (intro w9 hS9; (try dsimp only at hS9); go_simp); all_goals (with_reducible rfl)
          (try simp only [Act.put, List.setIfInBounds_toArray, List.set_cons_zero, List.set_cons_succ])
          refine wpAnyH_take (i := 16) (oi := { dst := some 51, op := Op.pick (Operand.tmp 42) (Operand.tmp 50) (Operand.const (Value.bool false)), type := 4, pos := "law.go:40", after := #[{ on := 7, ground := Ground.data }, { on := 15, ground := Ground.data }], guard := none }) (v := ?_) rfl (by kernel_rfl) (by kernel_rfl) (by kernel_rfl) (fun _ _ _ h => h) (Or.inl ⟨by rfl, ?_⟩) (by assumption) ?_
          rotate_left
          · (intro w9 hS9; (try dsimp only at hS9); go_simp); all_goals (with_reducible rfl)
          (try simp only [Act.put, List.setIfInBounds_toArray, List.set_cons_zero, List.set_cons_succ])
          refine wpAnyH_take (i := 17) (oi := { dst := some 6, op := Op.assign (Operand.tmp 51), type := 4, pos := "law.go:40", after := #[{ on := 16, ground := Ground.data }, { on := 13, ground := Ground.chain }, { on := 0, ground := Ground.phase }, { on := 1, ground := Ground.phase }, { on := 2, ground := Ground.phase }, { on := 3, ground := Ground.phase }, { on := 4, ground := Ground.phase }, { on := 5, ground := Ground.phase }, { on := 6, ground := Ground.phase }, { on := 7, ground := Ground.phase }, { on := 8, ground := Ground.phase }, { on := 9, ground := Ground.phase }, { on := 10, ground := Ground.phase }, { on := 11, ground := Ground.phase }, { on := 12, ground := Ground.phase }, { on := 13, ground := Ground.phase }, { on := 14, ground := Ground.phase }, { on := 15, ground := Ground.phase }, { on := 16, ground := Ground.phase }], guard := none }) (v := ?_) rfl (by kernel_rfl) (by kernel_rfl) (by kernel_rfl) (fun _ _ _ h => h) (Or.inl ⟨by rfl, ?_⟩) (by assumption) ?_
          rotate_left
          · (intro w9 hS9; (try dsimp only at hS9); go_simp); all_goals (with_reducible rfl)
          (try simp only [Act.put, List.setIfInBounds_toArray, List.set_cons_zero, List.set_cons_succ])
          refine wpAnyH_done (by kernel_rfl) (NoPanic.normal ?_) _
          go_wp2_with fail
          go_ret
          exact ⟨rfl, HB8.out.nb.below⟩
        exact AllReadyH.nil
      exact AllReadyH.nil
    exact AllReadyH.nil
  exact AllReadyH.nil

set_option maxRecDepth 100000 in
set_option maxHeartbeats 4000000 in
theorem tells_sn (n : Nat) (m : Int) (v : Value) (hn1 : 1 ≤ n) (hn2 : n ≤ 256) (hm : m < 1 ∨ 256 < m) (w : World) : Calls Try.prog 4 #[.int .i64 (n : Int), .int .i64 m, v] w fun e w' => e = .returned (.bool true) ∧ Below w.heap.size w w' := by
  have HN1 := Lib.hid (new_any n hn1 hn2 w)
  have HN2 : Hid (∀ W, Calls Try.prog 6 #[.int .i64 m] W fun e w' => e = .returned (.pointer none) ∧ W = w') := fun W => new_none m hm W
  have HF1 : Hid (∀ b W, Calls Try.prog 13 #[.pointer (some ⟨b, 0, none⟩), .int .i64 (n : Int)] W fun e w' => e = .returned (.bool true) ∧ W = w') := fun b W => fits_some b n hn1 hn2 W
  have HF2 : Hid (∀ W, Calls Try.prog 13 #[.pointer none, .int .i64 m] W fun e w' => e = .returned (.bool true) ∧ W = w') := fun W => fits_none m hm W
  clear hn1 hn2 hm
  go_enter Try.func4, Try.ntmps4
  go_wp2_with (first
    | (go_at_call 6; (with_reducible refine HN1.out.mono ?_); rintro e w1 ⟨v1, rfl, hN⟩
       obtain ⟨b1, c1, d1, rfl, hf, l1, l2, l3⟩ := hN.ex
       have hk := hN.below
       clear hN)
    | (go_at_call 6; (with_reducible refine (HN2.out _).mono ?_); rintro e w2 ⟨rfl, rfl⟩)
    | (obtain ⟨w3, hw⟩ : ∃ w3, w1.alloc (.cells #[.pointer (some ⟨b1, 0, none⟩), .pointer none] 36) = w3 := ⟨_, rfl⟩
       rewrite [hw]
       have hb : Below w1.heap.size w1 w3 := by rewrite [← hw]; exact (Below.refl _ _).alloc (Nat.le_refl _) _
       have hn3 : NB w w3 w1.heap.size (.pointer (some ⟨b1, 0, none⟩)) (.pointer none) := ⟨hk.trans (hb.mono hk.size), by rewrite [← hw]; exact heap_alloc_new _ _, hk.size⟩
       have hlt := hf.lt
       have HB3 : Hid (NF w w3 w1.heap.size (.pointer (some ⟨b1, 0, none⟩)) (.pointer none) b1 c1 d1 n) := ⟨hn3, ⟨[], [], hf.upd (Upd.of_below (l := []) hb) (by simp) (by simp) (by simp)⟩, ⟨l1, l2, l3⟩, by omega⟩
       clear hw hb hn3 hlt hf hk l1 l2 l3
       skip
       generalize w1.heap.size = bf at *
       skip
       obtain ⟨p0, p1⟩ := HB3.out.nb.cells)
    | (go_at_call 13; (with_reducible refine (HF1.out _ _).mono ?_); rintro e w4 ⟨rfl, rfl⟩)
    | (go_at_call 13; (with_reducible refine (HF2.out _).mono ?_); rintro e w4 ⟨rfl, rfl⟩))
  have HA : Hid (∀ W, NF w W bf (.pointer (some ⟨b1, 0, none⟩)) (.pointer none) b1 c1 d1 n → Calls Try.prog 7 #[] W fun e w' => e = .returned (.bool true) ∧ NF w w' bf (.pointer (some ⟨b1, 0, none⟩)) (.pointer none) b1 c1 d1 n) := fun W hW => (alive19_any W).mono (fun e w' he => ⟨he.1, hW.next he.2⟩)
  have HL : Hid (∀ W, NF w W bf (.pointer (some ⟨b1, 0, none⟩)) (.pointer none) b1 c1 d1 n → Calls Try.prog 12 #[.pointer (some ⟨b1, 0, none⟩)] W fun e w' => ∃ k : Nat, e = .returned (.int .i64 (k : Int)) ∧ NF w w' bf (.pointer (some ⟨b1, 0, none⟩)) (.pointer none) b1 c1 d1 n) := fun W hW => hW.len
  have HP1 : Hid (∀ W, NF w W bf (.pointer (some ⟨b1, 0, none⟩)) (.pointer none) b1 c1 d1 n → Calls Try.prog 8 #[.pointer (some ⟨b1, 0, none⟩), .int .i64 1, .bool false] W fun e w' => ∃ E : Int, 0 ≤ E ∧ E ≤ 7 ∧ 0 ≤ E ∧ e = .returned (.int .i64 E) ∧ NF w w' bf (.pointer (some ⟨b1, 0, none⟩)) (.pointer none) b1 c1 d1 n) := fun W hW => (hW.push 1 false).mono (fun e w' ⟨E, h1, h2, h3, h4⟩ => ⟨E, h1, h2, h1, h3, h4⟩)
  have HP2 : Hid (∀ W, NF w W bf (.pointer (some ⟨b1, 0, none⟩)) (.pointer none) b1 c1 d1 n → Calls Try.prog 8 #[.pointer none, .int .i64 1, .bool true] W fun e w' => ∃ E : Int, 0 ≤ E ∧ E ≤ 7 ∧ 6 ≤ E ∧ e = .returned (.int .i64 E) ∧ NF w w' bf (.pointer (some ⟨b1, 0, none⟩)) (.pointer none) b1 c1 d1 n) := fun W hW => (push_none none 1 true W (made_nil W)).mono (fun e w' he => ⟨6, by omega, by omega, by omega, he.1, by rw [← he.2]; exact hW⟩)
  refine wp_region_noPanic ?_
  refine wp_region_held_drew (S := fun W => W.cell? ⟨bf, 0, none⟩ = some (.pointer (some ⟨b1, 0, none⟩)) ∧ W.cell? ⟨bf, 1, none⟩ = some (.pointer none)) (by kernel_rfl) ?_ (fun hHeld => ?_)
  · exact ⟨p0, p1⟩
  refine wpAnyH_ready (rs := [0]) (by kernel_rfl) (by simp) ?_
  refine AllReadyH.cons (o := { dst := some 35, op := Op.call { callee := Callee.value (Operand.func 7), args := #[], argTypes := #[] }, type := 4, pos := "law.go:40", after := #[], guard := none }) rfl (fun K hK => ?_) ?_
  · go_simp
    (with_reducible refine (HA.out _ (HB3.out.next ((Below.refl _ _).drew))).mono ?_)
    rintro e w5 ⟨rfl, h5⟩
    have HB5 := Lib.hid h5
    clear h5
    (try go_wp2_with fail)
    refine hK.out _ _ ?_ (fun hHeld => ?_)
    · (first | exact HB8.out.nb.cells | exact HB7.out.nb.cells | exact HB6.out.nb.cells | exact HB5.out.nb.cells)
    clear hK K
    (try simp only [Act.put, List.setIfInBounds_toArray, List.set_cons_zero, List.set_cons_succ])
    refine wpAnyH_take (i := 1) (oi := { dst := some 36, op := Op.move (Operand.tmp 35), type := 4, pos := "law.go:40", after := #[{ on := 0, ground := Ground.data }, { on := 0, ground := Ground.chain }], guard := none }) (v := ?_) rfl (by kernel_rfl) (by kernel_rfl) (by kernel_rfl) (fun _ _ _ h => h) (Or.inl ⟨by rfl, ?_⟩) (by assumption) ?_
    rotate_left
    · (intro w9 hS9; (try dsimp only at hS9); go_simp); all_goals (with_reducible rfl)
    (try simp only [Act.put, List.setIfInBounds_toArray, List.set_cons_zero, List.set_cons_succ])
    refine wpAnyH_take (i := 2) (oi := { dst := some 37, op := Op.indexAddr 36 (Operand.tmp 7) (Operand.const (Value.int IntKind.i64 0)), type := 0, pos := "law.go:40", after := #[{ on := 1, ground := Ground.guard }], guard := some (1, true) }) (v := ?_) rfl (by kernel_rfl) (by kernel_rfl) (by kernel_rfl) (fun _ _ _ h => h) (Or.inl ⟨by rfl, ?_⟩) (by assumption) ?_
    rotate_left
    · (intro w9 hS9; (try dsimp only at hS9); go_simp); all_goals (with_reducible rfl)
    (try simp only [Act.put, List.setIfInBounds_toArray, List.set_cons_zero, List.set_cons_succ])
    refine wpAnyH_take (i := 3) (oi := { dst := some 38, op := Op.load 24 (Operand.tmp 37), type := 24, pos := "law.go:40", after := #[{ on := 2, ground := Ground.data }, { on := 1, ground := Ground.guard }], guard := some (1, true) }) (v := ?_) rfl (by kernel_rfl) (by kernel_rfl) (by kernel_rfl) (fun _ _ _ h => h) (Or.inl ⟨by rfl, ?_⟩) (by assumption) ?_
    rotate_left
    · (intro w9 hS9; (try dsimp only at hS9); go_simp); all_goals (with_reducible rfl)
    (try simp only [Act.put, List.setIfInBounds_toArray, List.set_cons_zero, List.set_cons_succ])
    refine wpAnyH_ready (rs := [4]) (by kernel_rfl) (by simp) ?_
    refine AllReadyH.cons (o := { dst := some 39, op := Op.call { callee := Callee.value (Operand.func 12), args := #[Operand.tmp 38], argTypes := #[24] }, type := 3, pos := "law.go:40", after := #[{ on := 3, ground := Ground.data }, { on := 1, ground := Ground.chain }, { on := 1, ground := Ground.guard }], guard := some (1, true) }) rfl (fun K hK => ?_) ?_
    · go_simp
      (with_reducible refine (HL.out _ HB5.out).mono ?_)
      rintro e w6 ⟨k6, rfl, h6⟩
      have HB6 := Lib.hid h6
      have d6 : decide ((0 : Int) ≤ (k6 : Int)) = true := decide_eq_true (by omega)
      clear h6
      (try go_wp2_with fail)
      refine hK.out _ _ ?_ (fun hHeld => ?_)
      · (first | exact HB8.out.nb.cells | exact HB7.out.nb.cells | exact HB6.out.nb.cells | exact HB5.out.nb.cells)
      clear hK K
      (try simp only [Act.put, List.setIfInBounds_toArray, List.set_cons_zero, List.set_cons_succ])
      refine wpAnyH_take (i := 5) (oi := { dst := some 40, op := Op.binOp BinOp.geq 3 (Operand.tmp 39) (Operand.const (Value.int IntKind.i64 0)) 3, type := 4, pos := "law.go:40", after := #[{ on := 4, ground := Ground.data }, { on := 1, ground := Ground.guard }], guard := some (1, true) }) (v := ?_) rfl (by kernel_rfl) (by kernel_rfl) (by kernel_rfl) (fun _ _ _ h => h) (Or.inl ⟨by rfl, ?_⟩) (by assumption) ?_
      rotate_left
      · (intro w9 hS9; (try dsimp only at hS9); go_simp); all_goals (with_reducible rfl)
      (try simp only [Act.put, List.setIfInBounds_toArray, List.set_cons_zero, List.set_cons_succ])
      refine wpAnyH_take (i := 6) (oi := { dst := some 41, op := Op.pick (Operand.tmp 36) (Operand.tmp 40) (Operand.const (Value.bool false)), type := 4, pos := "law.go:40", after := #[{ on := 1, ground := Ground.data }, { on := 5, ground := Ground.data }], guard := none }) (v := ?_) rfl (by kernel_rfl) (by kernel_rfl) (by kernel_rfl) (fun _ _ _ h => h) (Or.inl ⟨by rfl, ?_⟩) (by assumption) ?_
      rotate_left
      · (intro w9 hS9; (try dsimp only at hS9); go_simp); all_goals (with_reducible rfl)
      (try simp only [Act.put, List.setIfInBounds_toArray, List.set_cons_zero, List.set_cons_succ])
      refine wpAnyH_take (i := 7) (oi := { dst := some 42, op := Op.move (Operand.tmp 41), type := 4, pos := "law.go:40", after := #[{ on := 6, ground := Ground.data }, { on := 4, ground := Ground.chain }], guard := none }) (v := ?_) rfl (by kernel_rfl) (by kernel_rfl) (by kernel_rfl) (fun _ _ _ h => h) (Or.inl ⟨by rfl, ?_⟩) (by assumption) ?_
      rotate_left
      · (intro w9 hS9; (try dsimp only at hS9); go_simp); all_goals (with_reducible rfl)
      (try simp only [Act.put, List.setIfInBounds_toArray, List.set_cons_zero, List.set_cons_succ])
      refine wpAnyH_take (i := 8) (oi := { dst := some 43, op := Op.indexAddr 36 (Operand.tmp 7) (Operand.const (Value.int IntKind.i64 0)), type := 0, pos := "law.go:40", after := #[{ on := 7, ground := Ground.guard }], guard := some (7, true) }) (v := ?_) rfl (by kernel_rfl) (by kernel_rfl) (by kernel_rfl) (fun _ _ _ h => h) (Or.inl ⟨by rfl, ?_⟩) (by assumption) ?_
      rotate_left
      · (intro w9 hS9; (try dsimp only at hS9); go_simp); all_goals (with_reducible rfl)
      (try simp only [Act.put, List.setIfInBounds_toArray, List.set_cons_zero, List.set_cons_succ])
      refine wpAnyH_take (i := 9) (oi := { dst := some 44, op := Op.load 24 (Operand.tmp 43), type := 24, pos := "law.go:40", after := #[{ on := 8, ground := Ground.data }, { on := 7, ground := Ground.guard }], guard := some (7, true) }) (v := ?_) rfl (by kernel_rfl) (by kernel_rfl) (by kernel_rfl) (fun _ _ _ h => h) (Or.inl ⟨by rfl, ?_⟩) (by assumption) ?_
      rotate_left
      · (intro w9 hS9; (try dsimp only at hS9); go_simp); all_goals (with_reducible rfl)
      (try simp only [Act.put, List.setIfInBounds_toArray, List.set_cons_zero, List.set_cons_succ])
      refine wpAnyH_take (i := 11) (oi := { dst := some 46, op := Op.indexAddr 36 (Operand.tmp 7) (Operand.const (Value.int IntKind.i64 1)), type := 0, pos := "law.go:40", after := #[{ on := 7, ground := Ground.guard }], guard := some (7, true) }) (v := ?_) rfl (by kernel_rfl) (by kernel_rfl) (by kernel_rfl) (fun _ _ _ h => h) (Or.inl ⟨by rfl, ?_⟩) (by assumption) ?_
      rotate_left
      · (intro w9 hS9; (try dsimp only at hS9); go_simp); all_goals (with_reducible rfl)
      (try simp only [Act.put, List.setIfInBounds_toArray, List.set_cons_zero, List.set_cons_succ])
      refine wpAnyH_take (i := 12) (oi := { dst := some 47, op := Op.load 24 (Operand.tmp 46), type := 24, pos := "law.go:40", after := #[{ on := 11, ground := Ground.data }, { on := 7, ground := Ground.guard }], guard := some (7, true) }) (v := ?_) rfl (by kernel_rfl) (by kernel_rfl) (by kernel_rfl) (fun _ _ _ h => h) (Or.inl ⟨by rfl, ?_⟩) (by assumption) ?_
      rotate_left
      · (intro w9 hS9; (try dsimp only at hS9); go_simp); all_goals (with_reducible rfl)
      (try simp only [Act.put, List.setIfInBounds_toArray, List.set_cons_zero, List.set_cons_succ])
      refine wpAnyH_ready (rs := [10]) (by kernel_rfl) (by simp) ?_
      refine AllReadyH.cons (o := { dst := some 45, op := Op.call { callee := Callee.value (Operand.func 8), args := #[Operand.tmp 44, Operand.const (Value.int IntKind.i64 1), Operand.const (Value.bool false)], argTypes := #[24, 3, 4] }, type := 27, pos := "law.go:40", after := #[{ on := 9, ground := Ground.data }, { on := 7, ground := Ground.chain }, { on := 7, ground := Ground.guard }], guard := some (7, true) }) rfl (fun K hK => ?_) ?_
      · go_simp
        (with_reducible refine (HP1.out _ HB6.out).mono ?_)
        rintro e w7 ⟨E1, e1a, e1b, e1c, rfl, h7⟩
        have HB7 := Lib.hid h7
        clear h7
        (try go_wp2_with fail)
        refine hK.out _ _ ?_ (fun hHeld => ?_)
        · (first | exact HB8.out.nb.cells | exact HB7.out.nb.cells | exact HB6.out.nb.cells | exact HB5.out.nb.cells)
        clear hK K
        (try simp only [Act.put, List.setIfInBounds_toArray, List.set_cons_zero, List.set_cons_succ])
        refine wpAnyH_ready (rs := [13]) (by kernel_rfl) (by simp) ?_
        refine AllReadyH.cons (o := { dst := some 48, op := Op.call { callee := Callee.value (Operand.func 8), args := #[Operand.tmp 47, Operand.const (Value.int IntKind.i64 1), Operand.const (Value.bool true)], argTypes := #[24, 3, 4] }, type := 27, pos := "law.go:40", after := #[{ on := 12, ground := Ground.data }, { on := 10, ground := Ground.chain }, { on := 7, ground := Ground.guard }], guard := some (7, true) }) rfl (fun K hK => ?_) ?_
        · go_simp
          (with_reducible refine (HP2.out _ HB7.out).mono ?_)
          rintro e w8 ⟨E2, e2a, e2b, e2c, rfl, h8⟩
          have HB8 := Lib.hid h8
          have w64 : IntKind.i64.wrap (E1 + E2) = E1 + E2 := IntWalk.i64_in _ (by omega)
          have w64' : wrap64 (E1 + E2) = E1 + E2 := IntWalk.wrap64_in _ (by omega)
          have d8 : decide ((6 : Int) ≤ E1 + E2) = true := decide_eq_true (by omega)
          clear h8 e1a e1b e1c e2a e2b e2c
          (try go_wp2_with fail)
          refine hK.out _ _ ?_ (fun hHeld => ?_)
          · (first | exact HB8.out.nb.cells | exact HB7.out.nb.cells | exact HB6.out.nb.cells | exact HB5.out.nb.cells)
          clear hK K
          (try simp only [Act.put, List.setIfInBounds_toArray, List.set_cons_zero, List.set_cons_succ])
          refine wpAnyH_take (i := 14) (oi := { dst := some 49, op := Op.binOp BinOp.add 27 (Operand.tmp 45) (Operand.tmp 48) 27, type := 27, pos := "law.go:40", after := #[{ on := 10, ground := Ground.data }, { on := 13, ground := Ground.data }, { on := 7, ground := Ground.guard }], guard := some (7, true) }) (v := ?_) rfl (by kernel_rfl) (by kernel_rfl) (by kernel_rfl) (fun _ _ _ h => h) (Or.inl ⟨by rfl, ?_⟩) (by assumption) ?_
          rotate_left
          · (intro w9 hS9; (try dsimp only at hS9); go_simp); all_goals (with_reducible rfl)
          (try simp only [Act.put, List.setIfInBounds_toArray, List.set_cons_zero, List.set_cons_succ])
          refine wpAnyH_take (i := 15) (oi := { dst := some 50, op := Op.binOp BinOp.geq 27 (Operand.tmp 49) (Operand.const (Value.int IntKind.i64 6)) 27, type := 4, pos := "law.go:40", after := #[{ on := 14, ground := Ground.data }, { on := 7, ground := Ground.guard }], guard := some (7, true) }) (v := ?_) rfl (by kernel_rfl) (by kernel_rfl) (by kernel_rfl) (fun _ _ _ h => h) (Or.inl ⟨by rfl, ?_⟩) (by assumption) ?_
          rotate_left
          · (intro w9 hS9; (try dsimp only at hS9); go_simp); all_goals (with_reducible rfl)
          (try simp only [Act.put, List.setIfInBounds_toArray, List.set_cons_zero, List.set_cons_succ])
          refine wpAnyH_take (i := 16) (oi := { dst := some 51, op := Op.pick (Operand.tmp 42) (Operand.tmp 50) (Operand.const (Value.bool false)), type := 4, pos := "law.go:40", after := #[{ on := 7, ground := Ground.data }, { on := 15, ground := Ground.data }], guard := none }) (v := ?_) rfl (by kernel_rfl) (by kernel_rfl) (by kernel_rfl) (fun _ _ _ h => h) (Or.inl ⟨by rfl, ?_⟩) (by assumption) ?_
          rotate_left
          · (intro w9 hS9; (try dsimp only at hS9); go_simp); all_goals (with_reducible rfl)
          (try simp only [Act.put, List.setIfInBounds_toArray, List.set_cons_zero, List.set_cons_succ])
          refine wpAnyH_take (i := 17) (oi := { dst := some 6, op := Op.assign (Operand.tmp 51), type := 4, pos := "law.go:40", after := #[{ on := 16, ground := Ground.data }, { on := 13, ground := Ground.chain }, { on := 0, ground := Ground.phase }, { on := 1, ground := Ground.phase }, { on := 2, ground := Ground.phase }, { on := 3, ground := Ground.phase }, { on := 4, ground := Ground.phase }, { on := 5, ground := Ground.phase }, { on := 6, ground := Ground.phase }, { on := 7, ground := Ground.phase }, { on := 8, ground := Ground.phase }, { on := 9, ground := Ground.phase }, { on := 10, ground := Ground.phase }, { on := 11, ground := Ground.phase }, { on := 12, ground := Ground.phase }, { on := 13, ground := Ground.phase }, { on := 14, ground := Ground.phase }, { on := 15, ground := Ground.phase }, { on := 16, ground := Ground.phase }], guard := none }) (v := ?_) rfl (by kernel_rfl) (by kernel_rfl) (by kernel_rfl) (fun _ _ _ h => h) (Or.inl ⟨by rfl, ?_⟩) (by assumption) ?_
          rotate_left
          · (intro w9 hS9; (try dsimp only at hS9); go_simp); all_goals (with_reducible rfl)
          (try simp only [Act.put, List.setIfInBounds_toArray, List.set_cons_zero, List.set_cons_succ])
          refine wpAnyH_done (by kernel_rfl) (NoPanic.normal ?_) _
          go_wp2_with fail
          go_ret
          exact ⟨rfl, HB8.out.nb.below⟩
        exact AllReadyH.nil
      exact AllReadyH.nil
    exact AllReadyH.nil
  exact AllReadyH.nil

/-- The loop of FeedTells. -/
structure Lp (w W : World) (bf : Nat) (L : Lay) (G1 G2 : Con) : Prop where
  two : Two W L G1 G2 G1 G2
  nb : NB w W bf (.pointer (some ⟨L.b1, 0, none⟩)) (.pointer (some ⟨L.b2, 0, none⟩))
  lo : ∀ i, i ∈ L.l → w.heap.size ≤ i
  ne : bf ∉ L.l
theorem Lp.next {w W V : World} {bf : Nat} {L : Lay} {G1 G2 : Con} (h : Lp w W bf L G1 G2) (hb : Below W.heap.size W V) : Lp w V bf L G1 G2 := ⟨h.two.next hb, h.nb.next hb, h.lo, h.ne⟩
theorem Lp.turn {w W V : World} {bf : Nat} {L : Lay} {G1 G2 H1 H2 : Con} (h : Lp w W bf L G1 G2) (ht : Two V L H1 H2 H1 H2) (k : Upd L.l W V) : Lp w V bf L H1 H2 :=
  ⟨ht, ⟨k.below h.nb.below h.nb.below.size h.lo, (k.block _ (lt_of_heap h.nb.hp) h.ne).trans h.nb.hp, h.nb.lo⟩, h.lo, h.ne⟩
theorem Lp.start {w w1 w2 : World} {b1 c1 d1 n b2 c2 d2 m : Nat} (hf1 : FeedAt w1 b1 c1 d1 n [] [] false) (k1 : Below w.heap.size w w1) (l1 : w.heap.size ≤ b1 ∧ w.heap.size ≤ c1 ∧ w.heap.size ≤ d1)
    (hf2 : FeedAt w2 b2 c2 d2 m [] [] false) (k2 : Below w1.heap.size w1 w2) (l2 : w1.heap.size ≤ b2 ∧ w1.heap.size ≤ c2 ∧ w1.heap.size ≤ d2) :
    Lp w ((w2.alloc (.cells #[.pointer (some ⟨b1, 0, none⟩), .pointer (some ⟨b2, 0, none⟩)] 36)).alloc (.cells #[.slice none 0 0, .slice none 0 0, .int .i64 (n : Int), .bool false, .slice none 0 0, .slice none 0 0, .int .i64 (m : Int), .bool false] 40)) w2.heap.size
      ⟨b1, c1, d1, n, b2, c2, d2, m, w2.heap.size + 1⟩ ⟨[], [], false⟩ ⟨[], [], false⟩ := by
  have s1 := hf1.lt
  have s2 := hf2.lt
  have z1 := k1.size
  have z2 := k2.size
  obtain ⟨W, hW⟩ : ∃ W, (w2.alloc (.cells #[.pointer (some ⟨b1, 0, none⟩), .pointer (some ⟨b2, 0, none⟩)] 36)).alloc (.cells #[.slice none 0 0, .slice none 0 0, .int .i64 (n : Int), .bool false, .slice none 0 0, .slice none 0 0, .int .i64 (m : Int), .bool false] 40) = W := ⟨_, rfl⟩
  have hb : Below w2.heap.size w2 W := by rw [← hW]; exact ((Below.refl _ _).alloc (Nat.le_refl _) _).alloc (by rw [World.size_alloc]; omega) _
  have h1 : W.heap[w2.heap.size]? = some (.cells #[.pointer (some ⟨b1, 0, none⟩), .pointer (some ⟨b2, 0, none⟩)] 36 (0, 0)) := by rw [← hW]; exact heap_alloc2_old w2 _ _
  have h2 : W.heap[w2.heap.size + 1]? = some (.cells #[.slice none 0 0, .slice none 0 0, .int .i64 (n : Int), .bool false, .slice none 0 0, .slice none 0 0, .int .i64 (m : Int), .bool false] 40 (0, 0)) := by rw [← hW]; exact heap_alloc2_new w2 _ _
  rw [hW]
  have ap : Apart b1 c1 d1 b2 c2 d2 := ⟨by omega⟩
  refine ⟨⟨(hf1.upd (Upd.of_below (l := []) k2) (by simp) (by simp) (by simp)).upd (Upd.of_below (l := []) hb) (by simp) (by simp) (by simp), hf2.upd (Upd.of_below (l := []) hb) (by simp) (by simp) (by simp), ap, ?_,
      none, 0, none, 0, none, 0, none, 0, h2, RowAt.nil _ _, RowAt.nil _ _, RowAt.nil _ _, RowAt.nil _ _⟩,
    ⟨(k1.trans (k2.mono z1)).trans (hb.mono (by omega)), h1, by omega⟩, ?_, ?_⟩
  · simp [Lay.six]; omega
  · intro i hi; simp [Lay.l] at hi; omega
  · simp [Lay.l]; omega

set_option maxRecDepth 100000 in
set_option maxHeartbeats 4000000 in
theorem tells_walk (n m : Nat) (hn1 : 1 ≤ n) (hn2 : n ≤ 256) (hm1 : 1 ≤ m) (hm2 : m ≤ 256) (xs : List (Int × Int × Int)) (v : Value) (w : World) (hx : StepsAt w v xs) :
    Calls Try.prog 4 #[.int .i64 (n : Int), .int .i64 (m : Int), v] w fun e w' => e = .returned (.bool true) ∧ Below w.heap.size w w' := by
  obtain ⟨a1, cap1, rfl, hc1⟩ := hx.form
  have HC1 := Lib.hid hc1
  have HN1 := Lib.hid (new_any n hn1 hn2 w)
  have HN2 : Hid (∀ W, Calls Try.prog 6 #[.int .i64 (m : Int)] W fun e w' => ∃ v, e = .returned v ∧ NewFeed W w' v m) := fun W => new_any m hm1 hm2 W
  have HF1 : Hid (∀ b W, Calls Try.prog 13 #[.pointer (some ⟨b, 0, none⟩), .int .i64 (n : Int)] W fun e w' => e = .returned (.bool true) ∧ W = w') := fun b W => fits_some b n hn1 hn2 W
  have HF2 : Hid (∀ b W, Calls Try.prog 13 #[.pointer (some ⟨b, 0, none⟩), .int .i64 (m : Int)] W fun e w' => e = .returned (.bool true) ∧ W = w') := fun b W => fits_some b m hm1 hm2 W
  clear hx hc1 hn1 hn2 hm1 hm2
  go_enter Try.func4, Try.ntmps4
  go_wp2_with (first
    | (go_at_call 6; (with_reducible refine HN1.out.mono ?_); rintro e w1 ⟨v1, rfl, hN⟩
       obtain ⟨b1, c1, d1, rfl, hf1, l1⟩ := hN.ex
       have hk1 := hN.below
       clear hN)
    | (go_at_call 6; (with_reducible refine (HN2.out w1).mono ?_); rintro e w2 ⟨v2, rfl, hN⟩
       obtain ⟨b2, c2, d2, rfl, hf2, l2⟩ := hN.ex
       have HL0 := Lib.hid (Lp.start hf1 hk1 l1 hf2 hN.below l2)
       clear hN hk1 hf1 hf2 l1 l2)
    | (go_at_call 13; (with_reducible refine (HF1.out _ _).mono ?_); rintro e w4 ⟨rfl, rfl⟩)
    | (go_at_call 13; (with_reducible refine (HF2.out _ _).mono ?_); rintro e w4 ⟨rfl, rfl⟩)
    | (obtain ⟨w3, hw⟩ : ∃ w3, (w2.alloc (.cells #[.pointer (some ⟨b1, 0, none⟩), .pointer (some ⟨b2, 0, none⟩)] 36)).alloc (.cells #[.slice none 0 0, .slice none 0 0, .int .i64 (n : Int), .bool false, .slice none 0 0, .slice none 0 0, .int .i64 (m : Int), .bool false] 40) = w3 := ⟨_, rfl⟩
       rewrite [hw]
       rewrite [hw] at HL0
       clear hw))
  go_loopw [9] (fun i wr => ∃ (k : Nat) (G1 G2 : Con), i = .int .i64 k ∧ k ≤ 3000 ∧ Lp w wr w2.heap.size ⟨b1, c1, d1, n, b2, c2, d2, m, w2.heap.size + 1⟩ G1 G2) (fun i _ => (3000 - intOf i).toNat)
  case atStart => exact ⟨0, _, _, rfl, by omega, HL0.out⟩
  case round =>
    obtain ⟨k, G1, G2, rfl, hk, hO⟩ := hrel
    clear HL0 HN1 HN2 HF1 HF2
    have HO := Lib.hid hO
    by_cases hall : k < xs.length ∧ k < 3000
    · obtain ⟨q1, q2⟩ := hall
      obtain ⟨e1, off1, rfl, hcell1⟩ := HC1.out (by omega)
      have HCx : Hid (∀ W, Below w.heap.size w W → W.cell? ⟨e1, off1 + k * 3, none⟩ = some (.int .i64 xs[k].1) ∧ W.cell? ⟨e1, off1 + k * 3 + 1, none⟩ = some (.int .i64 xs[k].2.1) ∧ W.cell? ⟨e1, off1 + k * 3 + 2, none⟩ = some (.int .i64 xs[k].2.2)) := fun W hW => by
        obtain ⟨y0, y1, y2⟩ := hcell1 k q1
        exact ⟨by rw [hW.cell (World.block_lt_of_cell? w _ y0)]; exact y0, by rw [hW.cell (World.block_lt_of_cell? w _ y1)]; exact y1, by rw [hW.cell (World.block_lt_of_cell? w _ y2)]; exact y2⟩
      have d1' : decide (k < xs.length) = true := decide_eq_true q1
      have d2' : decide ((k : Int) < 3000) = true := by simp; omega
      have k0 : (0 : Int) ≤ k := by omega
      have k1 : (k : Int) < xs.length := by omega
      have e9 : IntKind.i64.wrap ((k : Int) + 1) = ((k + 1 : Nat) : Int) := by rw [IntWalk.i64_in _ (by omega)]; omega
      have HK : Hid (k < 3000) := q2
      generalize xs[k].1 = kd at *
      generalize xs[k].2.1 = ax at *
      generalize xs[k].2.2 = x at *
      obtain ⟨s0, s1, s2⟩ := HCx.out _ hO.nb.below
      obtain ⟨p0, p1⟩ := hO.nb.cells
      have HS : Hid (∀ W, Two W ⟨b1, c1, d1, n, b2, c2, d2, m, w2.heap.size + 1⟩ G1 G2 G1 G2 → Calls Try.prog 14 #[.agg #[.pointer (some ⟨b1, 0, none⟩), .pointer (some ⟨b2, 0, none⟩)], .pointer (some ⟨w2.heap.size + 1, 0, none⟩), .agg #[.int .i64 kd, .int .i64 ax, .int .i64 x]] W
          fun e w' => e = .returned (.bool true) ∧ ∃ H1 H2, Two w' ⟨b1, c1, d1, n, b2, c2, d2, m, w2.heap.size + 1⟩ H1 H2 H1 H2 ∧ Upd (Lay.l ⟨b1, c1, d1, n, b2, c2, d2, m, w2.heap.size + 1⟩) W w') := fun W hW => by
        by_cases ha : Int.tmod ax 2 = 0
        · exact step_at0 ⟨b1, c1, d1, n, b2, c2, d2, m, w2.heap.size + 1⟩ kd ax x G1 G2 W hW ha
        · exact step_at1 ⟨b1, c1, d1, n, b2, c2, d2, m, w2.heap.size + 1⟩ kd ax x G1 G2 W hW (by simpa using ha)
      clear hcell1 hk q1 q2 hO
      go_wp2_with fail
      refine wp_region_noPanic ?_
      refine wp_region_held_drew (S := fun W => W.cell? ⟨w2.heap.size, 0, none⟩ = some (.pointer (some ⟨b1, 0, none⟩)) ∧ W.cell? ⟨w2.heap.size, 1, none⟩ = some (.pointer (some ⟨b2, 0, none⟩)) ∧ W.cell? ⟨e1, off1 + k * 3, none⟩ = some (.int .i64 kd) ∧ W.cell? ⟨e1, off1 + k * 3 + 1, none⟩ = some (.int .i64 ax) ∧ W.cell? ⟨e1, off1 + k * 3 + 2, none⟩ = some (.int .i64 x)) (by kernel_rfl) ?_ (fun hHeld => ?_)
      · exact ⟨p0, p1, s0, s1, s2⟩
      refine wpAnyH_take (i := 0) (oi := { dst := some 67, op := Op.load 36 (Operand.tmp 7), type := 36, pos := "law.go:44", after := #[], guard := none }) (v := ?_) rfl (by kernel_rfl) (by kernel_rfl) (by kernel_rfl) (fun _ _ _ h => h) (Or.inl ⟨by rfl, ?_⟩) (by assumption) ?_
      rotate_left
      · (intro w9 hS9; (try dsimp only at hS9); go_simp); all_goals (with_reducible rfl)
      (try simp only [Act.put, List.setIfInBounds_toArray, List.set_cons_zero, List.set_cons_succ])
      refine wpAnyH_take (i := 1) (oi := { dst := some 68, op := Op.move (Operand.tmp 2), type := 35, pos := "law.go:44", after := #[], guard := none }) (v := ?_) rfl (by kernel_rfl) (by kernel_rfl) (by kernel_rfl) (fun _ _ _ h => h) (Or.inl ⟨by rfl, ?_⟩) (by assumption) ?_
      rotate_left
      · (intro w9 hS9; (try dsimp only at hS9); go_simp); all_goals (with_reducible rfl)
      (try simp only [Act.put, List.setIfInBounds_toArray, List.set_cons_zero, List.set_cons_succ])
      refine wpAnyH_take (i := 2) (oi := { dst := some 69, op := Op.move (Operand.tmp 9), type := 3, pos := "law.go:44", after := #[], guard := none }) (v := ?_) rfl (by kernel_rfl) (by kernel_rfl) (by kernel_rfl) (fun _ _ _ h => h) (Or.inl ⟨by rfl, ?_⟩) (by assumption) ?_
      rotate_left
      · (intro w9 hS9; (try dsimp only at hS9); go_simp); all_goals (with_reducible rfl)
      (try simp only [Act.put, List.setIfInBounds_toArray, List.set_cons_zero, List.set_cons_succ])
      refine wpAnyH_take (i := 3) (oi := { dst := some 70, op := Op.indexAddr 35 (Operand.tmp 68) (Operand.tmp 69), type := 0, pos := "law.go:44", after := #[{ on := 1, ground := Ground.data }, { on := 2, ground := Ground.data }], guard := none }) (v := ?_) rfl (by kernel_rfl) (by kernel_rfl) (by kernel_rfl) (fun _ _ _ h => h) (Or.inl ⟨by rfl, ?_⟩) (by assumption) ?_
      rotate_left
      · (intro w9 hS9; (try dsimp only at hS9); go_simp); all_goals (with_reducible rfl)
      (try simp only [Act.put, List.setIfInBounds_toArray, List.set_cons_zero, List.set_cons_succ])
      refine wpAnyH_take (i := 4) (oi := { dst := some 71, op := Op.load 44 (Operand.tmp 70), type := 44, pos := "law.go:44", after := #[{ on := 3, ground := Ground.data }], guard := none }) (v := ?_) rfl (by kernel_rfl) (by kernel_rfl) (by kernel_rfl) (fun _ _ _ h => h) (Or.inl ⟨by rfl, ?_⟩) (by assumption) ?_
      rotate_left
      · (intro w9 hS9; (try dsimp only at hS9); go_simp); all_goals (with_reducible rfl)
      (try simp only [Act.put, List.setIfInBounds_toArray, List.set_cons_zero, List.set_cons_succ])
      refine wpAnyH_ready (rs := [5]) (by kernel_rfl) (by simp) ?_
      refine AllReadyH.cons (o := { dst := some 72, op := Op.call { callee := Callee.value (Operand.func 14), args := #[Operand.tmp 67, Operand.tmp 8, Operand.tmp 71], argTypes := #[36, 42, 44] }, type := 4, pos := "law.go:44", after := #[{ on := 0, ground := Ground.data }, { on := 4, ground := Ground.data }], guard := none }) rfl (fun K hK => ?_) ?_
      · go_simp
        (with_reducible refine (HS.out _ (HO.out.two.next ((Below.refl _ _).drew))).mono ?_)
        rintro e w4 ⟨rfl, H1, H2, ht, hu⟩
        have HO4 := Lib.hid ((HO.out.next ((Below.refl _ _).drew)).turn ht hu)
        obtain ⟨s0', s1', s2'⟩ := HCx.out _ HO4.out.nb.below
        obtain ⟨p0', p1'⟩ := HO4.out.nb.cells
        clear ht hu
        (try go_wp2_with fail)
        refine hK.out _ _ ?_ (fun hHeld => ?_)
        · (first | exact ⟨p0', p1', s0', s1', s2'⟩ | exact ⟨p0, p1, s0, s1, s2⟩)
        clear hK K
        (try simp only [Act.put, List.setIfInBounds_toArray, List.set_cons_zero, List.set_cons_succ])
        refine wpAnyH_take (i := 6) (oi := { dst := some 73, op := Op.unOp UnOp.not 4 (Operand.tmp 72), type := 4, pos := "law.go:44", after := #[{ on := 5, ground := Ground.data }], guard := none }) (v := ?_) rfl (by kernel_rfl) (by kernel_rfl) (by kernel_rfl) (fun _ _ _ h => h) (Or.inl ⟨by rfl, ?_⟩) (by assumption) ?_
        rotate_left
        · (intro w9 hS9; (try dsimp only at hS9); go_simp); all_goals (with_reducible rfl)
        (try simp only [Act.put, List.setIfInBounds_toArray, List.set_cons_zero, List.set_cons_succ])
        refine wpAnyH_done (by kernel_rfl) (NoPanic.normal ?_) _
        go_wp2_with fail
        go_roundw
        case rel => exact ⟨k + 1, H1, H2, rfl, HK.out, HO4.out⟩
        case measure => have := HK.out; simp [intOf]; omega
      exact AllReadyH.nil
    · have A1 : Hid (Calls Try.prog 7 #[] wr fun e w' => e = .returned (.bool true) ∧ Below w.heap.size w w') := (alive19_any wr).mono (fun e w' h => ⟨h.1, hO.nb.below.trans (h.2.mono hO.nb.below.size)⟩)
      rcases (show ¬ k < xs.length ∨ (k < xs.length ∧ ¬ k < 3000) by omega) with q1 | ⟨q1, q2⟩
      · have d1' : decide (k < xs.length) = false := decide_eq_false q1
        clear hk hall hO HO
        go_wp2_with (go_at_call 7; (with_reducible refine A1.out.mono ?_); rintro e w8 ⟨rfl, hb⟩; have HB8 := Lib.hid hb; clear hb)
        go_ret
        exact ⟨rfl, HB8.out⟩
      · have d1' : decide (k < xs.length) = true := decide_eq_true q1
        have d2' : decide ((k : Int) < 3000) = false := by simp; omega
        clear hk hall hO HO
        go_wp2_with (go_at_call 7; (with_reducible refine A1.out.mono ?_); rintro e w8 ⟨rfl, hb⟩; have HB8 := Lib.hid hb; clear hb)
        go_ret
        exact ⟨rfl, HB8.out⟩

end Go.Proofs.Ytlomjckmclefeaa

