import Derived.Test.YtcaeaepnobbjlaaYb
namespace Go.Proofs.Ytcaeaepnobbjlaa
set_option linter.unusedVariables false
set_option linter.unusedSimpArgs false
open Go.RowKit

set_option maxRecDepth 100000 in
set_option maxHeartbeats 16000000 in
theorem divides_zero (xh xl qh ql r : Nat) (g1 : ((qh : Int) == 0) = true) (g2 : ((ql : Int) == 0) = true) (g3 : ((r : Int) == 0) = true) (c1 : ∀ w, Calls Try.prog 65 #[wv xh xl, .int .u64 0] w fun e w' => e = .returned (.tuple #[wv qh ql, .int .u64 r]) ∧ Below w.heap.size w w') (w : World) :
    Calls Try.prog 13 #[wv xh xl, .int .u64 0] w fun e w' => e = .returned (.bool true) ∧ Below w.heap.size w w' := by
  have C1 := Lib.hid c1
  clear c1
  go_enter Try.func13, Try.ntmps13
  go_wp2_with fail
  have hX := (Boxes.nil w).new 24 xh xl
  (try simp only [size_alloc] at hX)
  generalize w.alloc (.cells #[.int .u64 xh, .int .u64 xl] 24) = w0 at *
  have HX0 : Hid (Boxes w w0 [(w.heap.size, 24, xh, xl)]) := hX
  clear hX
  obtain ⟨⟨r0, s0⟩, -, -⟩ := HX0.out.at (w.heap.size) 24 xh xl (by simp)
  go_wp2_with (first
    | (go_at_call 65; with_reducible refine (C1.out _).mono ?_; rintro e v1 ⟨rfl, hb1⟩
       have HY1 := Lib.hid (HX0.out.next hb1)
       clear hb1 r0 s0 HX0)
    | (obtain ⟨w1, hw⟩ : ∃ w1, v1.alloc (.cells #[.int .u64 qh, .int .u64 ql] 24) = w1 := ⟨_, rfl⟩
       rewrite [hw]
       have HX1 : Hid (Boxes w w1 [(v1.heap.size, 24, qh, ql), (w.heap.size, 24, xh, xl)]) := by rewrite [← hw]; exact HY1.out.new 24 qh ql
       clear hw HY1
       generalize v1.heap.size = c1 at *
       obtain ⟨⟨r0, s0⟩, -, -⟩ := HX1.out.at (c1) 24 qh ql (by simp)
       obtain ⟨⟨r1, s1⟩, -, -⟩ := HX1.out.at (w.heap.size) 24 xh xl (by simp))
    | (go_at_call 54; (with_reducible refine (alive12_any _).mono ?_); rintro e v2 ⟨rfl, hb1⟩
       have HY2 := Lib.hid (HX1.out.next hb1)
       clear hb1 r0 s0 r1 s1
       obtain ⟨⟨r0, s0⟩, -, -⟩ := HY2.out.at c1 24 qh ql (by simp)))
  go_ret
  exact ⟨rfl, HY2.out.below⟩

set_option maxRecDepth 100000 in
set_option maxHeartbeats 16000000 in
theorem divides_walk (xh xl d qh ql r al bh bl sh sl : Nat) (hd : 1 ≤ d) (hr : r < d)
    (c1 : ∀ w, Calls Try.prog 65 #[wv xh xl, .int .u64 d] w fun e w' => e = .returned (.tuple #[wv qh ql, .int .u64 r]) ∧ Below w.heap.size w w')
    (c2 : ∀ w, Calls Try.prog 29 #[.int .u64 qh, .int .u64 d] w fun e w' => e = .returned (.agg #[.int .u64 0, .int .u64 al]) ∧ Below w.heap.size w w')
    (c3 : ∀ w, Calls Try.prog 29 #[.int .u64 ql, .int .u64 d] w fun e w' => e = .returned (wv bh bl) ∧ Below w.heap.size w w')
    (c4 : ∀ w, Calls Try.prog 20 #[.agg #[.int .u64 al, .int .u64 0], wv bh bl] w fun e w' => e = .returned (.tuple #[wv sh sl, .bool false]) ∧ Below w.heap.size w w')
    (c5 : ∀ w, Calls Try.prog 20 #[wv sh sl, .agg #[.int .u64 0, .int .u64 r]] w fun e w' => e = .returned (.tuple #[wv xh xl, .bool false]) ∧ Below w.heap.size w w')
    (c6 : ∀ w, Calls Try.prog 21 #[wv xh xl] w fun e w' => e = .returned (wv xh xl) ∧ Below w.heap.size w w') (w : World) :
    Calls Try.prog 13 #[wv xh xl, .int .u64 d] w fun e w' => e = .returned (.bool true) ∧ Below w.heap.size w w' := by
  have d1 : ((d : Int) == 0) = false := by simp; omega
  have d2 : decide (d ≤ r) = false := decide_eq_false (by omega)
  have C1 := Lib.hid c1
  have C2 := Lib.hid c2
  have C3 := Lib.hid c3
  have C4 := Lib.hid c4
  have C5 := Lib.hid c5
  have C6 := Lib.hid c6
  clear c1 c2 c3 c4 c5 c6 hd hr
  go_enter Try.func13, Try.ntmps13
  go_wp2_with fail
  have hX := (Boxes.nil w).new 24 xh xl
  (try simp only [size_alloc] at hX)
  generalize w.alloc (.cells #[.int .u64 xh, .int .u64 xl] 24) = w0 at *
  have HX0 : Hid (Boxes w w0 [(w.heap.size, 24, xh, xl)]) := hX
  clear hX
  obtain ⟨⟨r0, s0⟩, -, -⟩ := HX0.out.at (w.heap.size) 24 xh xl (by simp)
  go_wp2_with (first
    | (go_at_call 65; with_reducible refine (C1.out _).mono ?_; rintro e v1 ⟨rfl, hb1⟩
       have HY1 := Lib.hid (HX0.out.next hb1)
       clear hb1 r0 s0 HX0)
    | (obtain ⟨w1, hw⟩ : ∃ w1, v1.alloc (.cells #[.int .u64 qh, .int .u64 ql] 24) = w1 := ⟨_, rfl⟩
       rewrite [hw]
       have HX1 : Hid (Boxes w w1 [(v1.heap.size, 24, qh, ql), (w.heap.size, 24, xh, xl)]) := by rewrite [← hw]; exact HY1.out.new 24 qh ql
       clear hw HY1
       generalize v1.heap.size = c1 at *
       obtain ⟨⟨r0, s0⟩, -, -⟩ := HX1.out.at (c1) 24 qh ql (by simp)
       obtain ⟨⟨r1, s1⟩, -, -⟩ := HX1.out.at (w.heap.size) 24 xh xl (by simp)))
  clear r0 s0 r1 s1
  go_cut [7, 8] from 31 to 38 (fun s7 s8 wx => ∃ b7 b8 : Nat, s7 = .pointer (some ⟨b7, 0, none⟩) ∧ s8 = .pointer (some ⟨b8, 0, none⟩) ∧ Boxes w wx [(b8, 27, bh, bl), (b7, 27, 0, al), (c1, 24, qh, ql), (w.heap.size, 24, xh, xl)])
  case first =>
    have HNk : ∀ W, Boxes w W [(c1, 24, qh, ql), (w.heap.size, 24, xh, xl)] → w1.heap.size ≤ W.heap.size → (Boxes w W [(c1, 24, qh, ql), (w.heap.size, 24, xh, xl)] ∧ w1.heap.size ≤ W.heap.size ∧ (W.cell? ⟨c1, 0, none⟩ = some (.int .u64 qh) ∧ W.cell? ⟨c1, 1, none⟩ = some (.int .u64 ql)) ∧ (W.cell? ⟨w.heap.size, 0, none⟩ = some (.int .u64 xh) ∧ W.cell? ⟨w.heap.size, 1, none⟩ = some (.int .u64 xl))) := fun W h hs => ⟨h, hs, two_cells (h.all (c1, 24, qh, ql) (by simp)), two_cells (h.all (w.heap.size, 24, xh, xl) (by simp))⟩
    have HN : Hid (∀ W V, (Boxes w W [(c1, 24, qh, ql), (w.heap.size, 24, xh, xl)] ∧ w1.heap.size ≤ W.heap.size ∧ (W.cell? ⟨c1, 0, none⟩ = some (.int .u64 qh) ∧ W.cell? ⟨c1, 1, none⟩ = some (.int .u64 ql)) ∧ (W.cell? ⟨w.heap.size, 0, none⟩ = some (.int .u64 xh) ∧ W.cell? ⟨w.heap.size, 1, none⟩ = some (.int .u64 xl))) → Below W.heap.size W V → (Boxes w V [(c1, 24, qh, ql), (w.heap.size, 24, xh, xl)] ∧ w1.heap.size ≤ V.heap.size ∧ (V.cell? ⟨c1, 0, none⟩ = some (.int .u64 qh) ∧ V.cell? ⟨c1, 1, none⟩ = some (.int .u64 ql)) ∧ (V.cell? ⟨w.heap.size, 0, none⟩ = some (.int .u64 xh) ∧ V.cell? ⟨w.heap.size, 1, none⟩ = some (.int .u64 xl)))) := fun W V h hb => HNk _ (h.1.next hb) (Nat.le_trans h.2.1 hb.size)
    have HS0 : Hid (Boxes w w1.drew [(c1, 24, qh, ql), (w.heap.size, 24, xh, xl)] ∧ w1.heap.size ≤ w1.drew.heap.size ∧ (w1.drew.cell? ⟨c1, 0, none⟩ = some (.int .u64 qh) ∧ w1.drew.cell? ⟨c1, 1, none⟩ = some (.int .u64 ql)) ∧ (w1.drew.cell? ⟨w.heap.size, 0, none⟩ = some (.int .u64 xh) ∧ w1.drew.cell? ⟨w.heap.size, 1, none⟩ = some (.int .u64 xl))) := HNk _ (HX1.out.next ⟨rfl, rfl, rfl, Nat.le_refl _, fun _ _ => rfl⟩) (Nat.le_refl _)
    have HR : Hid (∀ W g cs, (Boxes w W [(c1, 24, qh, ql), (w.heap.size, 24, xh, xl)] ∧ w1.heap.size ≤ W.heap.size ∧ (W.cell? ⟨c1, 0, none⟩ = some (.int .u64 qh) ∧ W.cell? ⟨c1, 1, none⟩ = some (.int .u64 ql)) ∧ (W.cell? ⟨w.heap.size, 0, none⟩ = some (.int .u64 xh) ∧ W.cell? ⟨w.heap.size, 1, none⟩ = some (.int .u64 xl))) → w1.heap.size ≤ g → (Boxes w (W.setRow g cs) [(c1, 24, qh, ql), (w.heap.size, 24, xh, xl)] ∧ w1.heap.size ≤ (W.setRow g cs).heap.size ∧ ((W.setRow g cs).cell? ⟨c1, 0, none⟩ = some (.int .u64 qh) ∧ (W.setRow g cs).cell? ⟨c1, 1, none⟩ = some (.int .u64 ql)) ∧ ((W.setRow g cs).cell? ⟨w.heap.size, 0, none⟩ = some (.int .u64 xh) ∧ (W.setRow g cs).cell? ⟨w.heap.size, 1, none⟩ = some (.int .u64 xl)))) := fun W g cs h hg => HNk _ (h.1.row g cs (Nat.le_trans HX1.out.below.size hg) (fun x hx e => by have := HX1.out.lt x hx; omega)) (by rw [setRow_size]; exact h.2.1)
    clear HNk
    refine wp_region_noPanic ?_
    refine wp_region_held_drew (S := fun W => Boxes w W [(c1, 24, qh, ql), (w.heap.size, 24, xh, xl)] ∧ w1.heap.size ≤ W.heap.size ∧ (W.cell? ⟨c1, 0, none⟩ = some (.int .u64 qh) ∧ W.cell? ⟨c1, 1, none⟩ = some (.int .u64 ql)) ∧ (W.cell? ⟨w.heap.size, 0, none⟩ = some (.int .u64 xh) ∧ W.cell? ⟨w.heap.size, 1, none⟩ = some (.int .u64 xl))) (by kernel_rfl) ?_ (fun hHeld => ?_)
    · exact HS0.out
    refine wpAnyH_take (i := 0) (oi := { dst := some 31, op := Op.fieldAddr 24 (Operand.tmp 5) 0, type := 0, pos := "law.go:29", after := #[], guard := none }) (v := ?_) rfl (by kernel_rfl) (by kernel_rfl) (by kernel_rfl) (fun _ _ _ h => h) (Or.inl ⟨by rfl, ?_⟩) (by assumption) ?_
    rotate_left
    · (intro w9 hS9; (try dsimp only at hS9); go_simp); all_goals (with_reducible rfl)
    (try simp only [Act.put, List.setIfInBounds_toArray, List.set_cons_zero, List.set_cons_succ])
    refine wpAnyH_take (i := 1) (oi := { dst := some 32, op := Op.load 22 (Operand.tmp 31), type := 22, pos := "law.go:29", after := #[{ on := 0, ground := Ground.data }], guard := none }) (v := ?_) rfl (by kernel_rfl) (by kernel_rfl) (by kernel_rfl) (fun _ _ _ h => h) (Or.inl ⟨by rfl, ?_⟩) (by assumption) ?_
    rotate_left
    · (intro w9 hS9; (try dsimp only at hS9); go_simp); all_goals (with_reducible rfl)
    (try simp only [Act.put, List.setIfInBounds_toArray, List.set_cons_zero, List.set_cons_succ])
    refine wpAnyH_take (i := 2) (oi := { dst := some 33, op := Op.move (Operand.tmp 1), type := 22, pos := "law.go:29", after := #[], guard := none }) (v := ?_) rfl (by kernel_rfl) (by kernel_rfl) (by kernel_rfl) (fun _ _ _ h => h) (Or.inl ⟨by rfl, ?_⟩) (by assumption) ?_
    rotate_left
    · (intro w9 hS9; (try dsimp only at hS9); go_simp); all_goals (with_reducible rfl)
    (try simp only [Act.put, List.setIfInBounds_toArray, List.set_cons_zero, List.set_cons_succ])
    refine wpAnyH_take (i := 4) (oi := { dst := some 35, op := Op.fieldAddr 24 (Operand.tmp 5) 1, type := 0, pos := "law.go:29", after := #[], guard := none }) (v := ?_) rfl (by kernel_rfl) (by kernel_rfl) (by kernel_rfl) (fun _ _ _ h => h) (Or.inl ⟨by rfl, ?_⟩) (by assumption) ?_
    rotate_left
    · (intro w9 hS9; (try dsimp only at hS9); go_simp); all_goals (with_reducible rfl)
    (try simp only [Act.put, List.setIfInBounds_toArray, List.set_cons_zero, List.set_cons_succ])
    refine wpAnyH_take (i := 5) (oi := { dst := some 36, op := Op.load 22 (Operand.tmp 35), type := 22, pos := "law.go:29", after := #[{ on := 4, ground := Ground.data }], guard := none }) (v := ?_) rfl (by kernel_rfl) (by kernel_rfl) (by kernel_rfl) (fun _ _ _ h => h) (Or.inl ⟨by rfl, ?_⟩) (by assumption) ?_
    rotate_left
    · (intro w9 hS9; (try dsimp only at hS9); go_simp); all_goals (with_reducible rfl)
    (try simp only [Act.put, List.setIfInBounds_toArray, List.set_cons_zero, List.set_cons_succ])
    refine wpAnyH_take (i := 6) (oi := { dst := some 37, op := Op.move (Operand.tmp 1), type := 22, pos := "law.go:29", after := #[], guard := none }) (v := ?_) rfl (by kernel_rfl) (by kernel_rfl) (by kernel_rfl) (fun _ _ _ h => h) (Or.inl ⟨by rfl, ?_⟩) (by assumption) ?_
    rotate_left
    · (intro w9 hS9; (try dsimp only at hS9); go_simp); all_goals (with_reducible rfl)
    (try simp only [Act.put, List.setIfInBounds_toArray, List.set_cons_zero, List.set_cons_succ])
    refine wpAnyH_ready (rs := [3, 8, 9]) (by kernel_rfl) (by simp) ?_
    refine AllReadyH.cons (o := { dst := some 34, op := Op.call { callee := Callee.value (Operand.func 29), args := #[Operand.tmp 32, Operand.tmp 33], argTypes := #[22, 22] }, type := 27, pos := "law.go:29", after := #[{ on := 1, ground := Ground.data }, { on := 2, ground := Ground.data }], guard := none }) rfl (fun K hK => ?_) ?_
    · go_simp
      with_reducible refine (C2.out _).mono ?_
      rintro e w1 ⟨rfl, hb1⟩
      have hS1 := HN.out _ _ (by assumption) hb1
      have hsz := hb1.size
      (try simp only [size_alloc, heap_drew] at hsz)
      (try go_wp2_with fail)
      refine hK.out _ _ ?_ (fun hHeld => ?_)
      · (first | exact hS1 | assumption | exact HN.out _ _ (by assumption) (below_alloc (Below.refl _ _) _) | exact HR.out _ _ _ (by assumption) (by first | omega | (simp; try omega)))
      clear hK K
      (try simp only [Act.put, List.setIfInBounds_toArray, List.set_cons_zero, List.set_cons_succ])
      refine wpAnyH_ready (rs := [7, 8, 9]) (by kernel_rfl) (by simp) ?_
      refine AllReadyH.cons (o := { dst := some 38, op := Op.call { callee := Callee.value (Operand.func 29), args := #[Operand.tmp 36, Operand.tmp 37], argTypes := #[22, 22] }, type := 27, pos := "law.go:29", after := #[{ on := 5, ground := Ground.data }, { on := 6, ground := Ground.data }, { on := 3, ground := Ground.chain }], guard := none }) rfl (fun K hK => ?_) ?_
      · go_simp
        with_reducible refine (C3.out _).mono ?_
        rintro e w1 ⟨rfl, hb1⟩
        have hS1 := HN.out _ _ (by assumption) hb1
        have hsz := hb1.size
        (try simp only [size_alloc, heap_drew] at hsz)
        (try go_wp2_with fail)
        refine hK.out _ _ ?_ (fun hHeld => ?_)
        · (first | exact hS1 | assumption | exact HN.out _ _ (by assumption) (below_alloc (Below.refl _ _) _) | exact HR.out _ _ _ (by assumption) (by first | omega | (simp; try omega)))
        clear hK K
        (try simp only [Act.put, List.setIfInBounds_toArray, List.set_cons_zero, List.set_cons_succ])
        refine wpAnyH_ready (rs := [8, 9]) (by kernel_rfl) (by simp) ?_
        refine AllReadyH.cons (o := { dst := some 7, op := Op.alloc 27, type := 0, pos := "law.go:29", after := #[], guard := none }) rfl (fun K hK => ?_) ?_
        · go_simp
          skip
          (try go_wp2_with fail)
          refine hK.out _ _ ?_ (fun hHeld => ?_)
          · (first | exact hS1 | assumption | exact HN.out _ _ (by assumption) (below_alloc (Below.refl _ _) _) | exact HR.out _ _ _ (by assumption) (by first | omega | (simp; try omega)))
          clear hK K
          (try simp only [Act.put, List.setIfInBounds_toArray, List.set_cons_zero, List.set_cons_succ])
          refine wpAnyH_ready (rs := [9]) (by kernel_rfl) (by simp) ?_
          refine AllReadyH.cons (o := { dst := some 8, op := Op.alloc 27, type := 0, pos := "law.go:29", after := #[], guard := none }) rfl (fun K hK => ?_) ?_
          · go_simp
            skip
            (try go_wp2_with fail)
            refine hK.out _ _ ?_ (fun hHeld => ?_)
            · (first | exact hS1 | assumption | exact HN.out _ _ (by assumption) (below_alloc (Below.refl _ _) _) | exact HR.out _ _ _ (by assumption) (by first | omega | (simp; try omega)))
            clear hK K
            (try simp only [Act.put, List.setIfInBounds_toArray, List.set_cons_zero, List.set_cons_succ])
            refine wpAnyH_ready (rs := [10]) (by kernel_rfl) (by simp) ?_
            refine AllReadyH.cons (o := { dst := none, op := Op.store 27 (Operand.tmp 7) (Operand.tmp 34), type := 0, pos := "law.go:29", after := #[{ on := 8, ground := Ground.data }, { on := 3, ground := Ground.data }, { on := 7, ground := Ground.chain }, { on := 0, ground := Ground.phase }, { on := 1, ground := Ground.phase }, { on := 2, ground := Ground.phase }, { on := 3, ground := Ground.phase }, { on := 4, ground := Ground.textOnly Departure.lateStores }, { on := 5, ground := Ground.textOnly Departure.lateStores }, { on := 6, ground := Ground.textOnly Departure.lateStores }, { on := 7, ground := Ground.textOnly Departure.lateStoresUnsure }, { on := 8, ground := Ground.phase }, { on := 9, ground := Ground.phase }], guard := none }) rfl (fun K hK => ?_) ?_
            · rw [if_pos (by rfl)]
              refine wp_store_row 27 _ _ rfl _ #[.int .u64 0, .int .u64 al] rfl rfl 27 #[.int .u64 0, .int .u64 0] ?_ size27 rfl (one2 _ _) ?_
              · repeat' first | with_reducible exact heap_alloc_new _ _ | with_reducible exact heap_alloc2_new _ _ _ | with_reducible refine old_drew ?_ | with_reducible refine old_alloc _ ?_ | with_reducible refine old_row _ (by simp; try omega) ?_ | with_reducible refine old_below (by assumption) ?_
              (try go_wp2_with fail)
              refine hK.out _ _ ?_ (fun hHeld => ?_)
              · (first | exact hS1 | assumption | exact HN.out _ _ (by assumption) (below_alloc (Below.refl _ _) _) | exact HR.out _ _ _ (by assumption) (by first | omega | (simp; try omega)))
              clear hK K
              (try simp only [Act.put, List.setIfInBounds_toArray, List.set_cons_zero, List.set_cons_succ])
              refine wpAnyH_ready (rs := [11]) (by kernel_rfl) (by simp) ?_
              refine AllReadyH.cons (o := { dst := none, op := Op.store 27 (Operand.tmp 8) (Operand.tmp 38), type := 0, pos := "law.go:29", after := #[{ on := 9, ground := Ground.data }, { on := 7, ground := Ground.data }, { on := 10, ground := Ground.chain }, { on := 0, ground := Ground.phase }, { on := 1, ground := Ground.phase }, { on := 2, ground := Ground.phase }, { on := 3, ground := Ground.phase }, { on := 4, ground := Ground.phase }, { on := 5, ground := Ground.phase }, { on := 6, ground := Ground.phase }, { on := 7, ground := Ground.phase }, { on := 8, ground := Ground.phase }, { on := 9, ground := Ground.phase }, { on := 10, ground := Ground.phase }], guard := none }) rfl (fun K hK => ?_) ?_
              · rw [if_pos (by rfl)]
                refine wp_store_row 27 _ _ rfl _ #[.int .u64 bh, .int .u64 bl] rfl rfl 27 #[.int .u64 0, .int .u64 0] ?_ size27 rfl (one2 _ _) ?_
                · repeat' first | with_reducible exact heap_alloc_new _ _ | with_reducible exact heap_alloc2_new _ _ _ | with_reducible refine old_drew ?_ | with_reducible refine old_alloc _ ?_ | with_reducible refine old_row _ (by simp; try omega) ?_ | with_reducible refine old_below (by assumption) ?_
                (try go_wp2_with fail)
                refine hK.out _ _ ?_ (fun hHeld => ?_)
                · (first | exact hS1 | assumption | exact HN.out _ _ (by assumption) (below_alloc (Below.refl _ _) _) | exact HR.out _ _ _ (by assumption) (by first | omega | (simp; try omega)))
                clear hK K
                (try simp only [Act.put, List.setIfInBounds_toArray, List.set_cons_zero, List.set_cons_succ])
                refine wpAnyH_done (by kernel_rfl) (NoPanic.normal ?_) _
                go_wp2_with fail
                go_meet
                case rel =>
                  refine ⟨_, _, rfl, rfl, Boxes.cons (Boxes.cons (And.left (by assumption)) ?_) ?_⟩
                  · with_reducible refine old_row _ (by simp; try omega) ?_
                    refine setRow_heap _ _ #[.int .u64 0, .int .u64 0] _ 27 (0, 0) ?_
                    repeat' first | with_reducible exact heap_alloc_new _ _ | with_reducible exact heap_alloc2_new _ _ _ | with_reducible refine old_drew ?_ | with_reducible refine old_alloc _ ?_ | with_reducible refine old_row _ (by simp; try omega) ?_ | with_reducible refine old_below (by assumption) ?_
                  · refine setRow_heap _ _ #[.int .u64 0, .int .u64 0] _ 27 (0, 0) ?_
                    repeat' first | with_reducible exact heap_alloc_new _ _ | with_reducible exact heap_alloc2_new _ _ _ | with_reducible refine old_drew ?_ | with_reducible refine old_alloc _ ?_ | with_reducible refine old_row _ (by simp; try omega) ?_ | with_reducible refine old_below (by assumption) ?_
              exact AllReadyH.nil
            exact AllReadyH.nil
          exact AllReadyH.nil
        refine AllReadyH.cons (o := { dst := some 8, op := Op.alloc 27, type := 0, pos := "law.go:29", after := #[], guard := none }) rfl (fun K hK => ?_) ?_
        · go_simp
          skip
          (try go_wp2_with fail)
          refine hK.out _ _ ?_ (fun hHeld => ?_)
          · (first | exact hS1 | assumption | exact HN.out _ _ (by assumption) (below_alloc (Below.refl _ _) _) | exact HR.out _ _ _ (by assumption) (by first | omega | (simp; try omega)))
          clear hK K
          (try simp only [Act.put, List.setIfInBounds_toArray, List.set_cons_zero, List.set_cons_succ])
          refine wpAnyH_ready (rs := [8]) (by kernel_rfl) (by simp) ?_
          refine AllReadyH.cons (o := { dst := some 7, op := Op.alloc 27, type := 0, pos := "law.go:29", after := #[], guard := none }) rfl (fun K hK => ?_) ?_
          · go_simp
            skip
            (try go_wp2_with fail)
            refine hK.out _ _ ?_ (fun hHeld => ?_)
            · (first | exact hS1 | assumption | exact HN.out _ _ (by assumption) (below_alloc (Below.refl _ _) _) | exact HR.out _ _ _ (by assumption) (by first | omega | (simp; try omega)))
            clear hK K
            (try simp only [Act.put, List.setIfInBounds_toArray, List.set_cons_zero, List.set_cons_succ])
            refine wpAnyH_ready (rs := [10]) (by kernel_rfl) (by simp) ?_
            refine AllReadyH.cons (o := { dst := none, op := Op.store 27 (Operand.tmp 7) (Operand.tmp 34), type := 0, pos := "law.go:29", after := #[{ on := 8, ground := Ground.data }, { on := 3, ground := Ground.data }, { on := 7, ground := Ground.chain }, { on := 0, ground := Ground.phase }, { on := 1, ground := Ground.phase }, { on := 2, ground := Ground.phase }, { on := 3, ground := Ground.phase }, { on := 4, ground := Ground.textOnly Departure.lateStores }, { on := 5, ground := Ground.textOnly Departure.lateStores }, { on := 6, ground := Ground.textOnly Departure.lateStores }, { on := 7, ground := Ground.textOnly Departure.lateStoresUnsure }, { on := 8, ground := Ground.phase }, { on := 9, ground := Ground.phase }], guard := none }) rfl (fun K hK => ?_) ?_
            · rw [if_pos (by rfl)]
              refine wp_store_row 27 _ _ rfl _ #[.int .u64 0, .int .u64 al] rfl rfl 27 #[.int .u64 0, .int .u64 0] ?_ size27 rfl (one2 _ _) ?_
              · repeat' first | with_reducible exact heap_alloc_new _ _ | with_reducible exact heap_alloc2_new _ _ _ | with_reducible refine old_drew ?_ | with_reducible refine old_alloc _ ?_ | with_reducible refine old_row _ (by simp; try omega) ?_ | with_reducible refine old_below (by assumption) ?_
              (try go_wp2_with fail)
              refine hK.out _ _ ?_ (fun hHeld => ?_)
              · (first | exact hS1 | assumption | exact HN.out _ _ (by assumption) (below_alloc (Below.refl _ _) _) | exact HR.out _ _ _ (by assumption) (by first | omega | (simp; try omega)))
              clear hK K
              (try simp only [Act.put, List.setIfInBounds_toArray, List.set_cons_zero, List.set_cons_succ])
              refine wpAnyH_ready (rs := [11]) (by kernel_rfl) (by simp) ?_
              refine AllReadyH.cons (o := { dst := none, op := Op.store 27 (Operand.tmp 8) (Operand.tmp 38), type := 0, pos := "law.go:29", after := #[{ on := 9, ground := Ground.data }, { on := 7, ground := Ground.data }, { on := 10, ground := Ground.chain }, { on := 0, ground := Ground.phase }, { on := 1, ground := Ground.phase }, { on := 2, ground := Ground.phase }, { on := 3, ground := Ground.phase }, { on := 4, ground := Ground.phase }, { on := 5, ground := Ground.phase }, { on := 6, ground := Ground.phase }, { on := 7, ground := Ground.phase }, { on := 8, ground := Ground.phase }, { on := 9, ground := Ground.phase }, { on := 10, ground := Ground.phase }], guard := none }) rfl (fun K hK => ?_) ?_
              · rw [if_pos (by rfl)]
                refine wp_store_row 27 _ _ rfl _ #[.int .u64 bh, .int .u64 bl] rfl rfl 27 #[.int .u64 0, .int .u64 0] ?_ size27 rfl (one2 _ _) ?_
                · repeat' first | with_reducible exact heap_alloc_new _ _ | with_reducible exact heap_alloc2_new _ _ _ | with_reducible refine old_drew ?_ | with_reducible refine old_alloc _ ?_ | with_reducible refine old_row _ (by simp; try omega) ?_ | with_reducible refine old_below (by assumption) ?_
                (try go_wp2_with fail)
                refine hK.out _ _ ?_ (fun hHeld => ?_)
                · (first | exact hS1 | assumption | exact HN.out _ _ (by assumption) (below_alloc (Below.refl _ _) _) | exact HR.out _ _ _ (by assumption) (by first | omega | (simp; try omega)))
                clear hK K
                (try simp only [Act.put, List.setIfInBounds_toArray, List.set_cons_zero, List.set_cons_succ])
                refine wpAnyH_done (by kernel_rfl) (NoPanic.normal ?_) _
                go_wp2_with fail
                go_meet
                case rel =>
                  refine ⟨_, _, rfl, rfl, Boxes.cons (Boxes.cons (And.left (by assumption)) ?_) ?_⟩
                  · with_reducible refine old_row _ (by simp; try omega) ?_
                    refine setRow_heap _ _ #[.int .u64 0, .int .u64 0] _ 27 (0, 0) ?_
                    repeat' first | with_reducible exact heap_alloc_new _ _ | with_reducible exact heap_alloc2_new _ _ _ | with_reducible refine old_drew ?_ | with_reducible refine old_alloc _ ?_ | with_reducible refine old_row _ (by simp; try omega) ?_ | with_reducible refine old_below (by assumption) ?_
                  · refine setRow_heap _ _ #[.int .u64 0, .int .u64 0] _ 27 (0, 0) ?_
                    repeat' first | with_reducible exact heap_alloc_new _ _ | with_reducible exact heap_alloc2_new _ _ _ | with_reducible refine old_drew ?_ | with_reducible refine old_alloc _ ?_ | with_reducible refine old_row _ (by simp; try omega) ?_ | with_reducible refine old_below (by assumption) ?_
              exact AllReadyH.nil
            exact AllReadyH.nil
          exact AllReadyH.nil
        exact AllReadyH.nil
      refine AllReadyH.cons (o := { dst := some 7, op := Op.alloc 27, type := 0, pos := "law.go:29", after := #[], guard := none }) rfl (fun K hK => ?_) ?_
      · go_simp
        skip
        (try go_wp2_with fail)
        refine hK.out _ _ ?_ (fun hHeld => ?_)
        · (first | exact hS1 | assumption | exact HN.out _ _ (by assumption) (below_alloc (Below.refl _ _) _) | exact HR.out _ _ _ (by assumption) (by first | omega | (simp; try omega)))
        clear hK K
        (try simp only [Act.put, List.setIfInBounds_toArray, List.set_cons_zero, List.set_cons_succ])
        refine wpAnyH_ready (rs := [7, 9]) (by kernel_rfl) (by simp) ?_
        refine AllReadyH.cons (o := { dst := some 38, op := Op.call { callee := Callee.value (Operand.func 29), args := #[Operand.tmp 36, Operand.tmp 37], argTypes := #[22, 22] }, type := 27, pos := "law.go:29", after := #[{ on := 5, ground := Ground.data }, { on := 6, ground := Ground.data }, { on := 3, ground := Ground.chain }], guard := none }) rfl (fun K hK => ?_) ?_
        · go_simp
          with_reducible refine (C3.out _).mono ?_
          rintro e w1 ⟨rfl, hb1⟩
          have hS1 := HN.out _ _ (by assumption) hb1
          have hsz := hb1.size
          (try simp only [size_alloc, heap_drew] at hsz)
          (try go_wp2_with fail)
          refine hK.out _ _ ?_ (fun hHeld => ?_)
          · (first | exact hS1 | assumption | exact HN.out _ _ (by assumption) (below_alloc (Below.refl _ _) _) | exact HR.out _ _ _ (by assumption) (by first | omega | (simp; try omega)))
          clear hK K
          (try simp only [Act.put, List.setIfInBounds_toArray, List.set_cons_zero, List.set_cons_succ])
          refine wpAnyH_ready (rs := [9]) (by kernel_rfl) (by simp) ?_
          refine AllReadyH.cons (o := { dst := some 8, op := Op.alloc 27, type := 0, pos := "law.go:29", after := #[], guard := none }) rfl (fun K hK => ?_) ?_
          · go_simp
            skip
            (try go_wp2_with fail)
            refine hK.out _ _ ?_ (fun hHeld => ?_)
            · (first | exact hS1 | assumption | exact HN.out _ _ (by assumption) (below_alloc (Below.refl _ _) _) | exact HR.out _ _ _ (by assumption) (by first | omega | (simp; try omega)))
            clear hK K
            (try simp only [Act.put, List.setIfInBounds_toArray, List.set_cons_zero, List.set_cons_succ])
            refine wpAnyH_ready (rs := [10]) (by kernel_rfl) (by simp) ?_
            refine AllReadyH.cons (o := { dst := none, op := Op.store 27 (Operand.tmp 7) (Operand.tmp 34), type := 0, pos := "law.go:29", after := #[{ on := 8, ground := Ground.data }, { on := 3, ground := Ground.data }, { on := 7, ground := Ground.chain }, { on := 0, ground := Ground.phase }, { on := 1, ground := Ground.phase }, { on := 2, ground := Ground.phase }, { on := 3, ground := Ground.phase }, { on := 4, ground := Ground.textOnly Departure.lateStores }, { on := 5, ground := Ground.textOnly Departure.lateStores }, { on := 6, ground := Ground.textOnly Departure.lateStores }, { on := 7, ground := Ground.textOnly Departure.lateStoresUnsure }, { on := 8, ground := Ground.phase }, { on := 9, ground := Ground.phase }], guard := none }) rfl (fun K hK => ?_) ?_
            · rw [if_pos (by rfl)]
              refine wp_store_row 27 _ _ rfl _ #[.int .u64 0, .int .u64 al] rfl rfl 27 #[.int .u64 0, .int .u64 0] ?_ size27 rfl (one2 _ _) ?_
              · repeat' first | with_reducible exact heap_alloc_new _ _ | with_reducible exact heap_alloc2_new _ _ _ | with_reducible refine old_drew ?_ | with_reducible refine old_alloc _ ?_ | with_reducible refine old_row _ (by simp; try omega) ?_ | with_reducible refine old_below (by assumption) ?_
              (try go_wp2_with fail)
              refine hK.out _ _ ?_ (fun hHeld => ?_)
              · (first | exact hS1 | assumption | exact HN.out _ _ (by assumption) (below_alloc (Below.refl _ _) _) | exact HR.out _ _ _ (by assumption) (by first | omega | (simp; try omega)))
              clear hK K
              (try simp only [Act.put, List.setIfInBounds_toArray, List.set_cons_zero, List.set_cons_succ])
              refine wpAnyH_ready (rs := [11]) (by kernel_rfl) (by simp) ?_
              refine AllReadyH.cons (o := { dst := none, op := Op.store 27 (Operand.tmp 8) (Operand.tmp 38), type := 0, pos := "law.go:29", after := #[{ on := 9, ground := Ground.data }, { on := 7, ground := Ground.data }, { on := 10, ground := Ground.chain }, { on := 0, ground := Ground.phase }, { on := 1, ground := Ground.phase }, { on := 2, ground := Ground.phase }, { on := 3, ground := Ground.phase }, { on := 4, ground := Ground.phase }, { on := 5, ground := Ground.phase }, { on := 6, ground := Ground.phase }, { on := 7, ground := Ground.phase }, { on := 8, ground := Ground.phase }, { on := 9, ground := Ground.phase }, { on := 10, ground := Ground.phase }], guard := none }) rfl (fun K hK => ?_) ?_
              · rw [if_pos (by rfl)]
                refine wp_store_row 27 _ _ rfl _ #[.int .u64 bh, .int .u64 bl] rfl rfl 27 #[.int .u64 0, .int .u64 0] ?_ size27 rfl (one2 _ _) ?_
                · repeat' first | with_reducible exact heap_alloc_new _ _ | with_reducible exact heap_alloc2_new _ _ _ | with_reducible refine old_drew ?_ | with_reducible refine old_alloc _ ?_ | with_reducible refine old_row _ (by simp; try omega) ?_ | with_reducible refine old_below (by assumption) ?_
                (try go_wp2_with fail)
                refine hK.out _ _ ?_ (fun hHeld => ?_)
                · (first | exact hS1 | assumption | exact HN.out _ _ (by assumption) (below_alloc (Below.refl _ _) _) | exact HR.out _ _ _ (by assumption) (by first | omega | (simp; try omega)))
                clear hK K
                (try simp only [Act.put, List.setIfInBounds_toArray, List.set_cons_zero, List.set_cons_succ])
                refine wpAnyH_done (by kernel_rfl) (NoPanic.normal ?_) _
                go_wp2_with fail
                go_meet
                case rel =>
                  refine ⟨_, _, rfl, rfl, Boxes.cons (Boxes.cons (And.left (by assumption)) ?_) ?_⟩
                  · with_reducible refine old_row _ (by simp; try omega) ?_
                    refine setRow_heap _ _ #[.int .u64 0, .int .u64 0] _ 27 (0, 0) ?_
                    repeat' first | with_reducible exact heap_alloc_new _ _ | with_reducible exact heap_alloc2_new _ _ _ | with_reducible refine old_drew ?_ | with_reducible refine old_alloc _ ?_ | with_reducible refine old_row _ (by simp; try omega) ?_ | with_reducible refine old_below (by assumption) ?_
                  · refine setRow_heap _ _ #[.int .u64 0, .int .u64 0] _ 27 (0, 0) ?_
                    repeat' first | with_reducible exact heap_alloc_new _ _ | with_reducible exact heap_alloc2_new _ _ _ | with_reducible refine old_drew ?_ | with_reducible refine old_alloc _ ?_ | with_reducible refine old_row _ (by simp; try omega) ?_ | with_reducible refine old_below (by assumption) ?_
              exact AllReadyH.nil
            exact AllReadyH.nil
          exact AllReadyH.nil
        refine AllReadyH.cons (o := { dst := some 8, op := Op.alloc 27, type := 0, pos := "law.go:29", after := #[], guard := none }) rfl (fun K hK => ?_) ?_
        · go_simp
          skip
          (try go_wp2_with fail)
          refine hK.out _ _ ?_ (fun hHeld => ?_)
          · (first | exact hS1 | assumption | exact HN.out _ _ (by assumption) (below_alloc (Below.refl _ _) _) | exact HR.out _ _ _ (by assumption) (by first | omega | (simp; try omega)))
          clear hK K
          (try simp only [Act.put, List.setIfInBounds_toArray, List.set_cons_zero, List.set_cons_succ])
          refine wpAnyH_ready (rs := [7]) (by kernel_rfl) (by simp) ?_
          refine AllReadyH.cons (o := { dst := some 38, op := Op.call { callee := Callee.value (Operand.func 29), args := #[Operand.tmp 36, Operand.tmp 37], argTypes := #[22, 22] }, type := 27, pos := "law.go:29", after := #[{ on := 5, ground := Ground.data }, { on := 6, ground := Ground.data }, { on := 3, ground := Ground.chain }], guard := none }) rfl (fun K hK => ?_) ?_
          · go_simp
            with_reducible refine (C3.out _).mono ?_
            rintro e w1 ⟨rfl, hb1⟩
            have hS1 := HN.out _ _ (by assumption) hb1
            have hsz := hb1.size
            (try simp only [size_alloc, heap_drew] at hsz)
            (try go_wp2_with fail)
            refine hK.out _ _ ?_ (fun hHeld => ?_)
            · (first | exact hS1 | assumption | exact HN.out _ _ (by assumption) (below_alloc (Below.refl _ _) _) | exact HR.out _ _ _ (by assumption) (by first | omega | (simp; try omega)))
            clear hK K
            (try simp only [Act.put, List.setIfInBounds_toArray, List.set_cons_zero, List.set_cons_succ])
            refine wpAnyH_ready (rs := [10]) (by kernel_rfl) (by simp) ?_
            refine AllReadyH.cons (o := { dst := none, op := Op.store 27 (Operand.tmp 7) (Operand.tmp 34), type := 0, pos := "law.go:29", after := #[{ on := 8, ground := Ground.data }, { on := 3, ground := Ground.data }, { on := 7, ground := Ground.chain }, { on := 0, ground := Ground.phase }, { on := 1, ground := Ground.phase }, { on := 2, ground := Ground.phase }, { on := 3, ground := Ground.phase }, { on := 4, ground := Ground.textOnly Departure.lateStores }, { on := 5, ground := Ground.textOnly Departure.lateStores }, { on := 6, ground := Ground.textOnly Departure.lateStores }, { on := 7, ground := Ground.textOnly Departure.lateStoresUnsure }, { on := 8, ground := Ground.phase }, { on := 9, ground := Ground.phase }], guard := none }) rfl (fun K hK => ?_) ?_
            · rw [if_pos (by rfl)]
              refine wp_store_row 27 _ _ rfl _ #[.int .u64 0, .int .u64 al] rfl rfl 27 #[.int .u64 0, .int .u64 0] ?_ size27 rfl (one2 _ _) ?_
              · repeat' first | with_reducible exact heap_alloc_new _ _ | with_reducible exact heap_alloc2_new _ _ _ | with_reducible refine old_drew ?_ | with_reducible refine old_alloc _ ?_ | with_reducible refine old_row _ (by simp; try omega) ?_ | with_reducible refine old_below (by assumption) ?_
              (try go_wp2_with fail)
              refine hK.out _ _ ?_ (fun hHeld => ?_)
              · (first | exact hS1 | assumption | exact HN.out _ _ (by assumption) (below_alloc (Below.refl _ _) _) | exact HR.out _ _ _ (by assumption) (by first | omega | (simp; try omega)))
              clear hK K
              (try simp only [Act.put, List.setIfInBounds_toArray, List.set_cons_zero, List.set_cons_succ])
              refine wpAnyH_ready (rs := [11]) (by kernel_rfl) (by simp) ?_
              refine AllReadyH.cons (o := { dst := none, op := Op.store 27 (Operand.tmp 8) (Operand.tmp 38), type := 0, pos := "law.go:29", after := #[{ on := 9, ground := Ground.data }, { on := 7, ground := Ground.data }, { on := 10, ground := Ground.chain }, { on := 0, ground := Ground.phase }, { on := 1, ground := Ground.phase }, { on := 2, ground := Ground.phase }, { on := 3, ground := Ground.phase }, { on := 4, ground := Ground.phase }, { on := 5, ground := Ground.phase }, { on := 6, ground := Ground.phase }, { on := 7, ground := Ground.phase }, { on := 8, ground := Ground.phase }, { on := 9, ground := Ground.phase }, { on := 10, ground := Ground.phase }], guard := none }) rfl (fun K hK => ?_) ?_
              · rw [if_pos (by rfl)]
                refine wp_store_row 27 _ _ rfl _ #[.int .u64 bh, .int .u64 bl] rfl rfl 27 #[.int .u64 0, .int .u64 0] ?_ size27 rfl (one2 _ _) ?_
                · repeat' first | with_reducible exact heap_alloc_new _ _ | with_reducible exact heap_alloc2_new _ _ _ | with_reducible refine old_drew ?_ | with_reducible refine old_alloc _ ?_ | with_reducible refine old_row _ (by simp; try omega) ?_ | with_reducible refine old_below (by assumption) ?_
                (try go_wp2_with fail)
                refine hK.out _ _ ?_ (fun hHeld => ?_)
                · (first | exact hS1 | assumption | exact HN.out _ _ (by assumption) (below_alloc (Below.refl _ _) _) | exact HR.out _ _ _ (by assumption) (by first | omega | (simp; try omega)))
                clear hK K
                (try simp only [Act.put, List.setIfInBounds_toArray, List.set_cons_zero, List.set_cons_succ])
                refine wpAnyH_done (by kernel_rfl) (NoPanic.normal ?_) _
                go_wp2_with fail
                go_meet
                case rel =>
                  refine ⟨_, _, rfl, rfl, Boxes.cons (Boxes.cons (And.left (by assumption)) ?_) ?_⟩
                  · with_reducible refine old_row _ (by simp; try omega) ?_
                    refine setRow_heap _ _ #[.int .u64 0, .int .u64 0] _ 27 (0, 0) ?_
                    repeat' first | with_reducible exact heap_alloc_new _ _ | with_reducible exact heap_alloc2_new _ _ _ | with_reducible refine old_drew ?_ | with_reducible refine old_alloc _ ?_ | with_reducible refine old_row _ (by simp; try omega) ?_ | with_reducible refine old_below (by assumption) ?_
                  · refine setRow_heap _ _ #[.int .u64 0, .int .u64 0] _ 27 (0, 0) ?_
                    repeat' first | with_reducible exact heap_alloc_new _ _ | with_reducible exact heap_alloc2_new _ _ _ | with_reducible refine old_drew ?_ | with_reducible refine old_alloc _ ?_ | with_reducible refine old_row _ (by simp; try omega) ?_ | with_reducible refine old_below (by assumption) ?_
              exact AllReadyH.nil
            exact AllReadyH.nil
          exact AllReadyH.nil
        exact AllReadyH.nil
      refine AllReadyH.cons (o := { dst := some 8, op := Op.alloc 27, type := 0, pos := "law.go:29", after := #[], guard := none }) rfl (fun K hK => ?_) ?_
      · go_simp
        skip
        (try go_wp2_with fail)
        refine hK.out _ _ ?_ (fun hHeld => ?_)
        · (first | exact hS1 | assumption | exact HN.out _ _ (by assumption) (below_alloc (Below.refl _ _) _) | exact HR.out _ _ _ (by assumption) (by first | omega | (simp; try omega)))
        clear hK K
        (try simp only [Act.put, List.setIfInBounds_toArray, List.set_cons_zero, List.set_cons_succ])
        refine wpAnyH_ready (rs := [7, 8]) (by kernel_rfl) (by simp) ?_
        refine AllReadyH.cons (o := { dst := some 38, op := Op.call { callee := Callee.value (Operand.func 29), args := #[Operand.tmp 36, Operand.tmp 37], argTypes := #[22, 22] }, type := 27, pos := "law.go:29", after := #[{ on := 5, ground := Ground.data }, { on := 6, ground := Ground.data }, { on := 3, ground := Ground.chain }], guard := none }) rfl (fun K hK => ?_) ?_
        · go_simp
          with_reducible refine (C3.out _).mono ?_
          rintro e w1 ⟨rfl, hb1⟩
          have hS1 := HN.out _ _ (by assumption) hb1
          have hsz := hb1.size
          (try simp only [size_alloc, heap_drew] at hsz)
          (try go_wp2_with fail)
          refine hK.out _ _ ?_ (fun hHeld => ?_)
          · (first | exact hS1 | assumption | exact HN.out _ _ (by assumption) (below_alloc (Below.refl _ _) _) | exact HR.out _ _ _ (by assumption) (by first | omega | (simp; try omega)))
          clear hK K
          (try simp only [Act.put, List.setIfInBounds_toArray, List.set_cons_zero, List.set_cons_succ])
          refine wpAnyH_ready (rs := [8]) (by kernel_rfl) (by simp) ?_
          refine AllReadyH.cons (o := { dst := some 7, op := Op.alloc 27, type := 0, pos := "law.go:29", after := #[], guard := none }) rfl (fun K hK => ?_) ?_
          · go_simp
            skip
            (try go_wp2_with fail)
            refine hK.out _ _ ?_ (fun hHeld => ?_)
            · (first | exact hS1 | assumption | exact HN.out _ _ (by assumption) (below_alloc (Below.refl _ _) _) | exact HR.out _ _ _ (by assumption) (by first | omega | (simp; try omega)))
            clear hK K
            (try simp only [Act.put, List.setIfInBounds_toArray, List.set_cons_zero, List.set_cons_succ])
            refine wpAnyH_ready (rs := [10]) (by kernel_rfl) (by simp) ?_
            refine AllReadyH.cons (o := { dst := none, op := Op.store 27 (Operand.tmp 7) (Operand.tmp 34), type := 0, pos := "law.go:29", after := #[{ on := 8, ground := Ground.data }, { on := 3, ground := Ground.data }, { on := 7, ground := Ground.chain }, { on := 0, ground := Ground.phase }, { on := 1, ground := Ground.phase }, { on := 2, ground := Ground.phase }, { on := 3, ground := Ground.phase }, { on := 4, ground := Ground.textOnly Departure.lateStores }, { on := 5, ground := Ground.textOnly Departure.lateStores }, { on := 6, ground := Ground.textOnly Departure.lateStores }, { on := 7, ground := Ground.textOnly Departure.lateStoresUnsure }, { on := 8, ground := Ground.phase }, { on := 9, ground := Ground.phase }], guard := none }) rfl (fun K hK => ?_) ?_
            · rw [if_pos (by rfl)]
              refine wp_store_row 27 _ _ rfl _ #[.int .u64 0, .int .u64 al] rfl rfl 27 #[.int .u64 0, .int .u64 0] ?_ size27 rfl (one2 _ _) ?_
              · repeat' first | with_reducible exact heap_alloc_new _ _ | with_reducible exact heap_alloc2_new _ _ _ | with_reducible refine old_drew ?_ | with_reducible refine old_alloc _ ?_ | with_reducible refine old_row _ (by simp; try omega) ?_ | with_reducible refine old_below (by assumption) ?_
              (try go_wp2_with fail)
              refine hK.out _ _ ?_ (fun hHeld => ?_)
              · (first | exact hS1 | assumption | exact HN.out _ _ (by assumption) (below_alloc (Below.refl _ _) _) | exact HR.out _ _ _ (by assumption) (by first | omega | (simp; try omega)))
              clear hK K
              (try simp only [Act.put, List.setIfInBounds_toArray, List.set_cons_zero, List.set_cons_succ])
              refine wpAnyH_ready (rs := [11]) (by kernel_rfl) (by simp) ?_
              refine AllReadyH.cons (o := { dst := none, op := Op.store 27 (Operand.tmp 8) (Operand.tmp 38), type := 0, pos := "law.go:29", after := #[{ on := 9, ground := Ground.data }, { on := 7, ground := Ground.data }, { on := 10, ground := Ground.chain }, { on := 0, ground := Ground.phase }, { on := 1, ground := Ground.phase }, { on := 2, ground := Ground.phase }, { on := 3, ground := Ground.phase }, { on := 4, ground := Ground.phase }, { on := 5, ground := Ground.phase }, { on := 6, ground := Ground.phase }, { on := 7, ground := Ground.phase }, { on := 8, ground := Ground.phase }, { on := 9, ground := Ground.phase }, { on := 10, ground := Ground.phase }], guard := none }) rfl (fun K hK => ?_) ?_
              · rw [if_pos (by rfl)]
                refine wp_store_row 27 _ _ rfl _ #[.int .u64 bh, .int .u64 bl] rfl rfl 27 #[.int .u64 0, .int .u64 0] ?_ size27 rfl (one2 _ _) ?_
                · repeat' first | with_reducible exact heap_alloc_new _ _ | with_reducible exact heap_alloc2_new _ _ _ | with_reducible refine old_drew ?_ | with_reducible refine old_alloc _ ?_ | with_reducible refine old_row _ (by simp; try omega) ?_ | with_reducible refine old_below (by assumption) ?_
                (try go_wp2_with fail)
                refine hK.out _ _ ?_ (fun hHeld => ?_)
                · (first | exact hS1 | assumption | exact HN.out _ _ (by assumption) (below_alloc (Below.refl _ _) _) | exact HR.out _ _ _ (by assumption) (by first | omega | (simp; try omega)))
                clear hK K
                (try simp only [Act.put, List.setIfInBounds_toArray, List.set_cons_zero, List.set_cons_succ])
                refine wpAnyH_done (by kernel_rfl) (NoPanic.normal ?_) _
                go_wp2_with fail
                go_meet
                case rel =>
                  refine ⟨_, _, rfl, rfl, Boxes.cons (Boxes.cons (And.left (by assumption)) ?_) ?_⟩
                  · with_reducible refine old_row _ (by simp; try omega) ?_
                    refine setRow_heap _ _ #[.int .u64 0, .int .u64 0] _ 27 (0, 0) ?_
                    repeat' first | with_reducible exact heap_alloc_new _ _ | with_reducible exact heap_alloc2_new _ _ _ | with_reducible refine old_drew ?_ | with_reducible refine old_alloc _ ?_ | with_reducible refine old_row _ (by simp; try omega) ?_ | with_reducible refine old_below (by assumption) ?_
                  · refine setRow_heap _ _ #[.int .u64 0, .int .u64 0] _ 27 (0, 0) ?_
                    repeat' first | with_reducible exact heap_alloc_new _ _ | with_reducible exact heap_alloc2_new _ _ _ | with_reducible refine old_drew ?_ | with_reducible refine old_alloc _ ?_ | with_reducible refine old_row _ (by simp; try omega) ?_ | with_reducible refine old_below (by assumption) ?_
              exact AllReadyH.nil
            exact AllReadyH.nil
          exact AllReadyH.nil
        refine AllReadyH.cons (o := { dst := some 7, op := Op.alloc 27, type := 0, pos := "law.go:29", after := #[], guard := none }) rfl (fun K hK => ?_) ?_
        · go_simp
          skip
          (try go_wp2_with fail)
          refine hK.out _ _ ?_ (fun hHeld => ?_)
          · (first | exact hS1 | assumption | exact HN.out _ _ (by assumption) (below_alloc (Below.refl _ _) _) | exact HR.out _ _ _ (by assumption) (by first | omega | (simp; try omega)))
          clear hK K
          (try simp only [Act.put, List.setIfInBounds_toArray, List.set_cons_zero, List.set_cons_succ])
          refine wpAnyH_ready (rs := [7]) (by kernel_rfl) (by simp) ?_
          refine AllReadyH.cons (o := { dst := some 38, op := Op.call { callee := Callee.value (Operand.func 29), args := #[Operand.tmp 36, Operand.tmp 37], argTypes := #[22, 22] }, type := 27, pos := "law.go:29", after := #[{ on := 5, ground := Ground.data }, { on := 6, ground := Ground.data }, { on := 3, ground := Ground.chain }], guard := none }) rfl (fun K hK => ?_) ?_
          · go_simp
            with_reducible refine (C3.out _).mono ?_
            rintro e w1 ⟨rfl, hb1⟩
            have hS1 := HN.out _ _ (by assumption) hb1
            have hsz := hb1.size
            (try simp only [size_alloc, heap_drew] at hsz)
            (try go_wp2_with fail)
            refine hK.out _ _ ?_ (fun hHeld => ?_)
            · (first | exact hS1 | assumption | exact HN.out _ _ (by assumption) (below_alloc (Below.refl _ _) _) | exact HR.out _ _ _ (by assumption) (by first | omega | (simp; try omega)))
            clear hK K
            (try simp only [Act.put, List.setIfInBounds_toArray, List.set_cons_zero, List.set_cons_succ])
            refine wpAnyH_ready (rs := [10]) (by kernel_rfl) (by simp) ?_
            refine AllReadyH.cons (o := { dst := none, op := Op.store 27 (Operand.tmp 7) (Operand.tmp 34), type := 0, pos := "law.go:29", after := #[{ on := 8, ground := Ground.data }, { on := 3, ground := Ground.data }, { on := 7, ground := Ground.chain }, { on := 0, ground := Ground.phase }, { on := 1, ground := Ground.phase }, { on := 2, ground := Ground.phase }, { on := 3, ground := Ground.phase }, { on := 4, ground := Ground.textOnly Departure.lateStores }, { on := 5, ground := Ground.textOnly Departure.lateStores }, { on := 6, ground := Ground.textOnly Departure.lateStores }, { on := 7, ground := Ground.textOnly Departure.lateStoresUnsure }, { on := 8, ground := Ground.phase }, { on := 9, ground := Ground.phase }], guard := none }) rfl (fun K hK => ?_) ?_
            · rw [if_pos (by rfl)]
              refine wp_store_row 27 _ _ rfl _ #[.int .u64 0, .int .u64 al] rfl rfl 27 #[.int .u64 0, .int .u64 0] ?_ size27 rfl (one2 _ _) ?_
              · repeat' first | with_reducible exact heap_alloc_new _ _ | with_reducible exact heap_alloc2_new _ _ _ | with_reducible refine old_drew ?_ | with_reducible refine old_alloc _ ?_ | with_reducible refine old_row _ (by simp; try omega) ?_ | with_reducible refine old_below (by assumption) ?_
              (try go_wp2_with fail)
              refine hK.out _ _ ?_ (fun hHeld => ?_)
              · (first | exact hS1 | assumption | exact HN.out _ _ (by assumption) (below_alloc (Below.refl _ _) _) | exact HR.out _ _ _ (by assumption) (by first | omega | (simp; try omega)))
              clear hK K
              (try simp only [Act.put, List.setIfInBounds_toArray, List.set_cons_zero, List.set_cons_succ])
              refine wpAnyH_ready (rs := [11]) (by kernel_rfl) (by simp) ?_
              refine AllReadyH.cons (o := { dst := none, op := Op.store 27 (Operand.tmp 8) (Operand.tmp 38), type := 0, pos := "law.go:29", after := #[{ on := 9, ground := Ground.data }, { on := 7, ground := Ground.data }, { on := 10, ground := Ground.chain }, { on := 0, ground := Ground.phase }, { on := 1, ground := Ground.phase }, { on := 2, ground := Ground.phase }, { on := 3, ground := Ground.phase }, { on := 4, ground := Ground.phase }, { on := 5, ground := Ground.phase }, { on := 6, ground := Ground.phase }, { on := 7, ground := Ground.phase }, { on := 8, ground := Ground.phase }, { on := 9, ground := Ground.phase }, { on := 10, ground := Ground.phase }], guard := none }) rfl (fun K hK => ?_) ?_
              · rw [if_pos (by rfl)]
                refine wp_store_row 27 _ _ rfl _ #[.int .u64 bh, .int .u64 bl] rfl rfl 27 #[.int .u64 0, .int .u64 0] ?_ size27 rfl (one2 _ _) ?_
                · repeat' first | with_reducible exact heap_alloc_new _ _ | with_reducible exact heap_alloc2_new _ _ _ | with_reducible refine old_drew ?_ | with_reducible refine old_alloc _ ?_ | with_reducible refine old_row _ (by simp; try omega) ?_ | with_reducible refine old_below (by assumption) ?_
                (try go_wp2_with fail)
                refine hK.out _ _ ?_ (fun hHeld => ?_)
                · (first | exact hS1 | assumption | exact HN.out _ _ (by assumption) (below_alloc (Below.refl _ _) _) | exact HR.out _ _ _ (by assumption) (by first | omega | (simp; try omega)))
                clear hK K
                (try simp only [Act.put, List.setIfInBounds_toArray, List.set_cons_zero, List.set_cons_succ])
                refine wpAnyH_done (by kernel_rfl) (NoPanic.normal ?_) _
                go_wp2_with fail
                go_meet
                case rel =>
                  refine ⟨_, _, rfl, rfl, Boxes.cons (Boxes.cons (And.left (by assumption)) ?_) ?_⟩
                  · with_reducible refine old_row _ (by simp; try omega) ?_
                    refine setRow_heap _ _ #[.int .u64 0, .int .u64 0] _ 27 (0, 0) ?_
                    repeat' first | with_reducible exact heap_alloc_new _ _ | with_reducible exact heap_alloc2_new _ _ _ | with_reducible refine old_drew ?_ | with_reducible refine old_alloc _ ?_ | with_reducible refine old_row _ (by simp; try omega) ?_ | with_reducible refine old_below (by assumption) ?_
                  · refine setRow_heap _ _ #[.int .u64 0, .int .u64 0] _ 27 (0, 0) ?_
                    repeat' first | with_reducible exact heap_alloc_new _ _ | with_reducible exact heap_alloc2_new _ _ _ | with_reducible refine old_drew ?_ | with_reducible refine old_alloc _ ?_ | with_reducible refine old_row _ (by simp; try omega) ?_ | with_reducible refine old_below (by assumption) ?_
              exact AllReadyH.nil
            exact AllReadyH.nil
          exact AllReadyH.nil
        exact AllReadyH.nil
      exact AllReadyH.nil
    refine AllReadyH.cons (o := { dst := some 7, op := Op.alloc 27, type := 0, pos := "law.go:29", after := #[], guard := none }) rfl (fun K hK => ?_) ?_
    · go_simp
      skip
      (try go_wp2_with fail)
      refine hK.out _ _ ?_ (fun hHeld => ?_)
      · (first | exact hS1 | assumption | exact HN.out _ _ (by assumption) (below_alloc (Below.refl _ _) _) | exact HR.out _ _ _ (by assumption) (by first | omega | (simp; try omega)))
      clear hK K
      (try simp only [Act.put, List.setIfInBounds_toArray, List.set_cons_zero, List.set_cons_succ])
      refine wpAnyH_ready (rs := [3, 9]) (by kernel_rfl) (by simp) ?_
      refine AllReadyH.cons (o := { dst := some 34, op := Op.call { callee := Callee.value (Operand.func 29), args := #[Operand.tmp 32, Operand.tmp 33], argTypes := #[22, 22] }, type := 27, pos := "law.go:29", after := #[{ on := 1, ground := Ground.data }, { on := 2, ground := Ground.data }], guard := none }) rfl (fun K hK => ?_) ?_
      · go_simp
        with_reducible refine (C2.out _).mono ?_
        rintro e w1 ⟨rfl, hb1⟩
        have hS1 := HN.out _ _ (by assumption) hb1
        have hsz := hb1.size
        (try simp only [size_alloc, heap_drew] at hsz)
        (try go_wp2_with fail)
        refine hK.out _ _ ?_ (fun hHeld => ?_)
        · (first | exact hS1 | assumption | exact HN.out _ _ (by assumption) (below_alloc (Below.refl _ _) _) | exact HR.out _ _ _ (by assumption) (by first | omega | (simp; try omega)))
        clear hK K
        (try simp only [Act.put, List.setIfInBounds_toArray, List.set_cons_zero, List.set_cons_succ])
        refine wpAnyH_ready (rs := [7, 9]) (by kernel_rfl) (by simp) ?_
        refine AllReadyH.cons (o := { dst := some 38, op := Op.call { callee := Callee.value (Operand.func 29), args := #[Operand.tmp 36, Operand.tmp 37], argTypes := #[22, 22] }, type := 27, pos := "law.go:29", after := #[{ on := 5, ground := Ground.data }, { on := 6, ground := Ground.data }, { on := 3, ground := Ground.chain }], guard := none }) rfl (fun K hK => ?_) ?_
        · go_simp
          with_reducible refine (C3.out _).mono ?_
          rintro e w1 ⟨rfl, hb1⟩
          have hS1 := HN.out _ _ (by assumption) hb1
          have hsz := hb1.size
          (try simp only [size_alloc, heap_drew] at hsz)
          (try go_wp2_with fail)
          refine hK.out _ _ ?_ (fun hHeld => ?_)
          · (first | exact hS1 | assumption | exact HN.out _ _ (by assumption) (below_alloc (Below.refl _ _) _) | exact HR.out _ _ _ (by assumption) (by first | omega | (simp; try omega)))
          clear hK K
          (try simp only [Act.put, List.setIfInBounds_toArray, List.set_cons_zero, List.set_cons_succ])
          refine wpAnyH_ready (rs := [9]) (by kernel_rfl) (by simp) ?_
          refine AllReadyH.cons (o := { dst := some 8, op := Op.alloc 27, type := 0, pos := "law.go:29", after := #[], guard := none }) rfl (fun K hK => ?_) ?_
          · go_simp
            skip
            (try go_wp2_with fail)
            refine hK.out _ _ ?_ (fun hHeld => ?_)
            · (first | exact hS1 | assumption | exact HN.out _ _ (by assumption) (below_alloc (Below.refl _ _) _) | exact HR.out _ _ _ (by assumption) (by first | omega | (simp; try omega)))
            clear hK K
            (try simp only [Act.put, List.setIfInBounds_toArray, List.set_cons_zero, List.set_cons_succ])
            refine wpAnyH_ready (rs := [10]) (by kernel_rfl) (by simp) ?_
            refine AllReadyH.cons (o := { dst := none, op := Op.store 27 (Operand.tmp 7) (Operand.tmp 34), type := 0, pos := "law.go:29", after := #[{ on := 8, ground := Ground.data }, { on := 3, ground := Ground.data }, { on := 7, ground := Ground.chain }, { on := 0, ground := Ground.phase }, { on := 1, ground := Ground.phase }, { on := 2, ground := Ground.phase }, { on := 3, ground := Ground.phase }, { on := 4, ground := Ground.textOnly Departure.lateStores }, { on := 5, ground := Ground.textOnly Departure.lateStores }, { on := 6, ground := Ground.textOnly Departure.lateStores }, { on := 7, ground := Ground.textOnly Departure.lateStoresUnsure }, { on := 8, ground := Ground.phase }, { on := 9, ground := Ground.phase }], guard := none }) rfl (fun K hK => ?_) ?_
            · rw [if_pos (by rfl)]
              refine wp_store_row 27 _ _ rfl _ #[.int .u64 0, .int .u64 al] rfl rfl 27 #[.int .u64 0, .int .u64 0] ?_ size27 rfl (one2 _ _) ?_
              · repeat' first | with_reducible exact heap_alloc_new _ _ | with_reducible exact heap_alloc2_new _ _ _ | with_reducible refine old_drew ?_ | with_reducible refine old_alloc _ ?_ | with_reducible refine old_row _ (by simp; try omega) ?_ | with_reducible refine old_below (by assumption) ?_
              (try go_wp2_with fail)
              refine hK.out _ _ ?_ (fun hHeld => ?_)
              · (first | exact hS1 | assumption | exact HN.out _ _ (by assumption) (below_alloc (Below.refl _ _) _) | exact HR.out _ _ _ (by assumption) (by first | omega | (simp; try omega)))
              clear hK K
              (try simp only [Act.put, List.setIfInBounds_toArray, List.set_cons_zero, List.set_cons_succ])
              refine wpAnyH_ready (rs := [11]) (by kernel_rfl) (by simp) ?_
              refine AllReadyH.cons (o := { dst := none, op := Op.store 27 (Operand.tmp 8) (Operand.tmp 38), type := 0, pos := "law.go:29", after := #[{ on := 9, ground := Ground.data }, { on := 7, ground := Ground.data }, { on := 10, ground := Ground.chain }, { on := 0, ground := Ground.phase }, { on := 1, ground := Ground.phase }, { on := 2, ground := Ground.phase }, { on := 3, ground := Ground.phase }, { on := 4, ground := Ground.phase }, { on := 5, ground := Ground.phase }, { on := 6, ground := Ground.phase }, { on := 7, ground := Ground.phase }, { on := 8, ground := Ground.phase }, { on := 9, ground := Ground.phase }, { on := 10, ground := Ground.phase }], guard := none }) rfl (fun K hK => ?_) ?_
              · rw [if_pos (by rfl)]
                refine wp_store_row 27 _ _ rfl _ #[.int .u64 bh, .int .u64 bl] rfl rfl 27 #[.int .u64 0, .int .u64 0] ?_ size27 rfl (one2 _ _) ?_
                · repeat' first | with_reducible exact heap_alloc_new _ _ | with_reducible exact heap_alloc2_new _ _ _ | with_reducible refine old_drew ?_ | with_reducible refine old_alloc _ ?_ | with_reducible refine old_row _ (by simp; try omega) ?_ | with_reducible refine old_below (by assumption) ?_
                (try go_wp2_with fail)
                refine hK.out _ _ ?_ (fun hHeld => ?_)
                · (first | exact hS1 | assumption | exact HN.out _ _ (by assumption) (below_alloc (Below.refl _ _) _) | exact HR.out _ _ _ (by assumption) (by first | omega | (simp; try omega)))
                clear hK K
                (try simp only [Act.put, List.setIfInBounds_toArray, List.set_cons_zero, List.set_cons_succ])
                refine wpAnyH_done (by kernel_rfl) (NoPanic.normal ?_) _
                go_wp2_with fail
                go_meet
                case rel =>
                  refine ⟨_, _, rfl, rfl, Boxes.cons (Boxes.cons (And.left (by assumption)) ?_) ?_⟩
                  · with_reducible refine old_row _ (by simp; try omega) ?_
                    refine setRow_heap _ _ #[.int .u64 0, .int .u64 0] _ 27 (0, 0) ?_
                    repeat' first | with_reducible exact heap_alloc_new _ _ | with_reducible exact heap_alloc2_new _ _ _ | with_reducible refine old_drew ?_ | with_reducible refine old_alloc _ ?_ | with_reducible refine old_row _ (by simp; try omega) ?_ | with_reducible refine old_below (by assumption) ?_
                  · refine setRow_heap _ _ #[.int .u64 0, .int .u64 0] _ 27 (0, 0) ?_
                    repeat' first | with_reducible exact heap_alloc_new _ _ | with_reducible exact heap_alloc2_new _ _ _ | with_reducible refine old_drew ?_ | with_reducible refine old_alloc _ ?_ | with_reducible refine old_row _ (by simp; try omega) ?_ | with_reducible refine old_below (by assumption) ?_
              exact AllReadyH.nil
            exact AllReadyH.nil
          exact AllReadyH.nil
        refine AllReadyH.cons (o := { dst := some 8, op := Op.alloc 27, type := 0, pos := "law.go:29", after := #[], guard := none }) rfl (fun K hK => ?_) ?_
        · go_simp
          skip
          (try go_wp2_with fail)
          refine hK.out _ _ ?_ (fun hHeld => ?_)
          · (first | exact hS1 | assumption | exact HN.out _ _ (by assumption) (below_alloc (Below.refl _ _) _) | exact HR.out _ _ _ (by assumption) (by first | omega | (simp; try omega)))
          clear hK K
          (try simp only [Act.put, List.setIfInBounds_toArray, List.set_cons_zero, List.set_cons_succ])
          refine wpAnyH_ready (rs := [7]) (by kernel_rfl) (by simp) ?_
          refine AllReadyH.cons (o := { dst := some 38, op := Op.call { callee := Callee.value (Operand.func 29), args := #[Operand.tmp 36, Operand.tmp 37], argTypes := #[22, 22] }, type := 27, pos := "law.go:29", after := #[{ on := 5, ground := Ground.data }, { on := 6, ground := Ground.data }, { on := 3, ground := Ground.chain }], guard := none }) rfl (fun K hK => ?_) ?_
          · go_simp
            with_reducible refine (C3.out _).mono ?_
            rintro e w1 ⟨rfl, hb1⟩
            have hS1 := HN.out _ _ (by assumption) hb1
            have hsz := hb1.size
            (try simp only [size_alloc, heap_drew] at hsz)
            (try go_wp2_with fail)
            refine hK.out _ _ ?_ (fun hHeld => ?_)
            · (first | exact hS1 | assumption | exact HN.out _ _ (by assumption) (below_alloc (Below.refl _ _) _) | exact HR.out _ _ _ (by assumption) (by first | omega | (simp; try omega)))
            clear hK K
            (try simp only [Act.put, List.setIfInBounds_toArray, List.set_cons_zero, List.set_cons_succ])
            refine wpAnyH_ready (rs := [10]) (by kernel_rfl) (by simp) ?_
            refine AllReadyH.cons (o := { dst := none, op := Op.store 27 (Operand.tmp 7) (Operand.tmp 34), type := 0, pos := "law.go:29", after := #[{ on := 8, ground := Ground.data }, { on := 3, ground := Ground.data }, { on := 7, ground := Ground.chain }, { on := 0, ground := Ground.phase }, { on := 1, ground := Ground.phase }, { on := 2, ground := Ground.phase }, { on := 3, ground := Ground.phase }, { on := 4, ground := Ground.textOnly Departure.lateStores }, { on := 5, ground := Ground.textOnly Departure.lateStores }, { on := 6, ground := Ground.textOnly Departure.lateStores }, { on := 7, ground := Ground.textOnly Departure.lateStoresUnsure }, { on := 8, ground := Ground.phase }, { on := 9, ground := Ground.phase }], guard := none }) rfl (fun K hK => ?_) ?_
            · rw [if_pos (by rfl)]
              refine wp_store_row 27 _ _ rfl _ #[.int .u64 0, .int .u64 al] rfl rfl 27 #[.int .u64 0, .int .u64 0] ?_ size27 rfl (one2 _ _) ?_
              · repeat' first | with_reducible exact heap_alloc_new _ _ | with_reducible exact heap_alloc2_new _ _ _ | with_reducible refine old_drew ?_ | with_reducible refine old_alloc _ ?_ | with_reducible refine old_row _ (by simp; try omega) ?_ | with_reducible refine old_below (by assumption) ?_
              (try go_wp2_with fail)
              refine hK.out _ _ ?_ (fun hHeld => ?_)
              · (first | exact hS1 | assumption | exact HN.out _ _ (by assumption) (below_alloc (Below.refl _ _) _) | exact HR.out _ _ _ (by assumption) (by first | omega | (simp; try omega)))
              clear hK K
              (try simp only [Act.put, List.setIfInBounds_toArray, List.set_cons_zero, List.set_cons_succ])
              refine wpAnyH_ready (rs := [11]) (by kernel_rfl) (by simp) ?_
              refine AllReadyH.cons (o := { dst := none, op := Op.store 27 (Operand.tmp 8) (Operand.tmp 38), type := 0, pos := "law.go:29", after := #[{ on := 9, ground := Ground.data }, { on := 7, ground := Ground.data }, { on := 10, ground := Ground.chain }, { on := 0, ground := Ground.phase }, { on := 1, ground := Ground.phase }, { on := 2, ground := Ground.phase }, { on := 3, ground := Ground.phase }, { on := 4, ground := Ground.phase }, { on := 5, ground := Ground.phase }, { on := 6, ground := Ground.phase }, { on := 7, ground := Ground.phase }, { on := 8, ground := Ground.phase }, { on := 9, ground := Ground.phase }, { on := 10, ground := Ground.phase }], guard := none }) rfl (fun K hK => ?_) ?_
              · rw [if_pos (by rfl)]
                refine wp_store_row 27 _ _ rfl _ #[.int .u64 bh, .int .u64 bl] rfl rfl 27 #[.int .u64 0, .int .u64 0] ?_ size27 rfl (one2 _ _) ?_
                · repeat' first | with_reducible exact heap_alloc_new _ _ | with_reducible exact heap_alloc2_new _ _ _ | with_reducible refine old_drew ?_ | with_reducible refine old_alloc _ ?_ | with_reducible refine old_row _ (by simp; try omega) ?_ | with_reducible refine old_below (by assumption) ?_
                (try go_wp2_with fail)
                refine hK.out _ _ ?_ (fun hHeld => ?_)
                · (first | exact hS1 | assumption | exact HN.out _ _ (by assumption) (below_alloc (Below.refl _ _) _) | exact HR.out _ _ _ (by assumption) (by first | omega | (simp; try omega)))
                clear hK K
                (try simp only [Act.put, List.setIfInBounds_toArray, List.set_cons_zero, List.set_cons_succ])
                refine wpAnyH_done (by kernel_rfl) (NoPanic.normal ?_) _
                go_wp2_with fail
                go_meet
                case rel =>
                  refine ⟨_, _, rfl, rfl, Boxes.cons (Boxes.cons (And.left (by assumption)) ?_) ?_⟩
                  · with_reducible refine old_row _ (by simp; try omega) ?_
                    refine setRow_heap _ _ #[.int .u64 0, .int .u64 0] _ 27 (0, 0) ?_
                    repeat' first | with_reducible exact heap_alloc_new _ _ | with_reducible exact heap_alloc2_new _ _ _ | with_reducible refine old_drew ?_ | with_reducible refine old_alloc _ ?_ | with_reducible refine old_row _ (by simp; try omega) ?_ | with_reducible refine old_below (by assumption) ?_
                  · refine setRow_heap _ _ #[.int .u64 0, .int .u64 0] _ 27 (0, 0) ?_
                    repeat' first | with_reducible exact heap_alloc_new _ _ | with_reducible exact heap_alloc2_new _ _ _ | with_reducible refine old_drew ?_ | with_reducible refine old_alloc _ ?_ | with_reducible refine old_row _ (by simp; try omega) ?_ | with_reducible refine old_below (by assumption) ?_
              exact AllReadyH.nil
            exact AllReadyH.nil
          exact AllReadyH.nil
        exact AllReadyH.nil
      refine AllReadyH.cons (o := { dst := some 8, op := Op.alloc 27, type := 0, pos := "law.go:29", after := #[], guard := none }) rfl (fun K hK => ?_) ?_
      · go_simp
        skip
        (try go_wp2_with fail)
        refine hK.out _ _ ?_ (fun hHeld => ?_)
        · (first | exact hS1 | assumption | exact HN.out _ _ (by assumption) (below_alloc (Below.refl _ _) _) | exact HR.out _ _ _ (by assumption) (by first | omega | (simp; try omega)))
        clear hK K
        (try simp only [Act.put, List.setIfInBounds_toArray, List.set_cons_zero, List.set_cons_succ])
        refine wpAnyH_ready (rs := [3]) (by kernel_rfl) (by simp) ?_
        refine AllReadyH.cons (o := { dst := some 34, op := Op.call { callee := Callee.value (Operand.func 29), args := #[Operand.tmp 32, Operand.tmp 33], argTypes := #[22, 22] }, type := 27, pos := "law.go:29", after := #[{ on := 1, ground := Ground.data }, { on := 2, ground := Ground.data }], guard := none }) rfl (fun K hK => ?_) ?_
        · go_simp
          with_reducible refine (C2.out _).mono ?_
          rintro e w1 ⟨rfl, hb1⟩
          have hS1 := HN.out _ _ (by assumption) hb1
          have hsz := hb1.size
          (try simp only [size_alloc, heap_drew] at hsz)
          (try go_wp2_with fail)
          refine hK.out _ _ ?_ (fun hHeld => ?_)
          · (first | exact hS1 | assumption | exact HN.out _ _ (by assumption) (below_alloc (Below.refl _ _) _) | exact HR.out _ _ _ (by assumption) (by first | omega | (simp; try omega)))
          clear hK K
          (try simp only [Act.put, List.setIfInBounds_toArray, List.set_cons_zero, List.set_cons_succ])
          refine wpAnyH_ready (rs := [7]) (by kernel_rfl) (by simp) ?_
          refine AllReadyH.cons (o := { dst := some 38, op := Op.call { callee := Callee.value (Operand.func 29), args := #[Operand.tmp 36, Operand.tmp 37], argTypes := #[22, 22] }, type := 27, pos := "law.go:29", after := #[{ on := 5, ground := Ground.data }, { on := 6, ground := Ground.data }, { on := 3, ground := Ground.chain }], guard := none }) rfl (fun K hK => ?_) ?_
          · go_simp
            with_reducible refine (C3.out _).mono ?_
            rintro e w1 ⟨rfl, hb1⟩
            have hS1 := HN.out _ _ (by assumption) hb1
            have hsz := hb1.size
            (try simp only [size_alloc, heap_drew] at hsz)
            (try go_wp2_with fail)
            refine hK.out _ _ ?_ (fun hHeld => ?_)
            · (first | exact hS1 | assumption | exact HN.out _ _ (by assumption) (below_alloc (Below.refl _ _) _) | exact HR.out _ _ _ (by assumption) (by first | omega | (simp; try omega)))
            clear hK K
            (try simp only [Act.put, List.setIfInBounds_toArray, List.set_cons_zero, List.set_cons_succ])
            refine wpAnyH_ready (rs := [10]) (by kernel_rfl) (by simp) ?_
            refine AllReadyH.cons (o := { dst := none, op := Op.store 27 (Operand.tmp 7) (Operand.tmp 34), type := 0, pos := "law.go:29", after := #[{ on := 8, ground := Ground.data }, { on := 3, ground := Ground.data }, { on := 7, ground := Ground.chain }, { on := 0, ground := Ground.phase }, { on := 1, ground := Ground.phase }, { on := 2, ground := Ground.phase }, { on := 3, ground := Ground.phase }, { on := 4, ground := Ground.textOnly Departure.lateStores }, { on := 5, ground := Ground.textOnly Departure.lateStores }, { on := 6, ground := Ground.textOnly Departure.lateStores }, { on := 7, ground := Ground.textOnly Departure.lateStoresUnsure }, { on := 8, ground := Ground.phase }, { on := 9, ground := Ground.phase }], guard := none }) rfl (fun K hK => ?_) ?_
            · rw [if_pos (by rfl)]
              refine wp_store_row 27 _ _ rfl _ #[.int .u64 0, .int .u64 al] rfl rfl 27 #[.int .u64 0, .int .u64 0] ?_ size27 rfl (one2 _ _) ?_
              · repeat' first | with_reducible exact heap_alloc_new _ _ | with_reducible exact heap_alloc2_new _ _ _ | with_reducible refine old_drew ?_ | with_reducible refine old_alloc _ ?_ | with_reducible refine old_row _ (by simp; try omega) ?_ | with_reducible refine old_below (by assumption) ?_
              (try go_wp2_with fail)
              refine hK.out _ _ ?_ (fun hHeld => ?_)
              · (first | exact hS1 | assumption | exact HN.out _ _ (by assumption) (below_alloc (Below.refl _ _) _) | exact HR.out _ _ _ (by assumption) (by first | omega | (simp; try omega)))
              clear hK K
              (try simp only [Act.put, List.setIfInBounds_toArray, List.set_cons_zero, List.set_cons_succ])
              refine wpAnyH_ready (rs := [11]) (by kernel_rfl) (by simp) ?_
              refine AllReadyH.cons (o := { dst := none, op := Op.store 27 (Operand.tmp 8) (Operand.tmp 38), type := 0, pos := "law.go:29", after := #[{ on := 9, ground := Ground.data }, { on := 7, ground := Ground.data }, { on := 10, ground := Ground.chain }, { on := 0, ground := Ground.phase }, { on := 1, ground := Ground.phase }, { on := 2, ground := Ground.phase }, { on := 3, ground := Ground.phase }, { on := 4, ground := Ground.phase }, { on := 5, ground := Ground.phase }, { on := 6, ground := Ground.phase }, { on := 7, ground := Ground.phase }, { on := 8, ground := Ground.phase }, { on := 9, ground := Ground.phase }, { on := 10, ground := Ground.phase }], guard := none }) rfl (fun K hK => ?_) ?_
              · rw [if_pos (by rfl)]
                refine wp_store_row 27 _ _ rfl _ #[.int .u64 bh, .int .u64 bl] rfl rfl 27 #[.int .u64 0, .int .u64 0] ?_ size27 rfl (one2 _ _) ?_
                · repeat' first | with_reducible exact heap_alloc_new _ _ | with_reducible exact heap_alloc2_new _ _ _ | with_reducible refine old_drew ?_ | with_reducible refine old_alloc _ ?_ | with_reducible refine old_row _ (by simp; try omega) ?_ | with_reducible refine old_below (by assumption) ?_
                (try go_wp2_with fail)
                refine hK.out _ _ ?_ (fun hHeld => ?_)
                · (first | exact hS1 | assumption | exact HN.out _ _ (by assumption) (below_alloc (Below.refl _ _) _) | exact HR.out _ _ _ (by assumption) (by first | omega | (simp; try omega)))
                clear hK K
                (try simp only [Act.put, List.setIfInBounds_toArray, List.set_cons_zero, List.set_cons_succ])
                refine wpAnyH_done (by kernel_rfl) (NoPanic.normal ?_) _
                go_wp2_with fail
                go_meet
                case rel =>
                  refine ⟨_, _, rfl, rfl, Boxes.cons (Boxes.cons (And.left (by assumption)) ?_) ?_⟩
                  · with_reducible refine old_row _ (by simp; try omega) ?_
                    refine setRow_heap _ _ #[.int .u64 0, .int .u64 0] _ 27 (0, 0) ?_
                    repeat' first | with_reducible exact heap_alloc_new _ _ | with_reducible exact heap_alloc2_new _ _ _ | with_reducible refine old_drew ?_ | with_reducible refine old_alloc _ ?_ | with_reducible refine old_row _ (by simp; try omega) ?_ | with_reducible refine old_below (by assumption) ?_
                  · refine setRow_heap _ _ #[.int .u64 0, .int .u64 0] _ 27 (0, 0) ?_
                    repeat' first | with_reducible exact heap_alloc_new _ _ | with_reducible exact heap_alloc2_new _ _ _ | with_reducible refine old_drew ?_ | with_reducible refine old_alloc _ ?_ | with_reducible refine old_row _ (by simp; try omega) ?_ | with_reducible refine old_below (by assumption) ?_
              exact AllReadyH.nil
            exact AllReadyH.nil
          exact AllReadyH.nil
        exact AllReadyH.nil
      exact AllReadyH.nil
    refine AllReadyH.cons (o := { dst := some 8, op := Op.alloc 27, type := 0, pos := "law.go:29", after := #[], guard := none }) rfl (fun K hK => ?_) ?_
    · go_simp
      skip
      (try go_wp2_with fail)
      refine hK.out _ _ ?_ (fun hHeld => ?_)
      · (first | exact hS1 | assumption | exact HN.out _ _ (by assumption) (below_alloc (Below.refl _ _) _) | exact HR.out _ _ _ (by assumption) (by first | omega | (simp; try omega)))
      clear hK K
      (try simp only [Act.put, List.setIfInBounds_toArray, List.set_cons_zero, List.set_cons_succ])
      refine wpAnyH_ready (rs := [3, 8]) (by kernel_rfl) (by simp) ?_
      refine AllReadyH.cons (o := { dst := some 34, op := Op.call { callee := Callee.value (Operand.func 29), args := #[Operand.tmp 32, Operand.tmp 33], argTypes := #[22, 22] }, type := 27, pos := "law.go:29", after := #[{ on := 1, ground := Ground.data }, { on := 2, ground := Ground.data }], guard := none }) rfl (fun K hK => ?_) ?_
      · go_simp
        with_reducible refine (C2.out _).mono ?_
        rintro e w1 ⟨rfl, hb1⟩
        have hS1 := HN.out _ _ (by assumption) hb1
        have hsz := hb1.size
        (try simp only [size_alloc, heap_drew] at hsz)
        (try go_wp2_with fail)
        refine hK.out _ _ ?_ (fun hHeld => ?_)
        · (first | exact hS1 | assumption | exact HN.out _ _ (by assumption) (below_alloc (Below.refl _ _) _) | exact HR.out _ _ _ (by assumption) (by first | omega | (simp; try omega)))
        clear hK K
        (try simp only [Act.put, List.setIfInBounds_toArray, List.set_cons_zero, List.set_cons_succ])
        refine wpAnyH_ready (rs := [7, 8]) (by kernel_rfl) (by simp) ?_
        refine AllReadyH.cons (o := { dst := some 38, op := Op.call { callee := Callee.value (Operand.func 29), args := #[Operand.tmp 36, Operand.tmp 37], argTypes := #[22, 22] }, type := 27, pos := "law.go:29", after := #[{ on := 5, ground := Ground.data }, { on := 6, ground := Ground.data }, { on := 3, ground := Ground.chain }], guard := none }) rfl (fun K hK => ?_) ?_
        · go_simp
          with_reducible refine (C3.out _).mono ?_
          rintro e w1 ⟨rfl, hb1⟩
          have hS1 := HN.out _ _ (by assumption) hb1
          have hsz := hb1.size
          (try simp only [size_alloc, heap_drew] at hsz)
          (try go_wp2_with fail)
          refine hK.out _ _ ?_ (fun hHeld => ?_)
          · (first | exact hS1 | assumption | exact HN.out _ _ (by assumption) (below_alloc (Below.refl _ _) _) | exact HR.out _ _ _ (by assumption) (by first | omega | (simp; try omega)))
          clear hK K
          (try simp only [Act.put, List.setIfInBounds_toArray, List.set_cons_zero, List.set_cons_succ])
          refine wpAnyH_ready (rs := [8]) (by kernel_rfl) (by simp) ?_
          refine AllReadyH.cons (o := { dst := some 7, op := Op.alloc 27, type := 0, pos := "law.go:29", after := #[], guard := none }) rfl (fun K hK => ?_) ?_
          · go_simp
            skip
            (try go_wp2_with fail)
            refine hK.out _ _ ?_ (fun hHeld => ?_)
            · (first | exact hS1 | assumption | exact HN.out _ _ (by assumption) (below_alloc (Below.refl _ _) _) | exact HR.out _ _ _ (by assumption) (by first | omega | (simp; try omega)))
            clear hK K
            (try simp only [Act.put, List.setIfInBounds_toArray, List.set_cons_zero, List.set_cons_succ])
            refine wpAnyH_ready (rs := [10]) (by kernel_rfl) (by simp) ?_
            refine AllReadyH.cons (o := { dst := none, op := Op.store 27 (Operand.tmp 7) (Operand.tmp 34), type := 0, pos := "law.go:29", after := #[{ on := 8, ground := Ground.data }, { on := 3, ground := Ground.data }, { on := 7, ground := Ground.chain }, { on := 0, ground := Ground.phase }, { on := 1, ground := Ground.phase }, { on := 2, ground := Ground.phase }, { on := 3, ground := Ground.phase }, { on := 4, ground := Ground.textOnly Departure.lateStores }, { on := 5, ground := Ground.textOnly Departure.lateStores }, { on := 6, ground := Ground.textOnly Departure.lateStores }, { on := 7, ground := Ground.textOnly Departure.lateStoresUnsure }, { on := 8, ground := Ground.phase }, { on := 9, ground := Ground.phase }], guard := none }) rfl (fun K hK => ?_) ?_
            · rw [if_pos (by rfl)]
              refine wp_store_row 27 _ _ rfl _ #[.int .u64 0, .int .u64 al] rfl rfl 27 #[.int .u64 0, .int .u64 0] ?_ size27 rfl (one2 _ _) ?_
              · repeat' first | with_reducible exact heap_alloc_new _ _ | with_reducible exact heap_alloc2_new _ _ _ | with_reducible refine old_drew ?_ | with_reducible refine old_alloc _ ?_ | with_reducible refine old_row _ (by simp; try omega) ?_ | with_reducible refine old_below (by assumption) ?_
              (try go_wp2_with fail)
              refine hK.out _ _ ?_ (fun hHeld => ?_)
              · (first | exact hS1 | assumption | exact HN.out _ _ (by assumption) (below_alloc (Below.refl _ _) _) | exact HR.out _ _ _ (by assumption) (by first | omega | (simp; try omega)))
              clear hK K
              (try simp only [Act.put, List.setIfInBounds_toArray, List.set_cons_zero, List.set_cons_succ])
              refine wpAnyH_ready (rs := [11]) (by kernel_rfl) (by simp) ?_
              refine AllReadyH.cons (o := { dst := none, op := Op.store 27 (Operand.tmp 8) (Operand.tmp 38), type := 0, pos := "law.go:29", after := #[{ on := 9, ground := Ground.data }, { on := 7, ground := Ground.data }, { on := 10, ground := Ground.chain }, { on := 0, ground := Ground.phase }, { on := 1, ground := Ground.phase }, { on := 2, ground := Ground.phase }, { on := 3, ground := Ground.phase }, { on := 4, ground := Ground.phase }, { on := 5, ground := Ground.phase }, { on := 6, ground := Ground.phase }, { on := 7, ground := Ground.phase }, { on := 8, ground := Ground.phase }, { on := 9, ground := Ground.phase }, { on := 10, ground := Ground.phase }], guard := none }) rfl (fun K hK => ?_) ?_
              · rw [if_pos (by rfl)]
                refine wp_store_row 27 _ _ rfl _ #[.int .u64 bh, .int .u64 bl] rfl rfl 27 #[.int .u64 0, .int .u64 0] ?_ size27 rfl (one2 _ _) ?_
                · repeat' first | with_reducible exact heap_alloc_new _ _ | with_reducible exact heap_alloc2_new _ _ _ | with_reducible refine old_drew ?_ | with_reducible refine old_alloc _ ?_ | with_reducible refine old_row _ (by simp; try omega) ?_ | with_reducible refine old_below (by assumption) ?_
                (try go_wp2_with fail)
                refine hK.out _ _ ?_ (fun hHeld => ?_)
                · (first | exact hS1 | assumption | exact HN.out _ _ (by assumption) (below_alloc (Below.refl _ _) _) | exact HR.out _ _ _ (by assumption) (by first | omega | (simp; try omega)))
                clear hK K
                (try simp only [Act.put, List.setIfInBounds_toArray, List.set_cons_zero, List.set_cons_succ])
                refine wpAnyH_done (by kernel_rfl) (NoPanic.normal ?_) _
                go_wp2_with fail
                go_meet
                case rel =>
                  refine ⟨_, _, rfl, rfl, Boxes.cons (Boxes.cons (And.left (by assumption)) ?_) ?_⟩
                  · with_reducible refine old_row _ (by simp; try omega) ?_
                    refine setRow_heap _ _ #[.int .u64 0, .int .u64 0] _ 27 (0, 0) ?_
                    repeat' first | with_reducible exact heap_alloc_new _ _ | with_reducible exact heap_alloc2_new _ _ _ | with_reducible refine old_drew ?_ | with_reducible refine old_alloc _ ?_ | with_reducible refine old_row _ (by simp; try omega) ?_ | with_reducible refine old_below (by assumption) ?_
                  · refine setRow_heap _ _ #[.int .u64 0, .int .u64 0] _ 27 (0, 0) ?_
                    repeat' first | with_reducible exact heap_alloc_new _ _ | with_reducible exact heap_alloc2_new _ _ _ | with_reducible refine old_drew ?_ | with_reducible refine old_alloc _ ?_ | with_reducible refine old_row _ (by simp; try omega) ?_ | with_reducible refine old_below (by assumption) ?_
              exact AllReadyH.nil
            exact AllReadyH.nil
          exact AllReadyH.nil
        refine AllReadyH.cons (o := { dst := some 7, op := Op.alloc 27, type := 0, pos := "law.go:29", after := #[], guard := none }) rfl (fun K hK => ?_) ?_
        · go_simp
          skip
          (try go_wp2_with fail)
          refine hK.out _ _ ?_ (fun hHeld => ?_)
          · (first | exact hS1 | assumption | exact HN.out _ _ (by assumption) (below_alloc (Below.refl _ _) _) | exact HR.out _ _ _ (by assumption) (by first | omega | (simp; try omega)))
          clear hK K
          (try simp only [Act.put, List.setIfInBounds_toArray, List.set_cons_zero, List.set_cons_succ])
          refine wpAnyH_ready (rs := [7]) (by kernel_rfl) (by simp) ?_
          refine AllReadyH.cons (o := { dst := some 38, op := Op.call { callee := Callee.value (Operand.func 29), args := #[Operand.tmp 36, Operand.tmp 37], argTypes := #[22, 22] }, type := 27, pos := "law.go:29", after := #[{ on := 5, ground := Ground.data }, { on := 6, ground := Ground.data }, { on := 3, ground := Ground.chain }], guard := none }) rfl (fun K hK => ?_) ?_
          · go_simp
            with_reducible refine (C3.out _).mono ?_
            rintro e w1 ⟨rfl, hb1⟩
            have hS1 := HN.out _ _ (by assumption) hb1
            have hsz := hb1.size
            (try simp only [size_alloc, heap_drew] at hsz)
            (try go_wp2_with fail)
            refine hK.out _ _ ?_ (fun hHeld => ?_)
            · (first | exact hS1 | assumption | exact HN.out _ _ (by assumption) (below_alloc (Below.refl _ _) _) | exact HR.out _ _ _ (by assumption) (by first | omega | (simp; try omega)))
            clear hK K
            (try simp only [Act.put, List.setIfInBounds_toArray, List.set_cons_zero, List.set_cons_succ])
            refine wpAnyH_ready (rs := [10]) (by kernel_rfl) (by simp) ?_
            refine AllReadyH.cons (o := { dst := none, op := Op.store 27 (Operand.tmp 7) (Operand.tmp 34), type := 0, pos := "law.go:29", after := #[{ on := 8, ground := Ground.data }, { on := 3, ground := Ground.data }, { on := 7, ground := Ground.chain }, { on := 0, ground := Ground.phase }, { on := 1, ground := Ground.phase }, { on := 2, ground := Ground.phase }, { on := 3, ground := Ground.phase }, { on := 4, ground := Ground.textOnly Departure.lateStores }, { on := 5, ground := Ground.textOnly Departure.lateStores }, { on := 6, ground := Ground.textOnly Departure.lateStores }, { on := 7, ground := Ground.textOnly Departure.lateStoresUnsure }, { on := 8, ground := Ground.phase }, { on := 9, ground := Ground.phase }], guard := none }) rfl (fun K hK => ?_) ?_
            · rw [if_pos (by rfl)]
              refine wp_store_row 27 _ _ rfl _ #[.int .u64 0, .int .u64 al] rfl rfl 27 #[.int .u64 0, .int .u64 0] ?_ size27 rfl (one2 _ _) ?_
              · repeat' first | with_reducible exact heap_alloc_new _ _ | with_reducible exact heap_alloc2_new _ _ _ | with_reducible refine old_drew ?_ | with_reducible refine old_alloc _ ?_ | with_reducible refine old_row _ (by simp; try omega) ?_ | with_reducible refine old_below (by assumption) ?_
              (try go_wp2_with fail)
              refine hK.out _ _ ?_ (fun hHeld => ?_)
              · (first | exact hS1 | assumption | exact HN.out _ _ (by assumption) (below_alloc (Below.refl _ _) _) | exact HR.out _ _ _ (by assumption) (by first | omega | (simp; try omega)))
              clear hK K
              (try simp only [Act.put, List.setIfInBounds_toArray, List.set_cons_zero, List.set_cons_succ])
              refine wpAnyH_ready (rs := [11]) (by kernel_rfl) (by simp) ?_
              refine AllReadyH.cons (o := { dst := none, op := Op.store 27 (Operand.tmp 8) (Operand.tmp 38), type := 0, pos := "law.go:29", after := #[{ on := 9, ground := Ground.data }, { on := 7, ground := Ground.data }, { on := 10, ground := Ground.chain }, { on := 0, ground := Ground.phase }, { on := 1, ground := Ground.phase }, { on := 2, ground := Ground.phase }, { on := 3, ground := Ground.phase }, { on := 4, ground := Ground.phase }, { on := 5, ground := Ground.phase }, { on := 6, ground := Ground.phase }, { on := 7, ground := Ground.phase }, { on := 8, ground := Ground.phase }, { on := 9, ground := Ground.phase }, { on := 10, ground := Ground.phase }], guard := none }) rfl (fun K hK => ?_) ?_
              · rw [if_pos (by rfl)]
                refine wp_store_row 27 _ _ rfl _ #[.int .u64 bh, .int .u64 bl] rfl rfl 27 #[.int .u64 0, .int .u64 0] ?_ size27 rfl (one2 _ _) ?_
                · repeat' first | with_reducible exact heap_alloc_new _ _ | with_reducible exact heap_alloc2_new _ _ _ | with_reducible refine old_drew ?_ | with_reducible refine old_alloc _ ?_ | with_reducible refine old_row _ (by simp; try omega) ?_ | with_reducible refine old_below (by assumption) ?_
                (try go_wp2_with fail)
                refine hK.out _ _ ?_ (fun hHeld => ?_)
                · (first | exact hS1 | assumption | exact HN.out _ _ (by assumption) (below_alloc (Below.refl _ _) _) | exact HR.out _ _ _ (by assumption) (by first | omega | (simp; try omega)))
                clear hK K
                (try simp only [Act.put, List.setIfInBounds_toArray, List.set_cons_zero, List.set_cons_succ])
                refine wpAnyH_done (by kernel_rfl) (NoPanic.normal ?_) _
                go_wp2_with fail
                go_meet
                case rel =>
                  refine ⟨_, _, rfl, rfl, Boxes.cons (Boxes.cons (And.left (by assumption)) ?_) ?_⟩
                  · with_reducible refine old_row _ (by simp; try omega) ?_
                    refine setRow_heap _ _ #[.int .u64 0, .int .u64 0] _ 27 (0, 0) ?_
                    repeat' first | with_reducible exact heap_alloc_new _ _ | with_reducible exact heap_alloc2_new _ _ _ | with_reducible refine old_drew ?_ | with_reducible refine old_alloc _ ?_ | with_reducible refine old_row _ (by simp; try omega) ?_ | with_reducible refine old_below (by assumption) ?_
                  · refine setRow_heap _ _ #[.int .u64 0, .int .u64 0] _ 27 (0, 0) ?_
                    repeat' first | with_reducible exact heap_alloc_new _ _ | with_reducible exact heap_alloc2_new _ _ _ | with_reducible refine old_drew ?_ | with_reducible refine old_alloc _ ?_ | with_reducible refine old_row _ (by simp; try omega) ?_ | with_reducible refine old_below (by assumption) ?_
              exact AllReadyH.nil
            exact AllReadyH.nil
          exact AllReadyH.nil
        exact AllReadyH.nil
      refine AllReadyH.cons (o := { dst := some 7, op := Op.alloc 27, type := 0, pos := "law.go:29", after := #[], guard := none }) rfl (fun K hK => ?_) ?_
      · go_simp
        skip
        (try go_wp2_with fail)
        refine hK.out _ _ ?_ (fun hHeld => ?_)
        · (first | exact hS1 | assumption | exact HN.out _ _ (by assumption) (below_alloc (Below.refl _ _) _) | exact HR.out _ _ _ (by assumption) (by first | omega | (simp; try omega)))
        clear hK K
        (try simp only [Act.put, List.setIfInBounds_toArray, List.set_cons_zero, List.set_cons_succ])
        refine wpAnyH_ready (rs := [3]) (by kernel_rfl) (by simp) ?_
        refine AllReadyH.cons (o := { dst := some 34, op := Op.call { callee := Callee.value (Operand.func 29), args := #[Operand.tmp 32, Operand.tmp 33], argTypes := #[22, 22] }, type := 27, pos := "law.go:29", after := #[{ on := 1, ground := Ground.data }, { on := 2, ground := Ground.data }], guard := none }) rfl (fun K hK => ?_) ?_
        · go_simp
          with_reducible refine (C2.out _).mono ?_
          rintro e w1 ⟨rfl, hb1⟩
          have hS1 := HN.out _ _ (by assumption) hb1
          have hsz := hb1.size
          (try simp only [size_alloc, heap_drew] at hsz)
          (try go_wp2_with fail)
          refine hK.out _ _ ?_ (fun hHeld => ?_)
          · (first | exact hS1 | assumption | exact HN.out _ _ (by assumption) (below_alloc (Below.refl _ _) _) | exact HR.out _ _ _ (by assumption) (by first | omega | (simp; try omega)))
          clear hK K
          (try simp only [Act.put, List.setIfInBounds_toArray, List.set_cons_zero, List.set_cons_succ])
          refine wpAnyH_ready (rs := [7]) (by kernel_rfl) (by simp) ?_
          refine AllReadyH.cons (o := { dst := some 38, op := Op.call { callee := Callee.value (Operand.func 29), args := #[Operand.tmp 36, Operand.tmp 37], argTypes := #[22, 22] }, type := 27, pos := "law.go:29", after := #[{ on := 5, ground := Ground.data }, { on := 6, ground := Ground.data }, { on := 3, ground := Ground.chain }], guard := none }) rfl (fun K hK => ?_) ?_
          · go_simp
            with_reducible refine (C3.out _).mono ?_
            rintro e w1 ⟨rfl, hb1⟩
            have hS1 := HN.out _ _ (by assumption) hb1
            have hsz := hb1.size
            (try simp only [size_alloc, heap_drew] at hsz)
            (try go_wp2_with fail)
            refine hK.out _ _ ?_ (fun hHeld => ?_)
            · (first | exact hS1 | assumption | exact HN.out _ _ (by assumption) (below_alloc (Below.refl _ _) _) | exact HR.out _ _ _ (by assumption) (by first | omega | (simp; try omega)))
            clear hK K
            (try simp only [Act.put, List.setIfInBounds_toArray, List.set_cons_zero, List.set_cons_succ])
            refine wpAnyH_ready (rs := [10]) (by kernel_rfl) (by simp) ?_
            refine AllReadyH.cons (o := { dst := none, op := Op.store 27 (Operand.tmp 7) (Operand.tmp 34), type := 0, pos := "law.go:29", after := #[{ on := 8, ground := Ground.data }, { on := 3, ground := Ground.data }, { on := 7, ground := Ground.chain }, { on := 0, ground := Ground.phase }, { on := 1, ground := Ground.phase }, { on := 2, ground := Ground.phase }, { on := 3, ground := Ground.phase }, { on := 4, ground := Ground.textOnly Departure.lateStores }, { on := 5, ground := Ground.textOnly Departure.lateStores }, { on := 6, ground := Ground.textOnly Departure.lateStores }, { on := 7, ground := Ground.textOnly Departure.lateStoresUnsure }, { on := 8, ground := Ground.phase }, { on := 9, ground := Ground.phase }], guard := none }) rfl (fun K hK => ?_) ?_
            · rw [if_pos (by rfl)]
              refine wp_store_row 27 _ _ rfl _ #[.int .u64 0, .int .u64 al] rfl rfl 27 #[.int .u64 0, .int .u64 0] ?_ size27 rfl (one2 _ _) ?_
              · repeat' first | with_reducible exact heap_alloc_new _ _ | with_reducible exact heap_alloc2_new _ _ _ | with_reducible refine old_drew ?_ | with_reducible refine old_alloc _ ?_ | with_reducible refine old_row _ (by simp; try omega) ?_ | with_reducible refine old_below (by assumption) ?_
              (try go_wp2_with fail)
              refine hK.out _ _ ?_ (fun hHeld => ?_)
              · (first | exact hS1 | assumption | exact HN.out _ _ (by assumption) (below_alloc (Below.refl _ _) _) | exact HR.out _ _ _ (by assumption) (by first | omega | (simp; try omega)))
              clear hK K
              (try simp only [Act.put, List.setIfInBounds_toArray, List.set_cons_zero, List.set_cons_succ])
              refine wpAnyH_ready (rs := [11]) (by kernel_rfl) (by simp) ?_
              refine AllReadyH.cons (o := { dst := none, op := Op.store 27 (Operand.tmp 8) (Operand.tmp 38), type := 0, pos := "law.go:29", after := #[{ on := 9, ground := Ground.data }, { on := 7, ground := Ground.data }, { on := 10, ground := Ground.chain }, { on := 0, ground := Ground.phase }, { on := 1, ground := Ground.phase }, { on := 2, ground := Ground.phase }, { on := 3, ground := Ground.phase }, { on := 4, ground := Ground.phase }, { on := 5, ground := Ground.phase }, { on := 6, ground := Ground.phase }, { on := 7, ground := Ground.phase }, { on := 8, ground := Ground.phase }, { on := 9, ground := Ground.phase }, { on := 10, ground := Ground.phase }], guard := none }) rfl (fun K hK => ?_) ?_
              · rw [if_pos (by rfl)]
                refine wp_store_row 27 _ _ rfl _ #[.int .u64 bh, .int .u64 bl] rfl rfl 27 #[.int .u64 0, .int .u64 0] ?_ size27 rfl (one2 _ _) ?_
                · repeat' first | with_reducible exact heap_alloc_new _ _ | with_reducible exact heap_alloc2_new _ _ _ | with_reducible refine old_drew ?_ | with_reducible refine old_alloc _ ?_ | with_reducible refine old_row _ (by simp; try omega) ?_ | with_reducible refine old_below (by assumption) ?_
                (try go_wp2_with fail)
                refine hK.out _ _ ?_ (fun hHeld => ?_)
                · (first | exact hS1 | assumption | exact HN.out _ _ (by assumption) (below_alloc (Below.refl _ _) _) | exact HR.out _ _ _ (by assumption) (by first | omega | (simp; try omega)))
                clear hK K
                (try simp only [Act.put, List.setIfInBounds_toArray, List.set_cons_zero, List.set_cons_succ])
                refine wpAnyH_done (by kernel_rfl) (NoPanic.normal ?_) _
                go_wp2_with fail
                go_meet
                case rel =>
                  refine ⟨_, _, rfl, rfl, Boxes.cons (Boxes.cons (And.left (by assumption)) ?_) ?_⟩
                  · with_reducible refine old_row _ (by simp; try omega) ?_
                    refine setRow_heap _ _ #[.int .u64 0, .int .u64 0] _ 27 (0, 0) ?_
                    repeat' first | with_reducible exact heap_alloc_new _ _ | with_reducible exact heap_alloc2_new _ _ _ | with_reducible refine old_drew ?_ | with_reducible refine old_alloc _ ?_ | with_reducible refine old_row _ (by simp; try omega) ?_ | with_reducible refine old_below (by assumption) ?_
                  · refine setRow_heap _ _ #[.int .u64 0, .int .u64 0] _ 27 (0, 0) ?_
                    repeat' first | with_reducible exact heap_alloc_new _ _ | with_reducible exact heap_alloc2_new _ _ _ | with_reducible refine old_drew ?_ | with_reducible refine old_alloc _ ?_ | with_reducible refine old_row _ (by simp; try omega) ?_ | with_reducible refine old_below (by assumption) ?_
              exact AllReadyH.nil
            exact AllReadyH.nil
          exact AllReadyH.nil
        exact AllReadyH.nil
      exact AllReadyH.nil
    exact AllReadyH.nil
  case rest =>
    obtain ⟨b7, b8, rfl, rfl, hX⟩ := hcut
    have HX2 := Lib.hid hX
    clear hX HX1
    generalize wc = w2 at *
    obtain ⟨⟨r0, s0⟩, -, -⟩ := HX2.out.at (b8) 27 bh bl (by simp)
    obtain ⟨⟨r1, s1⟩, -, -⟩ := HX2.out.at (b7) 27 0 al (by simp)
    obtain ⟨⟨r2, s2⟩, -, -⟩ := HX2.out.at (c1) 24 qh ql (by simp)
    obtain ⟨⟨r3, s3⟩, -, -⟩ := HX2.out.at (w.heap.size) 24 xh xl (by simp)
    go_wp2_with (first
      | (go_at_call 20; with_reducible refine (C4.out _).mono ?_; rintro e v3 ⟨rfl, hb1⟩
         have HY3 := Lib.hid (HX2.out.next hb1)
         clear hb1 r0 s0 r1 s1 r2 s2 r3 s3 HX2)
      | (obtain ⟨w3, hw⟩ : ∃ w3, v3.alloc (.cells #[.int .u64 sh, .int .u64 sl] 27) = w3 := ⟨_, rfl⟩
         rewrite [hw]
         have HX3 : Hid (Boxes w w3 [(v3.heap.size, 27, sh, sl), (b8, 27, bh, bl), (b7, 27, 0, al), (c1, 24, qh, ql), (w.heap.size, 24, xh, xl)]) := by rewrite [← hw]; exact HY3.out.new 27 sh sl
         clear hw HY3
         generalize v3.heap.size = c3 at *
         obtain ⟨⟨r0, s0⟩, -, -⟩ := HX3.out.at (c3) 27 sh sl (by simp)
         obtain ⟨⟨r1, s1⟩, -, -⟩ := HX3.out.at (b8) 27 bh bl (by simp)
         obtain ⟨⟨r2, s2⟩, -, -⟩ := HX3.out.at (b7) 27 0 al (by simp)
         obtain ⟨⟨r3, s3⟩, -, -⟩ := HX3.out.at (c1) 24 qh ql (by simp)
         obtain ⟨⟨r4, s4⟩, -, -⟩ := HX3.out.at (w.heap.size) 24 xh xl (by simp))
      | (go_at_call 20; with_reducible refine (C5.out _).mono ?_; rintro e v4 ⟨rfl, hb1⟩
         have HY4 := Lib.hid (HX3.out.next hb1)
         clear hb1 r0 s0 r1 s1 r2 s2 r3 s3 r4 s4 HX3)
      | (obtain ⟨w4, hw⟩ : ∃ w4, v4.alloc (.cells #[.int .u64 xh, .int .u64 xl] 27) = w4 := ⟨_, rfl⟩
         rewrite [hw]
         have HX4 : Hid (Boxes w w4 [(v4.heap.size, 27, xh, xl), (c3, 27, sh, sl), (b8, 27, bh, bl), (b7, 27, 0, al), (c1, 24, qh, ql), (w.heap.size, 24, xh, xl)]) := by rewrite [← hw]; exact HY4.out.new 27 xh xl
         clear hw HY4
         generalize v4.heap.size = c4 at *
         obtain ⟨⟨r0, s0⟩, -, -⟩ := HX4.out.at (c4) 27 xh xl (by simp)
         obtain ⟨⟨r1, s1⟩, -, -⟩ := HX4.out.at (c3) 27 sh sl (by simp)
         obtain ⟨⟨r2, s2⟩, -, -⟩ := HX4.out.at (b8) 27 bh bl (by simp)
         obtain ⟨⟨r3, s3⟩, -, -⟩ := HX4.out.at (b7) 27 0 al (by simp)
         obtain ⟨⟨r4, s4⟩, -, -⟩ := HX4.out.at (c1) 24 qh ql (by simp)
         obtain ⟨⟨r5, s5⟩, -, -⟩ := HX4.out.at (w.heap.size) 24 xh xl (by simp)))
    have HNk : ∀ W, Boxes w W [(c4, 27, xh, xl), (c3, 27, sh, sl), (b8, 27, bh, bl), (b7, 27, 0, al), (c1, 24, qh, ql), (w.heap.size, 24, xh, xl)] → (Boxes w W [(c4, 27, xh, xl), (c3, 27, sh, sl), (b8, 27, bh, bl), (b7, 27, 0, al), (c1, 24, qh, ql), (w.heap.size, 24, xh, xl)] ∧ (W.cell? ⟨c4, 0, none⟩ = some (.int .u64 xh) ∧ W.cell? ⟨c4, 1, none⟩ = some (.int .u64 xl)) ∧ (W.cell? ⟨c3, 0, none⟩ = some (.int .u64 sh) ∧ W.cell? ⟨c3, 1, none⟩ = some (.int .u64 sl)) ∧ (W.cell? ⟨b8, 0, none⟩ = some (.int .u64 bh) ∧ W.cell? ⟨b8, 1, none⟩ = some (.int .u64 bl)) ∧ (W.cell? ⟨b7, 0, none⟩ = some (.int .u64 0) ∧ W.cell? ⟨b7, 1, none⟩ = some (.int .u64 al)) ∧ (W.cell? ⟨c1, 0, none⟩ = some (.int .u64 qh) ∧ W.cell? ⟨c1, 1, none⟩ = some (.int .u64 ql)) ∧ (W.cell? ⟨w.heap.size, 0, none⟩ = some (.int .u64 xh) ∧ W.cell? ⟨w.heap.size, 1, none⟩ = some (.int .u64 xl))) := fun W h => ⟨h, two_cells (h.all (c4, 27, xh, xl) (by simp)), two_cells (h.all (c3, 27, sh, sl) (by simp)), two_cells (h.all (b8, 27, bh, bl) (by simp)), two_cells (h.all (b7, 27, 0, al) (by simp)), two_cells (h.all (c1, 24, qh, ql) (by simp)), two_cells (h.all (w.heap.size, 24, xh, xl) (by simp))⟩
    have HN : Hid (∀ W V, (Boxes w W [(c4, 27, xh, xl), (c3, 27, sh, sl), (b8, 27, bh, bl), (b7, 27, 0, al), (c1, 24, qh, ql), (w.heap.size, 24, xh, xl)] ∧ (W.cell? ⟨c4, 0, none⟩ = some (.int .u64 xh) ∧ W.cell? ⟨c4, 1, none⟩ = some (.int .u64 xl)) ∧ (W.cell? ⟨c3, 0, none⟩ = some (.int .u64 sh) ∧ W.cell? ⟨c3, 1, none⟩ = some (.int .u64 sl)) ∧ (W.cell? ⟨b8, 0, none⟩ = some (.int .u64 bh) ∧ W.cell? ⟨b8, 1, none⟩ = some (.int .u64 bl)) ∧ (W.cell? ⟨b7, 0, none⟩ = some (.int .u64 0) ∧ W.cell? ⟨b7, 1, none⟩ = some (.int .u64 al)) ∧ (W.cell? ⟨c1, 0, none⟩ = some (.int .u64 qh) ∧ W.cell? ⟨c1, 1, none⟩ = some (.int .u64 ql)) ∧ (W.cell? ⟨w.heap.size, 0, none⟩ = some (.int .u64 xh) ∧ W.cell? ⟨w.heap.size, 1, none⟩ = some (.int .u64 xl))) → Below W.heap.size W V → (Boxes w V [(c4, 27, xh, xl), (c3, 27, sh, sl), (b8, 27, bh, bl), (b7, 27, 0, al), (c1, 24, qh, ql), (w.heap.size, 24, xh, xl)] ∧ (V.cell? ⟨c4, 0, none⟩ = some (.int .u64 xh) ∧ V.cell? ⟨c4, 1, none⟩ = some (.int .u64 xl)) ∧ (V.cell? ⟨c3, 0, none⟩ = some (.int .u64 sh) ∧ V.cell? ⟨c3, 1, none⟩ = some (.int .u64 sl)) ∧ (V.cell? ⟨b8, 0, none⟩ = some (.int .u64 bh) ∧ V.cell? ⟨b8, 1, none⟩ = some (.int .u64 bl)) ∧ (V.cell? ⟨b7, 0, none⟩ = some (.int .u64 0) ∧ V.cell? ⟨b7, 1, none⟩ = some (.int .u64 al)) ∧ (V.cell? ⟨c1, 0, none⟩ = some (.int .u64 qh) ∧ V.cell? ⟨c1, 1, none⟩ = some (.int .u64 ql)) ∧ (V.cell? ⟨w.heap.size, 0, none⟩ = some (.int .u64 xh) ∧ V.cell? ⟨w.heap.size, 1, none⟩ = some (.int .u64 xl)))) := fun W V h hb => HNk _ (h.1.next hb)
    have HS0 : Hid (Boxes w w4.drew [(c4, 27, xh, xl), (c3, 27, sh, sl), (b8, 27, bh, bl), (b7, 27, 0, al), (c1, 24, qh, ql), (w.heap.size, 24, xh, xl)] ∧ (w4.drew.cell? ⟨c4, 0, none⟩ = some (.int .u64 xh) ∧ w4.drew.cell? ⟨c4, 1, none⟩ = some (.int .u64 xl)) ∧ (w4.drew.cell? ⟨c3, 0, none⟩ = some (.int .u64 sh) ∧ w4.drew.cell? ⟨c3, 1, none⟩ = some (.int .u64 sl)) ∧ (w4.drew.cell? ⟨b8, 0, none⟩ = some (.int .u64 bh) ∧ w4.drew.cell? ⟨b8, 1, none⟩ = some (.int .u64 bl)) ∧ (w4.drew.cell? ⟨b7, 0, none⟩ = some (.int .u64 0) ∧ w4.drew.cell? ⟨b7, 1, none⟩ = some (.int .u64 al)) ∧ (w4.drew.cell? ⟨c1, 0, none⟩ = some (.int .u64 qh) ∧ w4.drew.cell? ⟨c1, 1, none⟩ = some (.int .u64 ql)) ∧ (w4.drew.cell? ⟨w.heap.size, 0, none⟩ = some (.int .u64 xh) ∧ w4.drew.cell? ⟨w.heap.size, 1, none⟩ = some (.int .u64 xl))) := HNk _ (HX4.out.next ⟨rfl, rfl, rfl, Nat.le_refl _, fun _ _ => rfl⟩)
    have HF : Hid (∀ W, (Boxes w W [(c4, 27, xh, xl), (c3, 27, sh, sl), (b8, 27, bh, bl), (b7, 27, 0, al), (c1, 24, qh, ql), (w.heap.size, 24, xh, xl)] ∧ (W.cell? ⟨c4, 0, none⟩ = some (.int .u64 xh) ∧ W.cell? ⟨c4, 1, none⟩ = some (.int .u64 xl)) ∧ (W.cell? ⟨c3, 0, none⟩ = some (.int .u64 sh) ∧ W.cell? ⟨c3, 1, none⟩ = some (.int .u64 sl)) ∧ (W.cell? ⟨b8, 0, none⟩ = some (.int .u64 bh) ∧ W.cell? ⟨b8, 1, none⟩ = some (.int .u64 bl)) ∧ (W.cell? ⟨b7, 0, none⟩ = some (.int .u64 0) ∧ W.cell? ⟨b7, 1, none⟩ = some (.int .u64 al)) ∧ (W.cell? ⟨c1, 0, none⟩ = some (.int .u64 qh) ∧ W.cell? ⟨c1, 1, none⟩ = some (.int .u64 ql)) ∧ (W.cell? ⟨w.heap.size, 0, none⟩ = some (.int .u64 xh) ∧ W.cell? ⟨w.heap.size, 1, none⟩ = some (.int .u64 xl))) → Below w.heap.size w W) := fun W h => h.1.below
    clear HNk r0 s0 r1 s1 r2 s2 r3 s3 r4 s4 r5 s5
    go_region_held3 (fun W => Boxes w W [(c4, 27, xh, xl), (c3, 27, sh, sl), (b8, 27, bh, bl), (b7, 27, 0, al), (c1, 24, qh, ql), (w.heap.size, 24, xh, xl)] ∧ (W.cell? ⟨c4, 0, none⟩ = some (.int .u64 xh) ∧ W.cell? ⟨c4, 1, none⟩ = some (.int .u64 xl)) ∧ (W.cell? ⟨c3, 0, none⟩ = some (.int .u64 sh) ∧ W.cell? ⟨c3, 1, none⟩ = some (.int .u64 sl)) ∧ (W.cell? ⟨b8, 0, none⟩ = some (.int .u64 bh) ∧ W.cell? ⟨b8, 1, none⟩ = some (.int .u64 bl)) ∧ (W.cell? ⟨b7, 0, none⟩ = some (.int .u64 0) ∧ W.cell? ⟨b7, 1, none⟩ = some (.int .u64 al)) ∧ (W.cell? ⟨c1, 0, none⟩ = some (.int .u64 qh) ∧ W.cell? ⟨c1, 1, none⟩ = some (.int .u64 ql)) ∧ (W.cell? ⟨w.heap.size, 0, none⟩ = some (.int .u64 xh) ∧ W.cell? ⟨w.heap.size, 1, none⟩ = some (.int .u64 xl))) (first | exact HS0.out | assumption)
      (first
        | (go_at_call 54; with_reducible refine (alive12_any _).mono ?_; rintro e w1 ⟨rfl, hb1⟩; have hS1 := HN.out _ _ (by assumption) hb1; clear hb1)
        | (go_at_call 21; with_reducible refine (C6.out _).mono ?_; rintro e w1 ⟨rfl, hb1⟩; have hS1 := HN.out _ _ (by assumption) hb1; clear hb1))
    all_goals (go_wp2_with fail; go_ret)
    all_goals exact ⟨rfl, HF.out _ (by assumption)⟩

set_option maxRecDepth 100000 in
set_option maxHeartbeats 16000000 in
theorem sums_law_walk (xs : List Nat) (v : Value) (n ph pl mh ml r : Nat) (sh sl : Nat → Nat) (ov : Nat → Bool) (w : World) (hv : U64At w v xs) (hm : xs.length ≤ 9223372036854775807) (h0 : sh 0 = 0) (h1 : sl 0 = 0)
    (c1 : ∀ (k : Nat) (hk : k < xs.length) w, Calls Try.prog 20 #[wv (sh k) (sl k), .agg #[.int .u64 0, .int .u64 ((xs[k] : Nat) : Int)]] w fun e w' => e = .returned (.tuple #[wv (sh (k + 1)) (sl (k + 1)), .bool (ov k)]) ∧ Below w.heap.size w w')
    (c2 : ∀ w, U64At w v xs → Calls Try.prog 66 #[v] w fun e w' => e = .returned (wv (sh xs.length) (sl xs.length)) ∧ Below w.heap.size w w')
    (c3 : ∀ w, Calls Try.prog 21 #[wv (sh xs.length) (sl xs.length)] w fun e w' => e = .returned (wv (sh xs.length) (sl xs.length)) ∧ Below w.heap.size w w')
    (c4 : ∀ w, Calls Try.prog 67 #[.int .u64 n, wv ph pl, wv mh ml] w fun e w' => e = .returned (.int .u64 r) ∧ Below w.heap.size w w')
    (c5 : ∀ w, Calls Try.prog 68 #[.int .u64 n, wv ph pl, wv mh ml] w fun e w' => e = .returned (.int .u64 r) ∧ Below w.heap.size w w')
    (c6 : ∀ w, Calls Try.prog 21 #[wv ph pl] w fun e w' => e = .returned (wv ph pl) ∧ Below w.heap.size w w')
    (c7 : ∀ w, Calls Try.prog 21 #[wv mh ml] w fun e w' => e = .returned (wv mh ml) ∧ Below w.heap.size w w') :
    Calls Try.prog 14 #[v, .int .u64 n, wv ph pl, wv mh ml] w fun e w' => e = .returned (.bool true) ∧ Below w.heap.size w w' := by
  have C1 := Lib.hid c1
  have C2 := Lib.hid c2
  have C3 := Lib.hid c3
  have C4 := Lib.hid c4
  have C5 := Lib.hid c5
  have C6 := Lib.hid c6
  have C7 := Lib.hid c7
  have HV := Lib.hid hv
  have H0 := Lib.hid h0
  have H1 := Lib.hid h1
  obtain ⟨a, cap, rfl, hcells⟩ := hv.form
  have HC := Lib.hid hcells
  clear c1 c2 c3 c4 c5 c6 c7 hv h0 h1 hcells
  go_enter Try.func14, Try.ntmps14
  go_wp2_with fail
  have hX := (((Boxes.nil w).new 24 ph pl).new 24 mh ml).new 27 0 0
  (try simp only [size_alloc, Int.natCast_zero] at hX)
  generalize ((w.alloc (.cells #[.int .u64 ph, .int .u64 pl] 24)).alloc (.cells #[.int .u64 mh, .int .u64 ml] 24)).alloc (.cells #[.int .u64 0, .int .u64 0] 27) = w0 at *
  have HX0 : Hid (Boxes w w0 [(w.heap.size + 1 + 1, 27, 0, 0), (w.heap.size + 1, 24, mh, ml), (w.heap.size, 24, ph, pl)]) := hX
  clear hX
  go_loopw [10] (fun i wr => ∃ k : Nat, k ≤ xs.length ∧ i = .int .i64 (k : Int) ∧ Boxes w wr [(w.heap.size + 1 + 1, 27, sh k, sl k), (w.heap.size + 1, 24, mh, ml), (w.heap.size, 24, ph, pl)]) (fun i _ => ((xs.length : Int) - intOf i).toNat)
  case atStart => exact ⟨0, Nat.zero_le _, rfl, by rw [H0.out, H1.out]; exact HX0.out⟩
  case round =>
    obtain ⟨k, hk, rfl, hB⟩ := hrel
    by_cases hlt : k < xs.length
    · obtain ⟨b, off, rfl, hc⟩ := HC.out (by omega)
      have hck := hc k hlt
      have hck2 : wr.cell? ⟨b, off + k, none⟩ = some (.int .u64 ((xs[k] : Nat) : Int)) := by rw [hB.below.cell (World.block_lt_of_cell? w _ hck)]; exact hck
      have K1 := Lib.hid (C1.out k hlt)
      have d1 : decide (k < xs.length) = true := decide_eq_true hlt
      have d3 : (0 : Int) ≤ k := by omega
      have d4 : (k : Int) < xs.length := by omega
      have e1 : IntKind.i64.wrap ((k : Int) + 1) = ((k + 1 : Nat) : Int) := by rw [IntWalk.i64_in _ (by omega)]; omega
      have HK : Hid (k < xs.length) := hlt
      obtain ⟨⟨r0, s0⟩, -, -⟩ := hB.at (w.heap.size + 1 + 1) 27 (sh k) (sl k) (by simp)
      have HX1 := Lib.hid hB
      generalize xs[k] = x at *
      generalize hp' : sh (k + 1) = ph' at *
      generalize hq' : sl (k + 1) = pl' at *
      have HP := Lib.hid hp'
      have HQ := Lib.hid hq'
      generalize sh k = phk at *
      generalize sl k = plk at *
      clear hc hck hB hlt hk hp' hq'
      go_wp2_with fail
      refine wp_region_noPanic ?_
      refine wp_region_held_drew (S := fun W => Below w.heap.size w W) (by kernel_rfl) ?_ (fun hHeld => ?_)
      · exact HX1.out.drew.below
      refine wpAnyH_take (i := 1) (oi := { dst := some 19, op := Op.move (Operand.tmp 0), type := 75, pos := "law.go:42", after := #[], guard := none }) (v := ?_) rfl (by kernel_rfl) (by kernel_rfl) (by kernel_rfl) (fun _ _ _ h => h) (Or.inl ⟨by rfl, ?_⟩) (by assumption) ?_
      rotate_left
      · (intro w9 hS9; (try dsimp only at hS9); go_simp); all_goals (with_reducible rfl)
      (try simp only [Act.put, List.setIfInBounds_toArray, List.set_cons_zero, List.set_cons_succ])
      refine wpAnyH_take (i := 2) (oi := { dst := some 20, op := Op.move (Operand.tmp 10), type := 3, pos := "law.go:42", after := #[], guard := none }) (v := ?_) rfl (by kernel_rfl) (by kernel_rfl) (by kernel_rfl) (fun _ _ _ h => h) (Or.inl ⟨by rfl, ?_⟩) (by assumption) ?_
      rotate_left
      · (intro w9 hS9; (try dsimp only at hS9); go_simp); all_goals (with_reducible rfl)
      (try simp only [Act.put, List.setIfInBounds_toArray, List.set_cons_zero, List.set_cons_succ])
      refine wpAnyH_take (i := 3) (oi := { dst := some 21, op := Op.indexAddr 75 (Operand.tmp 19) (Operand.tmp 20), type := 0, pos := "law.go:42", after := #[{ on := 1, ground := Ground.data }, { on := 2, ground := Ground.data }], guard := none }) (v := ?_) rfl (by kernel_rfl) (by kernel_rfl) (by kernel_rfl) (fun _ _ _ h => h) (Or.inl ⟨by rfl, ?_⟩) (by assumption) ?_
      rotate_left
      · (intro w9 hS9; (try dsimp only at hS9); go_simp); all_goals (with_reducible rfl)
      (try simp only [Act.put, List.setIfInBounds_toArray, List.set_cons_zero, List.set_cons_succ])
      refine wpAnyH_ready (rs := [0, 4]) (by kernel_rfl) (by simp) ?_
      refine AllReadyH.cons (o := { dst := some 18, op := Op.load 27 (Operand.tmp 9), type := 27, pos := "law.go:42", after := #[], guard := none }) rfl (fun K hK => ?_) ?_
      · go_simp
        skip
        (try go_wp2_with fail)
        refine hK.out _ _ ?_ (fun hHeld => ?_)
        · (first | exact HX1.out.drew.below | exact HY5.out.below | exact below_setRow HY5.out.below _ _ (by omega))
        clear hK K
        (try simp only [Act.put, List.setIfInBounds_toArray, List.set_cons_zero, List.set_cons_succ])
        refine wpAnyH_ready (rs := [4]) (by kernel_rfl) (by simp) ?_
        refine AllReadyH.cons (o := { dst := some 22, op := Op.load 22 (Operand.tmp 21), type := 22, pos := "law.go:42", after := #[{ on := 3, ground := Ground.data }], guard := none }) rfl (fun K hK => ?_) ?_
        · go_simp
          skip
          (try go_wp2_with fail)
          refine hK.out _ _ ?_ (fun hHeld => ?_)
          · (first | exact HX1.out.drew.below | exact HY5.out.below | exact below_setRow HY5.out.below _ _ (by omega))
          clear hK K
          (try simp only [Act.put, List.setIfInBounds_toArray, List.set_cons_zero, List.set_cons_succ])
          refine wpAnyH_ready (rs := [5]) (by kernel_rfl) (by simp) ?_
          refine AllReadyH.cons (o := { dst := some 23, op := Op.build 27 #[(1, Operand.tmp 22)], type := 27, pos := "law.go:42", after := #[{ on := 4, ground := Ground.data }], guard := none }) rfl (fun K hK => ?_) ?_
          · go_simp
            skip
            (try go_wp2_with fail)
            refine hK.out _ _ ?_ (fun hHeld => ?_)
            · (first | exact HX1.out.drew.below | exact HY5.out.below | exact below_setRow HY5.out.below _ _ (by omega))
            clear hK K
            (try simp only [Act.put, List.setIfInBounds_toArray, List.set_cons_zero, List.set_cons_succ])
            refine wpAnyH_ready (rs := [6]) (by kernel_rfl) (by simp) ?_
            refine AllReadyH.cons (o := { dst := some 24, op := Op.call { callee := Callee.value (Operand.func 20), args := #[Operand.tmp 18, Operand.tmp 23], argTypes := #[27, 27] }, type := 28, pos := "law.go:42", after := #[{ on := 0, ground := Ground.data }, { on := 5, ground := Ground.data }], guard := none }) rfl (fun K hK => ?_) ?_
            · go_simp
              (with_reducible refine (K1.out _).mono ?_)
              rintro e v5 ⟨rfl, hb1⟩
              have HY5 := Lib.hid (HX1.out.drew.next hb1)
              clear hb1
              (try go_wp2_with fail)
              refine hK.out _ _ ?_ (fun hHeld => ?_)
              · (first | exact HX1.out.drew.below | exact HY5.out.below | exact below_setRow HY5.out.below _ _ (by omega))
              clear hK K
              (try simp only [Act.put, List.setIfInBounds_toArray, List.set_cons_zero, List.set_cons_succ])
              refine wpAnyH_take (i := 7) (oi := { dst := some 17, op := Op.move (Operand.tmp 24), type := 28, pos := "law.go:42", after := #[{ on := 6, ground := Ground.data }], guard := none }) (v := ?_) rfl (by kernel_rfl) (by kernel_rfl) (by kernel_rfl) (fun _ _ _ h => h) (Or.inl ⟨by rfl, ?_⟩) (by assumption) ?_
              rotate_left
              · (intro w9 hS9; (try dsimp only at hS9); go_simp); all_goals (with_reducible rfl)
              (try simp only [Act.put, List.setIfInBounds_toArray, List.set_cons_zero, List.set_cons_succ])
              refine wpAnyH_take (i := 8) (oi := { dst := some 25, op := Op.extract (Operand.tmp 17) 0, type := 27, pos := "law.go:42", after := #[{ on := 7, ground := Ground.data }], guard := none }) (v := ?_) rfl (by kernel_rfl) (by kernel_rfl) (by kernel_rfl) (fun _ _ _ h => h) (Or.inl ⟨by rfl, ?_⟩) (by assumption) ?_
              rotate_left
              · (intro w9 hS9; (try dsimp only at hS9); go_simp); all_goals (with_reducible rfl)
              (try simp only [Act.put, List.setIfInBounds_toArray, List.set_cons_zero, List.set_cons_succ])
              refine wpAnyH_take (i := 9) (oi := { dst := some 26, op := Op.extract (Operand.tmp 17) 1, type := 4, pos := "law.go:42", after := #[{ on := 7, ground := Ground.data }, { on := 10, ground := Ground.gcOnly Departure.lateStores }], guard := none }) (v := ?_) rfl (by kernel_rfl) (by kernel_rfl) (by kernel_rfl) (fun _ _ _ h => h) (Or.inl ⟨by rfl, ?_⟩) (by assumption) ?_
              rotate_left
              · (intro w9 hS9; (try dsimp only at hS9); go_simp); all_goals (with_reducible rfl)
              (try simp only [Act.put, List.setIfInBounds_toArray, List.set_cons_zero, List.set_cons_succ])
              refine wpAnyH_ready (rs := [10]) (by kernel_rfl) (by simp) ?_
              refine AllReadyH.cons (o := { dst := none, op := Op.store 27 (Operand.tmp 9) (Operand.tmp 25), type := 0, pos := "law.go:42", after := #[{ on := 8, ground := Ground.data }, { on := 6, ground := Ground.chain }, { on := 0, ground := Ground.phase }, { on := 1, ground := Ground.phase }, { on := 2, ground := Ground.phase }, { on := 3, ground := Ground.phase }, { on := 4, ground := Ground.phase }, { on := 5, ground := Ground.phase }, { on := 6, ground := Ground.phase }, { on := 7, ground := Ground.phase }, { on := 8, ground := Ground.phase }, { on := 9, ground := Ground.textOnly Departure.lateStores }], guard := none }) rfl (fun K hK => ?_) ?_
              · rw [if_pos (by rfl)]
                refine wp_store_row 27 _ _ rfl _ #[.int .u64 ph', .int .u64 pl'] rfl rfl 27 #[.int .u64 phk, .int .u64 plk] (HY5.out.all (w.heap.size + 1 + 1, 27, phk, plk) (by simp)) size27 rfl (one2 _ _) ?_
                (try go_wp2_with fail)
                refine hK.out _ _ ?_ (fun hHeld => ?_)
                · (first | exact HX1.out.drew.below | exact HY5.out.below | exact below_setRow HY5.out.below _ _ (by omega))
                clear hK K
                (try simp only [Act.put, List.setIfInBounds_toArray, List.set_cons_zero, List.set_cons_succ])
                refine wpAnyH_done (by kernel_rfl) (NoPanic.normal ?_) _
                have hB : Boxes w (v5.setRow (w.heap.size + 1 + 1) #[.int .u64 ph', .int .u64 pl']) [(w.heap.size + 1 + 1, 27, ph', pl'), (w.heap.size + 1, 24, mh, ml), (w.heap.size, 24, ph, pl)] := by
                  refine Boxes.cons ?_ (setRow_heap _ _ #[.int .u64 phk, .int .u64 plk] _ 27 (0, 0) (HY5.out.all (w.heap.size + 1 + 1, 27, phk, plk) (by simp)))
                  refine Boxes.row ⟨HY5.out.below, fun x hx => HY5.out.all x (List.mem_cons_of_mem _ hx)⟩ _ _ (by omega) ?_
                  intro x hx; simp only [List.mem_cons, List.not_mem_nil, or_false] at hx; rcases hx with rfl | rfl <;> (simp; try omega)
                have HB := Lib.hid hB
                clear hB
                generalize v5.setRow (w.heap.size + 1 + 1) #[.int .u64 ph', .int .u64 pl'] = W1 at *
                go_wp2_with fail
                go_roundw
                case rel => exact ⟨k + 1, HK.out, rfl, by rw [HP.out, HQ.out]; exact HB.out⟩
                case measure => have := HK.out; simp [intOf]; omega
              exact AllReadyH.nil
            exact AllReadyH.nil
          exact AllReadyH.nil
        exact AllReadyH.nil
      refine AllReadyH.cons (o := { dst := some 22, op := Op.load 22 (Operand.tmp 21), type := 22, pos := "law.go:42", after := #[{ on := 3, ground := Ground.data }], guard := none }) rfl (fun K hK => ?_) ?_
      · go_simp
        skip
        (try go_wp2_with fail)
        refine hK.out _ _ ?_ (fun hHeld => ?_)
        · (first | exact HX1.out.drew.below | exact HY5.out.below | exact below_setRow HY5.out.below _ _ (by omega))
        clear hK K
        (try simp only [Act.put, List.setIfInBounds_toArray, List.set_cons_zero, List.set_cons_succ])
        refine wpAnyH_ready (rs := [0, 5]) (by kernel_rfl) (by simp) ?_
        refine AllReadyH.cons (o := { dst := some 18, op := Op.load 27 (Operand.tmp 9), type := 27, pos := "law.go:42", after := #[], guard := none }) rfl (fun K hK => ?_) ?_
        · go_simp
          skip
          (try go_wp2_with fail)
          refine hK.out _ _ ?_ (fun hHeld => ?_)
          · (first | exact HX1.out.drew.below | exact HY5.out.below | exact below_setRow HY5.out.below _ _ (by omega))
          clear hK K
          (try simp only [Act.put, List.setIfInBounds_toArray, List.set_cons_zero, List.set_cons_succ])
          refine wpAnyH_ready (rs := [5]) (by kernel_rfl) (by simp) ?_
          refine AllReadyH.cons (o := { dst := some 23, op := Op.build 27 #[(1, Operand.tmp 22)], type := 27, pos := "law.go:42", after := #[{ on := 4, ground := Ground.data }], guard := none }) rfl (fun K hK => ?_) ?_
          · go_simp
            skip
            (try go_wp2_with fail)
            refine hK.out _ _ ?_ (fun hHeld => ?_)
            · (first | exact HX1.out.drew.below | exact HY5.out.below | exact below_setRow HY5.out.below _ _ (by omega))
            clear hK K
            (try simp only [Act.put, List.setIfInBounds_toArray, List.set_cons_zero, List.set_cons_succ])
            refine wpAnyH_ready (rs := [6]) (by kernel_rfl) (by simp) ?_
            refine AllReadyH.cons (o := { dst := some 24, op := Op.call { callee := Callee.value (Operand.func 20), args := #[Operand.tmp 18, Operand.tmp 23], argTypes := #[27, 27] }, type := 28, pos := "law.go:42", after := #[{ on := 0, ground := Ground.data }, { on := 5, ground := Ground.data }], guard := none }) rfl (fun K hK => ?_) ?_
            · go_simp
              (with_reducible refine (K1.out _).mono ?_)
              rintro e v5 ⟨rfl, hb1⟩
              have HY5 := Lib.hid (HX1.out.drew.next hb1)
              clear hb1
              (try go_wp2_with fail)
              refine hK.out _ _ ?_ (fun hHeld => ?_)
              · (first | exact HX1.out.drew.below | exact HY5.out.below | exact below_setRow HY5.out.below _ _ (by omega))
              clear hK K
              (try simp only [Act.put, List.setIfInBounds_toArray, List.set_cons_zero, List.set_cons_succ])
              refine wpAnyH_take (i := 7) (oi := { dst := some 17, op := Op.move (Operand.tmp 24), type := 28, pos := "law.go:42", after := #[{ on := 6, ground := Ground.data }], guard := none }) (v := ?_) rfl (by kernel_rfl) (by kernel_rfl) (by kernel_rfl) (fun _ _ _ h => h) (Or.inl ⟨by rfl, ?_⟩) (by assumption) ?_
              rotate_left
              · (intro w9 hS9; (try dsimp only at hS9); go_simp); all_goals (with_reducible rfl)
              (try simp only [Act.put, List.setIfInBounds_toArray, List.set_cons_zero, List.set_cons_succ])
              refine wpAnyH_take (i := 8) (oi := { dst := some 25, op := Op.extract (Operand.tmp 17) 0, type := 27, pos := "law.go:42", after := #[{ on := 7, ground := Ground.data }], guard := none }) (v := ?_) rfl (by kernel_rfl) (by kernel_rfl) (by kernel_rfl) (fun _ _ _ h => h) (Or.inl ⟨by rfl, ?_⟩) (by assumption) ?_
              rotate_left
              · (intro w9 hS9; (try dsimp only at hS9); go_simp); all_goals (with_reducible rfl)
              (try simp only [Act.put, List.setIfInBounds_toArray, List.set_cons_zero, List.set_cons_succ])
              refine wpAnyH_take (i := 9) (oi := { dst := some 26, op := Op.extract (Operand.tmp 17) 1, type := 4, pos := "law.go:42", after := #[{ on := 7, ground := Ground.data }, { on := 10, ground := Ground.gcOnly Departure.lateStores }], guard := none }) (v := ?_) rfl (by kernel_rfl) (by kernel_rfl) (by kernel_rfl) (fun _ _ _ h => h) (Or.inl ⟨by rfl, ?_⟩) (by assumption) ?_
              rotate_left
              · (intro w9 hS9; (try dsimp only at hS9); go_simp); all_goals (with_reducible rfl)
              (try simp only [Act.put, List.setIfInBounds_toArray, List.set_cons_zero, List.set_cons_succ])
              refine wpAnyH_ready (rs := [10]) (by kernel_rfl) (by simp) ?_
              refine AllReadyH.cons (o := { dst := none, op := Op.store 27 (Operand.tmp 9) (Operand.tmp 25), type := 0, pos := "law.go:42", after := #[{ on := 8, ground := Ground.data }, { on := 6, ground := Ground.chain }, { on := 0, ground := Ground.phase }, { on := 1, ground := Ground.phase }, { on := 2, ground := Ground.phase }, { on := 3, ground := Ground.phase }, { on := 4, ground := Ground.phase }, { on := 5, ground := Ground.phase }, { on := 6, ground := Ground.phase }, { on := 7, ground := Ground.phase }, { on := 8, ground := Ground.phase }, { on := 9, ground := Ground.textOnly Departure.lateStores }], guard := none }) rfl (fun K hK => ?_) ?_
              · rw [if_pos (by rfl)]
                refine wp_store_row 27 _ _ rfl _ #[.int .u64 ph', .int .u64 pl'] rfl rfl 27 #[.int .u64 phk, .int .u64 plk] (HY5.out.all (w.heap.size + 1 + 1, 27, phk, plk) (by simp)) size27 rfl (one2 _ _) ?_
                (try go_wp2_with fail)
                refine hK.out _ _ ?_ (fun hHeld => ?_)
                · (first | exact HX1.out.drew.below | exact HY5.out.below | exact below_setRow HY5.out.below _ _ (by omega))
                clear hK K
                (try simp only [Act.put, List.setIfInBounds_toArray, List.set_cons_zero, List.set_cons_succ])
                refine wpAnyH_done (by kernel_rfl) (NoPanic.normal ?_) _
                have hB : Boxes w (v5.setRow (w.heap.size + 1 + 1) #[.int .u64 ph', .int .u64 pl']) [(w.heap.size + 1 + 1, 27, ph', pl'), (w.heap.size + 1, 24, mh, ml), (w.heap.size, 24, ph, pl)] := by
                  refine Boxes.cons ?_ (setRow_heap _ _ #[.int .u64 phk, .int .u64 plk] _ 27 (0, 0) (HY5.out.all (w.heap.size + 1 + 1, 27, phk, plk) (by simp)))
                  refine Boxes.row ⟨HY5.out.below, fun x hx => HY5.out.all x (List.mem_cons_of_mem _ hx)⟩ _ _ (by omega) ?_
                  intro x hx; simp only [List.mem_cons, List.not_mem_nil, or_false] at hx; rcases hx with rfl | rfl <;> (simp; try omega)
                have HB := Lib.hid hB
                clear hB
                generalize v5.setRow (w.heap.size + 1 + 1) #[.int .u64 ph', .int .u64 pl'] = W1 at *
                go_wp2_with fail
                go_roundw
                case rel => exact ⟨k + 1, HK.out, rfl, by rw [HP.out, HQ.out]; exact HB.out⟩
                case measure => have := HK.out; simp [intOf]; omega
              exact AllReadyH.nil
            exact AllReadyH.nil
          exact AllReadyH.nil
        refine AllReadyH.cons (o := { dst := some 23, op := Op.build 27 #[(1, Operand.tmp 22)], type := 27, pos := "law.go:42", after := #[{ on := 4, ground := Ground.data }], guard := none }) rfl (fun K hK => ?_) ?_
        · go_simp
          skip
          (try go_wp2_with fail)
          refine hK.out _ _ ?_ (fun hHeld => ?_)
          · (first | exact HX1.out.drew.below | exact HY5.out.below | exact below_setRow HY5.out.below _ _ (by omega))
          clear hK K
          (try simp only [Act.put, List.setIfInBounds_toArray, List.set_cons_zero, List.set_cons_succ])
          refine wpAnyH_ready (rs := [0]) (by kernel_rfl) (by simp) ?_
          refine AllReadyH.cons (o := { dst := some 18, op := Op.load 27 (Operand.tmp 9), type := 27, pos := "law.go:42", after := #[], guard := none }) rfl (fun K hK => ?_) ?_
          · go_simp
            skip
            (try go_wp2_with fail)
            refine hK.out _ _ ?_ (fun hHeld => ?_)
            · (first | exact HX1.out.drew.below | exact HY5.out.below | exact below_setRow HY5.out.below _ _ (by omega))
            clear hK K
            (try simp only [Act.put, List.setIfInBounds_toArray, List.set_cons_zero, List.set_cons_succ])
            refine wpAnyH_ready (rs := [6]) (by kernel_rfl) (by simp) ?_
            refine AllReadyH.cons (o := { dst := some 24, op := Op.call { callee := Callee.value (Operand.func 20), args := #[Operand.tmp 18, Operand.tmp 23], argTypes := #[27, 27] }, type := 28, pos := "law.go:42", after := #[{ on := 0, ground := Ground.data }, { on := 5, ground := Ground.data }], guard := none }) rfl (fun K hK => ?_) ?_
            · go_simp
              (with_reducible refine (K1.out _).mono ?_)
              rintro e v5 ⟨rfl, hb1⟩
              have HY5 := Lib.hid (HX1.out.drew.next hb1)
              clear hb1
              (try go_wp2_with fail)
              refine hK.out _ _ ?_ (fun hHeld => ?_)
              · (first | exact HX1.out.drew.below | exact HY5.out.below | exact below_setRow HY5.out.below _ _ (by omega))
              clear hK K
              (try simp only [Act.put, List.setIfInBounds_toArray, List.set_cons_zero, List.set_cons_succ])
              refine wpAnyH_take (i := 7) (oi := { dst := some 17, op := Op.move (Operand.tmp 24), type := 28, pos := "law.go:42", after := #[{ on := 6, ground := Ground.data }], guard := none }) (v := ?_) rfl (by kernel_rfl) (by kernel_rfl) (by kernel_rfl) (fun _ _ _ h => h) (Or.inl ⟨by rfl, ?_⟩) (by assumption) ?_
              rotate_left
              · (intro w9 hS9; (try dsimp only at hS9); go_simp); all_goals (with_reducible rfl)
              (try simp only [Act.put, List.setIfInBounds_toArray, List.set_cons_zero, List.set_cons_succ])
              refine wpAnyH_take (i := 8) (oi := { dst := some 25, op := Op.extract (Operand.tmp 17) 0, type := 27, pos := "law.go:42", after := #[{ on := 7, ground := Ground.data }], guard := none }) (v := ?_) rfl (by kernel_rfl) (by kernel_rfl) (by kernel_rfl) (fun _ _ _ h => h) (Or.inl ⟨by rfl, ?_⟩) (by assumption) ?_
              rotate_left
              · (intro w9 hS9; (try dsimp only at hS9); go_simp); all_goals (with_reducible rfl)
              (try simp only [Act.put, List.setIfInBounds_toArray, List.set_cons_zero, List.set_cons_succ])
              refine wpAnyH_take (i := 9) (oi := { dst := some 26, op := Op.extract (Operand.tmp 17) 1, type := 4, pos := "law.go:42", after := #[{ on := 7, ground := Ground.data }, { on := 10, ground := Ground.gcOnly Departure.lateStores }], guard := none }) (v := ?_) rfl (by kernel_rfl) (by kernel_rfl) (by kernel_rfl) (fun _ _ _ h => h) (Or.inl ⟨by rfl, ?_⟩) (by assumption) ?_
              rotate_left
              · (intro w9 hS9; (try dsimp only at hS9); go_simp); all_goals (with_reducible rfl)
              (try simp only [Act.put, List.setIfInBounds_toArray, List.set_cons_zero, List.set_cons_succ])
              refine wpAnyH_ready (rs := [10]) (by kernel_rfl) (by simp) ?_
              refine AllReadyH.cons (o := { dst := none, op := Op.store 27 (Operand.tmp 9) (Operand.tmp 25), type := 0, pos := "law.go:42", after := #[{ on := 8, ground := Ground.data }, { on := 6, ground := Ground.chain }, { on := 0, ground := Ground.phase }, { on := 1, ground := Ground.phase }, { on := 2, ground := Ground.phase }, { on := 3, ground := Ground.phase }, { on := 4, ground := Ground.phase }, { on := 5, ground := Ground.phase }, { on := 6, ground := Ground.phase }, { on := 7, ground := Ground.phase }, { on := 8, ground := Ground.phase }, { on := 9, ground := Ground.textOnly Departure.lateStores }], guard := none }) rfl (fun K hK => ?_) ?_
              · rw [if_pos (by rfl)]
                refine wp_store_row 27 _ _ rfl _ #[.int .u64 ph', .int .u64 pl'] rfl rfl 27 #[.int .u64 phk, .int .u64 plk] (HY5.out.all (w.heap.size + 1 + 1, 27, phk, plk) (by simp)) size27 rfl (one2 _ _) ?_
                (try go_wp2_with fail)
                refine hK.out _ _ ?_ (fun hHeld => ?_)
                · (first | exact HX1.out.drew.below | exact HY5.out.below | exact below_setRow HY5.out.below _ _ (by omega))
                clear hK K
                (try simp only [Act.put, List.setIfInBounds_toArray, List.set_cons_zero, List.set_cons_succ])
                refine wpAnyH_done (by kernel_rfl) (NoPanic.normal ?_) _
                have hB : Boxes w (v5.setRow (w.heap.size + 1 + 1) #[.int .u64 ph', .int .u64 pl']) [(w.heap.size + 1 + 1, 27, ph', pl'), (w.heap.size + 1, 24, mh, ml), (w.heap.size, 24, ph, pl)] := by
                  refine Boxes.cons ?_ (setRow_heap _ _ #[.int .u64 phk, .int .u64 plk] _ 27 (0, 0) (HY5.out.all (w.heap.size + 1 + 1, 27, phk, plk) (by simp)))
                  refine Boxes.row ⟨HY5.out.below, fun x hx => HY5.out.all x (List.mem_cons_of_mem _ hx)⟩ _ _ (by omega) ?_
                  intro x hx; simp only [List.mem_cons, List.not_mem_nil, or_false] at hx; rcases hx with rfl | rfl <;> (simp; try omega)
                have HB := Lib.hid hB
                clear hB
                generalize v5.setRow (w.heap.size + 1 + 1) #[.int .u64 ph', .int .u64 pl'] = W1 at *
                go_wp2_with fail
                go_roundw
                case rel => exact ⟨k + 1, HK.out, rfl, by rw [HP.out, HQ.out]; exact HB.out⟩
                case measure => have := HK.out; simp [intOf]; omega
              exact AllReadyH.nil
            exact AllReadyH.nil
          exact AllReadyH.nil
        exact AllReadyH.nil
      exact AllReadyH.nil
    · have d1 : decide (k < xs.length) = false := decide_eq_false hlt
      obtain rfl : k = xs.length := by omega
      have HX1 := Lib.hid hB
      generalize sh xs.length = a1 at *
      generalize sl xs.length = a2 at *
      clear hB hlt hk
      go_wp2_with fail
      have HNk : ∀ W, Boxes w W [(w.heap.size + 1 + 1, 27, a1, a2), (w.heap.size + 1, 24, mh, ml), (w.heap.size, 24, ph, pl)] → (Boxes w W [(w.heap.size + 1 + 1, 27, a1, a2), (w.heap.size + 1, 24, mh, ml), (w.heap.size, 24, ph, pl)] ∧ (W.cell? ⟨w.heap.size + 1 + 1, 0, none⟩ = some (.int .u64 a1) ∧ W.cell? ⟨w.heap.size + 1 + 1, 1, none⟩ = some (.int .u64 a2)) ∧ (W.cell? ⟨w.heap.size + 1, 0, none⟩ = some (.int .u64 mh) ∧ W.cell? ⟨w.heap.size + 1, 1, none⟩ = some (.int .u64 ml)) ∧ (W.cell? ⟨w.heap.size, 0, none⟩ = some (.int .u64 ph) ∧ W.cell? ⟨w.heap.size, 1, none⟩ = some (.int .u64 pl))) := fun W h => ⟨h, two_cells (h.all (w.heap.size + 1 + 1, 27, a1, a2) (by simp)), two_cells (h.all (w.heap.size + 1, 24, mh, ml) (by simp)), two_cells (h.all (w.heap.size, 24, ph, pl) (by simp))⟩
      have HN : Hid (∀ W V, (Boxes w W [(w.heap.size + 1 + 1, 27, a1, a2), (w.heap.size + 1, 24, mh, ml), (w.heap.size, 24, ph, pl)] ∧ (W.cell? ⟨w.heap.size + 1 + 1, 0, none⟩ = some (.int .u64 a1) ∧ W.cell? ⟨w.heap.size + 1 + 1, 1, none⟩ = some (.int .u64 a2)) ∧ (W.cell? ⟨w.heap.size + 1, 0, none⟩ = some (.int .u64 mh) ∧ W.cell? ⟨w.heap.size + 1, 1, none⟩ = some (.int .u64 ml)) ∧ (W.cell? ⟨w.heap.size, 0, none⟩ = some (.int .u64 ph) ∧ W.cell? ⟨w.heap.size, 1, none⟩ = some (.int .u64 pl))) → Below W.heap.size W V → (Boxes w V [(w.heap.size + 1 + 1, 27, a1, a2), (w.heap.size + 1, 24, mh, ml), (w.heap.size, 24, ph, pl)] ∧ (V.cell? ⟨w.heap.size + 1 + 1, 0, none⟩ = some (.int .u64 a1) ∧ V.cell? ⟨w.heap.size + 1 + 1, 1, none⟩ = some (.int .u64 a2)) ∧ (V.cell? ⟨w.heap.size + 1, 0, none⟩ = some (.int .u64 mh) ∧ V.cell? ⟨w.heap.size + 1, 1, none⟩ = some (.int .u64 ml)) ∧ (V.cell? ⟨w.heap.size, 0, none⟩ = some (.int .u64 ph) ∧ V.cell? ⟨w.heap.size, 1, none⟩ = some (.int .u64 pl)))) := fun W V h hb => HNk _ (h.1.next hb)
      have HF : Hid (∀ W, (Boxes w W [(w.heap.size + 1 + 1, 27, a1, a2), (w.heap.size + 1, 24, mh, ml), (w.heap.size, 24, ph, pl)] ∧ (W.cell? ⟨w.heap.size + 1 + 1, 0, none⟩ = some (.int .u64 a1) ∧ W.cell? ⟨w.heap.size + 1 + 1, 1, none⟩ = some (.int .u64 a2)) ∧ (W.cell? ⟨w.heap.size + 1, 0, none⟩ = some (.int .u64 mh) ∧ W.cell? ⟨w.heap.size + 1, 1, none⟩ = some (.int .u64 ml)) ∧ (W.cell? ⟨w.heap.size, 0, none⟩ = some (.int .u64 ph) ∧ W.cell? ⟨w.heap.size, 1, none⟩ = some (.int .u64 pl))) → Below w.heap.size w W) := fun W h => h.1.below
      have HU : Hid (∀ W, (Boxes w W [(w.heap.size + 1 + 1, 27, a1, a2), (w.heap.size + 1, 24, mh, ml), (w.heap.size, 24, ph, pl)] ∧ (W.cell? ⟨w.heap.size + 1 + 1, 0, none⟩ = some (.int .u64 a1) ∧ W.cell? ⟨w.heap.size + 1 + 1, 1, none⟩ = some (.int .u64 a2)) ∧ (W.cell? ⟨w.heap.size + 1, 0, none⟩ = some (.int .u64 mh) ∧ W.cell? ⟨w.heap.size + 1, 1, none⟩ = some (.int .u64 ml)) ∧ (W.cell? ⟨w.heap.size, 0, none⟩ = some (.int .u64 ph) ∧ W.cell? ⟨w.heap.size, 1, none⟩ = some (.int .u64 pl))) → U64At W (.slice a xs.length cap) xs) := fun W h => HV.out.below h.1.below
      have hS0 := HNk _ HX1.out
      clear HNk
      go_region_held3 (fun W => Boxes w W [(w.heap.size + 1 + 1, 27, a1, a2), (w.heap.size + 1, 24, mh, ml), (w.heap.size, 24, ph, pl)] ∧ (W.cell? ⟨w.heap.size + 1 + 1, 0, none⟩ = some (.int .u64 a1) ∧ W.cell? ⟨w.heap.size + 1 + 1, 1, none⟩ = some (.int .u64 a2)) ∧ (W.cell? ⟨w.heap.size + 1, 0, none⟩ = some (.int .u64 mh) ∧ W.cell? ⟨w.heap.size + 1, 1, none⟩ = some (.int .u64 ml)) ∧ (W.cell? ⟨w.heap.size, 0, none⟩ = some (.int .u64 ph) ∧ W.cell? ⟨w.heap.size, 1, none⟩ = some (.int .u64 pl))) (first | assumption | exact HN.out _ _ (by assumption) (Below.refl _ _).drew)
        (first
          | (go_at_call 54; (with_reducible refine (alive12_any _).mono ?_); rintro e w1 ⟨rfl, hb1⟩; have hS1 := HN.out _ _ (by assumption) hb1; clear hb1)
          | (go_at_call 66; (with_reducible refine (C2.out _ (HU.out _ (by assumption))).mono ?_); rintro e w1 ⟨rfl, hb1⟩; have hS1 := HN.out _ _ (by assumption) hb1; clear hb1)
          | (go_at_call 21; (with_reducible refine (C3.out _).mono ?_); rintro e w1 ⟨rfl, hb1⟩; have hS1 := HN.out _ _ (by assumption) hb1; clear hb1)
          | (go_at_call 67; (with_reducible refine (C4.out _).mono ?_); rintro e w1 ⟨rfl, hb1⟩; have hS1 := HN.out _ _ (by assumption) hb1; clear hb1)
          | (go_at_call 21; (with_reducible refine (C6.out _).mono ?_); rintro e w1 ⟨rfl, hb1⟩; have hS1 := HN.out _ _ (by assumption) hb1; clear hb1)
          | (go_at_call 21; (with_reducible refine (C7.out _).mono ?_); rintro e w1 ⟨rfl, hb1⟩; have hS1 := HN.out _ _ (by assumption) hb1; clear hb1)
          | (go_at_call 68; (with_reducible refine (C5.out _).mono ?_); rintro e w1 ⟨rfl, hb1⟩; have hS1 := HN.out _ _ (by assumption) hb1; clear hb1))
      all_goals (go_wp2_with fail; go_ret)
      all_goals exact ⟨by simp, HF.out _ (by assumption)⟩

end Go.Proofs.Ytcaeaepnobbjlaa

