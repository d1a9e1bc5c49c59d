import Derived.Test.YtcaeaepnobbjlaaT
namespace Go.Proofs.Ytcaeaepnobbjlaa
set_option linter.unusedVariables false
set_option linter.unusedSimpArgs false
open Go.RowKit

theorem Boxes.lt {w W : World} {bs : List (Nat × Nat × Nat × Nat)} (h : Boxes w W bs) (x : Nat × Nat × Nat × Nat) (hx : x ∈ bs) : x.1 < W.heap.size :=
  (Array.getElem?_eq_some_iff.1 (h.all x hx)).1
theorem Boxes.cons {w W : World} {bs : List (Nat × Nat × Nat × Nat)} {b t p q : Nat} (h : Boxes w W bs) (hb : W.heap[b]? = some (.cells #[.int .u64 (p : Int), .int .u64 (q : Int)] t (0, 0))) : Boxes w W ((b, t, p, q) :: bs) := by
  refine ⟨h.below, fun x hx => ?_⟩
  rcases List.mem_cons.1 hx with rfl | hx
  · exact hb
  · exact h.all x hx
set_option maxRecDepth 100000 in
set_option maxHeartbeats 16000000 in
theorem sums_walk (ah al bh bl sh sl dh dl : Nat) (o p : Bool) (k : Int)
    (c1 : ∀ w, Calls Try.prog 19 #[wv ah al, wv bh bl] w fun e w' => e = .returned (.tuple #[wv sh sl, .bool o]) ∧ Below w.heap.size w w')
    (c2 : ∀ w, Calls Try.prog 21 #[wv ah al] w fun e w' => e = .returned (wv ah al) ∧ Below w.heap.size w w')
    (c3 : ∀ w, Calls Try.prog 21 #[wv bh bl] w fun e w' => e = .returned (wv bh bl) ∧ Below w.heap.size w w')
    (c4 : ∀ w, Calls Try.prog 20 #[wv ah al, wv bh bl] w fun e w' => e = .returned (.tuple #[wv sh sl, .bool o]) ∧ Below w.heap.size w w')
    (c5 : ∀ w, Calls Try.prog 22 #[wv ah al, wv bh bl] w fun e w' => e = .returned (.tuple #[wv dh dl, .bool p]) ∧ Below w.heap.size w w')
    (c6 : ∀ w, Calls Try.prog 23 #[wv ah al, wv bh bl] w fun e w' => e = .returned (.tuple #[wv dh dl, .bool p]) ∧ Below w.heap.size w w')
    (c7 : ∀ w, Calls Try.prog 21 #[wv sh sl] w fun e w' => e = .returned (wv sh sl) ∧ Below w.heap.size w w')
    (c8 : ∀ w, Calls Try.prog 21 #[wv dh dl] w fun e w' => e = .returned (wv dh dl) ∧ Below w.heap.size w w')
    (c9 : ∀ w, Calls Try.prog 25 #[wv ah al, wv bh bl] w fun e w' => e = .returned (.int .i64 k) ∧ Below w.heap.size w w')
    (c10 : ∀ w, Calls Try.prog 26 #[wv ah al, wv bh bl] w fun e w' => e = .returned (.int .i64 k) ∧ Below w.heap.size w w')
    (c11 : ∀ w, Calls Try.prog 27 #[.int .u64 al] w fun e w' => e = .returned (.agg #[.int .u64 0, .int .u64 al]) ∧ Below w.heap.size w w') (w : World) :
    Calls Try.prog 3 #[wv ah al, wv bh bl] w fun e w' => e = .returned (.bool true) ∧ Below w.heap.size w w' := by
  have C1 := Lib.hid c1
  have C2 := Lib.hid c2
  have C3 := Lib.hid c3
  have C4 := Lib.hid c4
  have C5 := Lib.hid c5
  have C6 := Lib.hid c6
  have C7 := Lib.hid c7
  have C8 := Lib.hid c8
  have C9 := Lib.hid c9
  have C10 := Lib.hid c10
  have C11 := Lib.hid c11
  clear c1 c2 c3 c4 c5 c6 c7 c8 c9 c10 c11
  go_enter Try.func3, Try.ntmps3
  go_wp2_with fail
  have hX := ((Boxes.nil w).new 24 ah al).new 24 bh bl
  simp only [size_alloc] at hX
  generalize (w.alloc (.cells #[.int .u64 ah, .int .u64 al] 24)).alloc (.cells #[.int .u64 bh, .int .u64 bl] 24) = w0 at *
  have HX0 : Hid (Boxes w w0 [(w.heap.size + 1, 24, bh, bl), (w.heap.size, 24, ah, al)]) := hX
  clear hX
  obtain ⟨⟨r0, s0⟩, -, -⟩ := HX0.out.at (w.heap.size + 1) 24 bh bl (by simp)
  obtain ⟨⟨r1, s1⟩, -, -⟩ := HX0.out.at (w.heap.size) 24 ah al (by simp)
  go_wp2_with (first
    | (go_at_call 19; with_reducible refine (C1.out _).mono ?_; rintro e v1 ⟨rfl, hb1⟩
       have HY1 := Lib.hid (HX0.out.next hb1)
       clear hb1 r0 s0 r1 s1 HX0)
    | (obtain ⟨w1, hw⟩ : ∃ w1, v1.alloc (.cells #[.int .u64 sh, .int .u64 sl] 24) = w1 := ⟨_, rfl⟩
       rewrite [hw]
       have HX1 : Hid (Boxes w w1 [(v1.heap.size, 24, sh, sl), (w.heap.size + 1, 24, bh, bl), (w.heap.size, 24, ah, al)]) := by rewrite [← hw]; exact HY1.out.new 24 sh sl
       clear hw HY1
       generalize v1.heap.size = c1 at *
       obtain ⟨⟨r0, s0⟩, -, -⟩ := HX1.out.at (c1) 24 sh sl (by simp)
       obtain ⟨⟨r1, s1⟩, -, -⟩ := HX1.out.at (w.heap.size + 1) 24 bh bl (by simp)
       obtain ⟨⟨r2, s2⟩, -, -⟩ := HX1.out.at (w.heap.size) 24 ah al (by simp)))
  clear r0 s0 r1 s1 r2 s2
  go_cut [7, 8] from 19 to 26 (fun s7 s8 wx => ∃ b7 : Nat, s7 = .pointer (some ⟨b7, 0, none⟩) ∧ s8 = .bool o ∧ Boxes w wx [(b7, 27, sh, sl), (c1, 24, sh, sl), (w.heap.size + 1, 24, bh, bl), (w.heap.size, 24, ah, al)])
  case first =>
    have HNk : ∀ W, Boxes w W [(c1, 24, sh, sl), (w.heap.size + 1, 24, bh, bl), (w.heap.size, 24, ah, al)] → w1.heap.size ≤ W.heap.size → (Boxes w W [(c1, 24, sh, sl), (w.heap.size + 1, 24, bh, bl), (w.heap.size, 24, ah, al)] ∧ w1.heap.size ≤ W.heap.size ∧ (W.cell? ⟨c1, 0, none⟩ = some (.int .u64 sh) ∧ W.cell? ⟨c1, 1, none⟩ = some (.int .u64 sl)) ∧ (W.cell? ⟨w.heap.size + 1, 0, none⟩ = some (.int .u64 bh) ∧ W.cell? ⟨w.heap.size + 1, 1, none⟩ = some (.int .u64 bl)) ∧ (W.cell? ⟨w.heap.size, 0, none⟩ = some (.int .u64 ah) ∧ W.cell? ⟨w.heap.size, 1, none⟩ = some (.int .u64 al))) := fun W h hs => ⟨h, hs, two_cells (h.all (c1, 24, sh, sl) (by simp)), two_cells (h.all (w.heap.size + 1, 24, bh, bl) (by simp)), two_cells (h.all (w.heap.size, 24, ah, al) (by simp))⟩
    have HN : Hid (∀ W V, (Boxes w W [(c1, 24, sh, sl), (w.heap.size + 1, 24, bh, bl), (w.heap.size, 24, ah, al)] ∧ w1.heap.size ≤ W.heap.size ∧ (W.cell? ⟨c1, 0, none⟩ = some (.int .u64 sh) ∧ W.cell? ⟨c1, 1, none⟩ = some (.int .u64 sl)) ∧ (W.cell? ⟨w.heap.size + 1, 0, none⟩ = some (.int .u64 bh) ∧ W.cell? ⟨w.heap.size + 1, 1, none⟩ = some (.int .u64 bl)) ∧ (W.cell? ⟨w.heap.size, 0, none⟩ = some (.int .u64 ah) ∧ W.cell? ⟨w.heap.size, 1, none⟩ = some (.int .u64 al))) → Below W.heap.size W V → (Boxes w V [(c1, 24, sh, sl), (w.heap.size + 1, 24, bh, bl), (w.heap.size, 24, ah, al)] ∧ w1.heap.size ≤ V.heap.size ∧ (V.cell? ⟨c1, 0, none⟩ = some (.int .u64 sh) ∧ V.cell? ⟨c1, 1, none⟩ = some (.int .u64 sl)) ∧ (V.cell? ⟨w.heap.size + 1, 0, none⟩ = some (.int .u64 bh) ∧ V.cell? ⟨w.heap.size + 1, 1, none⟩ = some (.int .u64 bl)) ∧ (V.cell? ⟨w.heap.size, 0, none⟩ = some (.int .u64 ah) ∧ V.cell? ⟨w.heap.size, 1, none⟩ = some (.int .u64 al)))) := fun W V h hb => HNk _ (h.1.next hb) (Nat.le_trans h.2.1 hb.size)
    have HS0 : Hid (Boxes w w1.drew [(c1, 24, sh, sl), (w.heap.size + 1, 24, bh, bl), (w.heap.size, 24, ah, al)] ∧ w1.heap.size ≤ w1.drew.heap.size ∧ (w1.drew.cell? ⟨c1, 0, none⟩ = some (.int .u64 sh) ∧ w1.drew.cell? ⟨c1, 1, none⟩ = some (.int .u64 sl)) ∧ (w1.drew.cell? ⟨w.heap.size + 1, 0, none⟩ = some (.int .u64 bh) ∧ w1.drew.cell? ⟨w.heap.size + 1, 1, none⟩ = some (.int .u64 bl)) ∧ (w1.drew.cell? ⟨w.heap.size, 0, none⟩ = some (.int .u64 ah) ∧ w1.drew.cell? ⟨w.heap.size, 1, none⟩ = some (.int .u64 al))) := HNk _ (HX1.out.next ⟨rfl, rfl, rfl, Nat.le_refl _, fun _ _ => rfl⟩) (Nat.le_refl _)
    have HR : Hid (∀ W g cs, (Boxes w W [(c1, 24, sh, sl), (w.heap.size + 1, 24, bh, bl), (w.heap.size, 24, ah, al)] ∧ w1.heap.size ≤ W.heap.size ∧ (W.cell? ⟨c1, 0, none⟩ = some (.int .u64 sh) ∧ W.cell? ⟨c1, 1, none⟩ = some (.int .u64 sl)) ∧ (W.cell? ⟨w.heap.size + 1, 0, none⟩ = some (.int .u64 bh) ∧ W.cell? ⟨w.heap.size + 1, 1, none⟩ = some (.int .u64 bl)) ∧ (W.cell? ⟨w.heap.size, 0, none⟩ = some (.int .u64 ah) ∧ W.cell? ⟨w.heap.size, 1, none⟩ = some (.int .u64 al))) → w1.heap.size ≤ g → (Boxes w (W.setRow g cs) [(c1, 24, sh, sl), (w.heap.size + 1, 24, bh, bl), (w.heap.size, 24, ah, al)] ∧ w1.heap.size ≤ (W.setRow g cs).heap.size ∧ ((W.setRow g cs).cell? ⟨c1, 0, none⟩ = some (.int .u64 sh) ∧ (W.setRow g cs).cell? ⟨c1, 1, none⟩ = some (.int .u64 sl)) ∧ ((W.setRow g cs).cell? ⟨w.heap.size + 1, 0, none⟩ = some (.int .u64 bh) ∧ (W.setRow g cs).cell? ⟨w.heap.size + 1, 1, none⟩ = some (.int .u64 bl)) ∧ ((W.setRow g cs).cell? ⟨w.heap.size, 0, none⟩ = some (.int .u64 ah) ∧ (W.setRow g cs).cell? ⟨w.heap.size, 1, none⟩ = some (.int .u64 al)))) := fun W g cs h hg => HNk _ (h.1.row g cs (Nat.le_trans HX1.out.below.size hg) (fun x hx e => by have := HX1.out.lt x hx; omega)) (by rw [setRow_size]; exact h.2.1)
    clear HNk
    refine wp_region_noPanic ?_
    refine wp_region_held_drew (S := fun W => Boxes w W [(c1, 24, sh, sl), (w.heap.size + 1, 24, bh, bl), (w.heap.size, 24, ah, al)] ∧ w1.heap.size ≤ W.heap.size ∧ (W.cell? ⟨c1, 0, none⟩ = some (.int .u64 sh) ∧ W.cell? ⟨c1, 1, none⟩ = some (.int .u64 sl)) ∧ (W.cell? ⟨w.heap.size + 1, 0, none⟩ = some (.int .u64 bh) ∧ W.cell? ⟨w.heap.size + 1, 1, none⟩ = some (.int .u64 bl)) ∧ (W.cell? ⟨w.heap.size, 0, none⟩ = some (.int .u64 ah) ∧ W.cell? ⟨w.heap.size, 1, none⟩ = some (.int .u64 al))) (by kernel_rfl) ?_ (fun hHeld => ?_)
    · exact HS0.out
    refine wpAnyH_take (i := 0) (oi := { dst := some 20, op := Op.load 24 (Operand.tmp 2), type := 24, pos := "law.go:22", after := #[], guard := none }) (v := ?_) rfl (by kernel_rfl) (by kernel_rfl) (by kernel_rfl) (fun _ _ _ h => h) (Or.inl ⟨by rfl, ?_⟩) (by assumption) ?_
    rotate_left
    · (intro w9 hS9; (try dsimp only at hS9); go_simp); all_goals (with_reducible rfl)
    (try simp only [Act.put, List.setIfInBounds_toArray, List.set_cons_zero, List.set_cons_succ])
    refine wpAnyH_take (i := 2) (oi := { dst := some 22, op := Op.load 24 (Operand.tmp 3), type := 24, pos := "law.go:22", after := #[], guard := none }) (v := ?_) rfl (by kernel_rfl) (by kernel_rfl) (by kernel_rfl) (fun _ _ _ h => h) (Or.inl ⟨by rfl, ?_⟩) (by assumption) ?_
    rotate_left
    · (intro w9 hS9; (try dsimp only at hS9); go_simp); all_goals (with_reducible rfl)
    (try simp only [Act.put, List.setIfInBounds_toArray, List.set_cons_zero, List.set_cons_succ])
    refine wpAnyH_ready (rs := [1, 8]) (by kernel_rfl) (by simp) ?_
    refine AllReadyH.cons (o := { dst := some 21, op := Op.call { callee := Callee.value (Operand.func 21), args := #[Operand.tmp 20], argTypes := #[24] }, type := 27, pos := "law.go:22", after := #[{ on := 0, ground := Ground.data }], guard := none }) rfl (fun K hK => ?_) ?_
    · go_simp
      with_reducible refine (C2.out _).mono ?_
      rintro e w1 ⟨rfl, hb1⟩
      have hS1 := HN.out _ _ (by assumption) hb1
      have hsz := hb1.size
      (try simp only [size_alloc, heap_drew] at hsz)
      (try go_wp2_with fail)
      refine hK.out _ _ ?_ (fun hHeld => ?_)
      · (first | exact hS1 | assumption | exact HN.out _ _ (by assumption) (below_alloc (Below.refl _ _) _) | exact HR.out _ _ _ (by assumption) (by first | omega | (simp; try omega)))
      clear hK K
      (try simp only [Act.put, List.setIfInBounds_toArray, List.set_cons_zero, List.set_cons_succ])
      refine wpAnyH_ready (rs := [3, 8]) (by kernel_rfl) (by simp) ?_
      refine AllReadyH.cons (o := { dst := some 23, op := Op.call { callee := Callee.value (Operand.func 21), args := #[Operand.tmp 22], argTypes := #[24] }, type := 27, pos := "law.go:22", after := #[{ on := 2, ground := Ground.data }, { on := 1, ground := Ground.chain }], guard := none }) rfl (fun K hK => ?_) ?_
      · go_simp
        with_reducible refine (C3.out _).mono ?_
        rintro e w1 ⟨rfl, hb1⟩
        have hS1 := HN.out _ _ (by assumption) hb1
        have hsz := hb1.size
        (try simp only [size_alloc, heap_drew] at hsz)
        (try go_wp2_with fail)
        refine hK.out _ _ ?_ (fun hHeld => ?_)
        · (first | exact hS1 | assumption | exact HN.out _ _ (by assumption) (below_alloc (Below.refl _ _) _) | exact HR.out _ _ _ (by assumption) (by first | omega | (simp; try omega)))
        clear hK K
        (try simp only [Act.put, List.setIfInBounds_toArray, List.set_cons_zero, List.set_cons_succ])
        refine wpAnyH_ready (rs := [4, 8]) (by kernel_rfl) (by simp) ?_
        refine AllReadyH.cons (o := { dst := some 24, op := Op.call { callee := Callee.value (Operand.func 20), args := #[Operand.tmp 21, Operand.tmp 23], argTypes := #[27, 27] }, type := 28, pos := "law.go:22", after := #[{ on := 1, ground := Ground.data }, { on := 3, ground := Ground.data }, { on := 3, ground := Ground.chain }], guard := none }) rfl (fun K hK => ?_) ?_
        · go_simp
          with_reducible refine (C4.out _).mono ?_
          rintro e w1 ⟨rfl, hb1⟩
          have hS1 := HN.out _ _ (by assumption) hb1
          have hsz := hb1.size
          (try simp only [size_alloc, heap_drew] at hsz)
          (try go_wp2_with fail)
          refine hK.out _ _ ?_ (fun hHeld => ?_)
          · (first | exact hS1 | assumption | exact HN.out _ _ (by assumption) (below_alloc (Below.refl _ _) _) | exact HR.out _ _ _ (by assumption) (by first | omega | (simp; try omega)))
          clear hK K
          (try simp only [Act.put, List.setIfInBounds_toArray, List.set_cons_zero, List.set_cons_succ])
          refine wpAnyH_take (i := 5) (oi := { dst := some 19, op := Op.move (Operand.tmp 24), type := 28, pos := "law.go:22", after := #[{ on := 4, ground := Ground.data }], guard := none }) (v := ?_) rfl (by kernel_rfl) (by kernel_rfl) (by kernel_rfl) (fun _ _ _ h => h) (Or.inl ⟨by rfl, ?_⟩) (by assumption) ?_
          rotate_left
          · (intro w9 hS9; (try dsimp only at hS9); go_simp); all_goals (with_reducible rfl)
          (try simp only [Act.put, List.setIfInBounds_toArray, List.set_cons_zero, List.set_cons_succ])
          refine wpAnyH_take (i := 6) (oi := { dst := some 25, op := Op.extract (Operand.tmp 19) 0, type := 27, pos := "law.go:22", after := #[{ on := 5, ground := Ground.data }], guard := none }) (v := ?_) rfl (by kernel_rfl) (by kernel_rfl) (by kernel_rfl) (fun _ _ _ h => h) (Or.inl ⟨by rfl, ?_⟩) (by assumption) ?_
          rotate_left
          · (intro w9 hS9; (try dsimp only at hS9); go_simp); all_goals (with_reducible rfl)
          (try simp only [Act.put, List.setIfInBounds_toArray, List.set_cons_zero, List.set_cons_succ])
          refine wpAnyH_take (i := 7) (oi := { dst := some 26, op := Op.extract (Operand.tmp 19) 1, type := 4, pos := "law.go:22", after := #[{ on := 5, ground := Ground.data }, { on := 9, ground := Ground.gcOnly Departure.lateStores }], guard := none }) (v := ?_) rfl (by kernel_rfl) (by kernel_rfl) (by kernel_rfl) (fun _ _ _ h => h) (Or.inl ⟨by rfl, ?_⟩) (by assumption) ?_
          rotate_left
          · (intro w9 hS9; (try dsimp only at hS9); go_simp); all_goals (with_reducible rfl)
          (try simp only [Act.put, List.setIfInBounds_toArray, List.set_cons_zero, List.set_cons_succ])
          refine wpAnyH_ready (rs := [8]) (by kernel_rfl) (by simp) ?_
          refine AllReadyH.cons (o := { dst := some 7, op := Op.alloc 27, type := 0, pos := "law.go:22", after := #[], guard := none }) rfl (fun K hK => ?_) ?_
          · go_simp
            skip
            (try go_wp2_with fail)
            refine hK.out _ _ ?_ (fun hHeld => ?_)
            · (first | exact hS1 | assumption | exact HN.out _ _ (by assumption) (below_alloc (Below.refl _ _) _) | exact HR.out _ _ _ (by assumption) (by first | omega | (simp; try omega)))
            clear hK K
            (try simp only [Act.put, List.setIfInBounds_toArray, List.set_cons_zero, List.set_cons_succ])
            refine wpAnyH_ready (rs := [9]) (by kernel_rfl) (by simp) ?_
            refine AllReadyH.cons (o := { dst := none, op := Op.store 27 (Operand.tmp 7) (Operand.tmp 25), type := 0, pos := "law.go:22", after := #[{ on := 8, ground := Ground.data }, { on := 6, ground := Ground.data }, { on := 4, ground := Ground.chain }, { on := 0, ground := Ground.phase }, { on := 1, ground := Ground.phase }, { on := 2, ground := Ground.phase }, { on := 3, ground := Ground.phase }, { on := 4, ground := Ground.phase }, { on := 5, ground := Ground.phase }, { on := 6, ground := Ground.phase }, { on := 7, ground := Ground.textOnly Departure.lateStores }, { on := 8, ground := Ground.phase }], guard := none }) rfl (fun K hK => ?_) ?_
            · rw [if_pos (by rfl)]
              refine wp_store_row 27 _ _ rfl _ #[.int .u64 sh, .int .u64 sl] rfl rfl 27 #[.int .u64 0, .int .u64 0] ?_ size27 rfl (one2 _ _) ?_
              · repeat' first | with_reducible exact heap_alloc_new _ _ | with_reducible exact heap_alloc2_new _ _ _ | with_reducible refine old_drew ?_ | with_reducible refine old_alloc _ ?_ | with_reducible refine old_row _ (by simp; try omega) ?_ | with_reducible refine old_below (by assumption) ?_
              (try go_wp2_with fail)
              refine hK.out _ _ ?_ (fun hHeld => ?_)
              · (first | exact hS1 | assumption | exact HN.out _ _ (by assumption) (below_alloc (Below.refl _ _) _) | exact HR.out _ _ _ (by assumption) (by first | omega | (simp; try omega)))
              clear hK K
              (try simp only [Act.put, List.setIfInBounds_toArray, List.set_cons_zero, List.set_cons_succ])
              refine wpAnyH_take (i := 10) (oi := { dst := some 8, op := Op.assign (Operand.tmp 26), type := 4, pos := "law.go:22", after := #[{ on := 7, ground := Ground.data }, { on := 9, ground := Ground.chain }, { on := 0, ground := Ground.phase }, { on := 1, ground := Ground.phase }, { on := 2, ground := Ground.phase }, { on := 3, ground := Ground.phase }, { on := 4, ground := Ground.phase }, { on := 5, ground := Ground.phase }, { on := 6, ground := Ground.phase }, { on := 7, ground := Ground.phase }, { on := 8, ground := Ground.phase }, { on := 9, ground := Ground.phase }], guard := none }) (v := ?_) rfl (by kernel_rfl) (by kernel_rfl) (by kernel_rfl) (fun _ _ _ h => h) (Or.inl ⟨by rfl, ?_⟩) (by assumption) ?_
              rotate_left
              · (intro w9 hS9; (try dsimp only at hS9); go_simp); all_goals (with_reducible rfl)
              (try simp only [Act.put, List.setIfInBounds_toArray, List.set_cons_zero, List.set_cons_succ])
              refine wpAnyH_done (by kernel_rfl) (NoPanic.normal ?_) _
              go_wp2_with fail
              go_meet
              case rel =>
                refine ⟨_, rfl, rfl, Boxes.cons (And.left (by assumption)) ?_⟩
                refine setRow_heap _ _ #[.int .u64 0, .int .u64 0] _ 27 (0, 0) ?_
                repeat' first | with_reducible exact heap_alloc_new _ _ | with_reducible exact heap_alloc2_new _ _ _ | with_reducible refine old_drew ?_ | with_reducible refine old_alloc _ ?_ | with_reducible refine old_row _ (by simp; try omega) ?_ | with_reducible refine old_below (by assumption) ?_
            exact AllReadyH.nil
          exact AllReadyH.nil
        refine AllReadyH.cons (o := { dst := some 7, op := Op.alloc 27, type := 0, pos := "law.go:22", after := #[], guard := none }) rfl (fun K hK => ?_) ?_
        · go_simp
          skip
          (try go_wp2_with fail)
          refine hK.out _ _ ?_ (fun hHeld => ?_)
          · (first | exact hS1 | assumption | exact HN.out _ _ (by assumption) (below_alloc (Below.refl _ _) _) | exact HR.out _ _ _ (by assumption) (by first | omega | (simp; try omega)))
          clear hK K
          (try simp only [Act.put, List.setIfInBounds_toArray, List.set_cons_zero, List.set_cons_succ])
          refine wpAnyH_ready (rs := [4]) (by kernel_rfl) (by simp) ?_
          refine AllReadyH.cons (o := { dst := some 24, op := Op.call { callee := Callee.value (Operand.func 20), args := #[Operand.tmp 21, Operand.tmp 23], argTypes := #[27, 27] }, type := 28, pos := "law.go:22", after := #[{ on := 1, ground := Ground.data }, { on := 3, ground := Ground.data }, { on := 3, ground := Ground.chain }], guard := none }) rfl (fun K hK => ?_) ?_
          · go_simp
            with_reducible refine (C4.out _).mono ?_
            rintro e w1 ⟨rfl, hb1⟩
            have hS1 := HN.out _ _ (by assumption) hb1
            have hsz := hb1.size
            (try simp only [size_alloc, heap_drew] at hsz)
            (try go_wp2_with fail)
            refine hK.out _ _ ?_ (fun hHeld => ?_)
            · (first | exact hS1 | assumption | exact HN.out _ _ (by assumption) (below_alloc (Below.refl _ _) _) | exact HR.out _ _ _ (by assumption) (by first | omega | (simp; try omega)))
            clear hK K
            (try simp only [Act.put, List.setIfInBounds_toArray, List.set_cons_zero, List.set_cons_succ])
            refine wpAnyH_take (i := 5) (oi := { dst := some 19, op := Op.move (Operand.tmp 24), type := 28, pos := "law.go:22", after := #[{ on := 4, ground := Ground.data }], guard := none }) (v := ?_) rfl (by kernel_rfl) (by kernel_rfl) (by kernel_rfl) (fun _ _ _ h => h) (Or.inl ⟨by rfl, ?_⟩) (by assumption) ?_
            rotate_left
            · (intro w9 hS9; (try dsimp only at hS9); go_simp); all_goals (with_reducible rfl)
            (try simp only [Act.put, List.setIfInBounds_toArray, List.set_cons_zero, List.set_cons_succ])
            refine wpAnyH_take (i := 6) (oi := { dst := some 25, op := Op.extract (Operand.tmp 19) 0, type := 27, pos := "law.go:22", after := #[{ on := 5, ground := Ground.data }], guard := none }) (v := ?_) rfl (by kernel_rfl) (by kernel_rfl) (by kernel_rfl) (fun _ _ _ h => h) (Or.inl ⟨by rfl, ?_⟩) (by assumption) ?_
            rotate_left
            · (intro w9 hS9; (try dsimp only at hS9); go_simp); all_goals (with_reducible rfl)
            (try simp only [Act.put, List.setIfInBounds_toArray, List.set_cons_zero, List.set_cons_succ])
            refine wpAnyH_take (i := 7) (oi := { dst := some 26, op := Op.extract (Operand.tmp 19) 1, type := 4, pos := "law.go:22", after := #[{ on := 5, ground := Ground.data }, { on := 9, ground := Ground.gcOnly Departure.lateStores }], guard := none }) (v := ?_) rfl (by kernel_rfl) (by kernel_rfl) (by kernel_rfl) (fun _ _ _ h => h) (Or.inl ⟨by rfl, ?_⟩) (by assumption) ?_
            rotate_left
            · (intro w9 hS9; (try dsimp only at hS9); go_simp); all_goals (with_reducible rfl)
            (try simp only [Act.put, List.setIfInBounds_toArray, List.set_cons_zero, List.set_cons_succ])
            refine wpAnyH_ready (rs := [9]) (by kernel_rfl) (by simp) ?_
            refine AllReadyH.cons (o := { dst := none, op := Op.store 27 (Operand.tmp 7) (Operand.tmp 25), type := 0, pos := "law.go:22", after := #[{ on := 8, ground := Ground.data }, { on := 6, ground := Ground.data }, { on := 4, ground := Ground.chain }, { on := 0, ground := Ground.phase }, { on := 1, ground := Ground.phase }, { on := 2, ground := Ground.phase }, { on := 3, ground := Ground.phase }, { on := 4, ground := Ground.phase }, { on := 5, ground := Ground.phase }, { on := 6, ground := Ground.phase }, { on := 7, ground := Ground.textOnly Departure.lateStores }, { on := 8, ground := Ground.phase }], guard := none }) rfl (fun K hK => ?_) ?_
            · rw [if_pos (by rfl)]
              refine wp_store_row 27 _ _ rfl _ #[.int .u64 sh, .int .u64 sl] rfl rfl 27 #[.int .u64 0, .int .u64 0] ?_ size27 rfl (one2 _ _) ?_
              · repeat' first | with_reducible exact heap_alloc_new _ _ | with_reducible exact heap_alloc2_new _ _ _ | with_reducible refine old_drew ?_ | with_reducible refine old_alloc _ ?_ | with_reducible refine old_row _ (by simp; try omega) ?_ | with_reducible refine old_below (by assumption) ?_
              (try go_wp2_with fail)
              refine hK.out _ _ ?_ (fun hHeld => ?_)
              · (first | exact hS1 | assumption | exact HN.out _ _ (by assumption) (below_alloc (Below.refl _ _) _) | exact HR.out _ _ _ (by assumption) (by first | omega | (simp; try omega)))
              clear hK K
              (try simp only [Act.put, List.setIfInBounds_toArray, List.set_cons_zero, List.set_cons_succ])
              refine wpAnyH_take (i := 10) (oi := { dst := some 8, op := Op.assign (Operand.tmp 26), type := 4, pos := "law.go:22", after := #[{ on := 7, ground := Ground.data }, { on := 9, ground := Ground.chain }, { on := 0, ground := Ground.phase }, { on := 1, ground := Ground.phase }, { on := 2, ground := Ground.phase }, { on := 3, ground := Ground.phase }, { on := 4, ground := Ground.phase }, { on := 5, ground := Ground.phase }, { on := 6, ground := Ground.phase }, { on := 7, ground := Ground.phase }, { on := 8, ground := Ground.phase }, { on := 9, ground := Ground.phase }], guard := none }) (v := ?_) rfl (by kernel_rfl) (by kernel_rfl) (by kernel_rfl) (fun _ _ _ h => h) (Or.inl ⟨by rfl, ?_⟩) (by assumption) ?_
              rotate_left
              · (intro w9 hS9; (try dsimp only at hS9); go_simp); all_goals (with_reducible rfl)
              (try simp only [Act.put, List.setIfInBounds_toArray, List.set_cons_zero, List.set_cons_succ])
              refine wpAnyH_done (by kernel_rfl) (NoPanic.normal ?_) _
              go_wp2_with fail
              go_meet
              case rel =>
                refine ⟨_, rfl, rfl, Boxes.cons (And.left (by assumption)) ?_⟩
                refine setRow_heap _ _ #[.int .u64 0, .int .u64 0] _ 27 (0, 0) ?_
                repeat' first | with_reducible exact heap_alloc_new _ _ | with_reducible exact heap_alloc2_new _ _ _ | with_reducible refine old_drew ?_ | with_reducible refine old_alloc _ ?_ | with_reducible refine old_row _ (by simp; try omega) ?_ | with_reducible refine old_below (by assumption) ?_
            exact AllReadyH.nil
          exact AllReadyH.nil
        exact AllReadyH.nil
      refine AllReadyH.cons (o := { dst := some 7, op := Op.alloc 27, type := 0, pos := "law.go:22", after := #[], guard := none }) rfl (fun K hK => ?_) ?_
      · go_simp
        skip
        (try go_wp2_with fail)
        refine hK.out _ _ ?_ (fun hHeld => ?_)
        · (first | exact hS1 | assumption | exact HN.out _ _ (by assumption) (below_alloc (Below.refl _ _) _) | exact HR.out _ _ _ (by assumption) (by first | omega | (simp; try omega)))
        clear hK K
        (try simp only [Act.put, List.setIfInBounds_toArray, List.set_cons_zero, List.set_cons_succ])
        refine wpAnyH_ready (rs := [3]) (by kernel_rfl) (by simp) ?_
        refine AllReadyH.cons (o := { dst := some 23, op := Op.call { callee := Callee.value (Operand.func 21), args := #[Operand.tmp 22], argTypes := #[24] }, type := 27, pos := "law.go:22", after := #[{ on := 2, ground := Ground.data }, { on := 1, ground := Ground.chain }], guard := none }) rfl (fun K hK => ?_) ?_
        · go_simp
          with_reducible refine (C3.out _).mono ?_
          rintro e w1 ⟨rfl, hb1⟩
          have hS1 := HN.out _ _ (by assumption) hb1
          have hsz := hb1.size
          (try simp only [size_alloc, heap_drew] at hsz)
          (try go_wp2_with fail)
          refine hK.out _ _ ?_ (fun hHeld => ?_)
          · (first | exact hS1 | assumption | exact HN.out _ _ (by assumption) (below_alloc (Below.refl _ _) _) | exact HR.out _ _ _ (by assumption) (by first | omega | (simp; try omega)))
          clear hK K
          (try simp only [Act.put, List.setIfInBounds_toArray, List.set_cons_zero, List.set_cons_succ])
          refine wpAnyH_ready (rs := [4]) (by kernel_rfl) (by simp) ?_
          refine AllReadyH.cons (o := { dst := some 24, op := Op.call { callee := Callee.value (Operand.func 20), args := #[Operand.tmp 21, Operand.tmp 23], argTypes := #[27, 27] }, type := 28, pos := "law.go:22", after := #[{ on := 1, ground := Ground.data }, { on := 3, ground := Ground.data }, { on := 3, ground := Ground.chain }], guard := none }) rfl (fun K hK => ?_) ?_
          · go_simp
            with_reducible refine (C4.out _).mono ?_
            rintro e w1 ⟨rfl, hb1⟩
            have hS1 := HN.out _ _ (by assumption) hb1
            have hsz := hb1.size
            (try simp only [size_alloc, heap_drew] at hsz)
            (try go_wp2_with fail)
            refine hK.out _ _ ?_ (fun hHeld => ?_)
            · (first | exact hS1 | assumption | exact HN.out _ _ (by assumption) (below_alloc (Below.refl _ _) _) | exact HR.out _ _ _ (by assumption) (by first | omega | (simp; try omega)))
            clear hK K
            (try simp only [Act.put, List.setIfInBounds_toArray, List.set_cons_zero, List.set_cons_succ])
            refine wpAnyH_take (i := 5) (oi := { dst := some 19, op := Op.move (Operand.tmp 24), type := 28, pos := "law.go:22", after := #[{ on := 4, ground := Ground.data }], guard := none }) (v := ?_) rfl (by kernel_rfl) (by kernel_rfl) (by kernel_rfl) (fun _ _ _ h => h) (Or.inl ⟨by rfl, ?_⟩) (by assumption) ?_
            rotate_left
            · (intro w9 hS9; (try dsimp only at hS9); go_simp); all_goals (with_reducible rfl)
            (try simp only [Act.put, List.setIfInBounds_toArray, List.set_cons_zero, List.set_cons_succ])
            refine wpAnyH_take (i := 6) (oi := { dst := some 25, op := Op.extract (Operand.tmp 19) 0, type := 27, pos := "law.go:22", after := #[{ on := 5, ground := Ground.data }], guard := none }) (v := ?_) rfl (by kernel_rfl) (by kernel_rfl) (by kernel_rfl) (fun _ _ _ h => h) (Or.inl ⟨by rfl, ?_⟩) (by assumption) ?_
            rotate_left
            · (intro w9 hS9; (try dsimp only at hS9); go_simp); all_goals (with_reducible rfl)
            (try simp only [Act.put, List.setIfInBounds_toArray, List.set_cons_zero, List.set_cons_succ])
            refine wpAnyH_take (i := 7) (oi := { dst := some 26, op := Op.extract (Operand.tmp 19) 1, type := 4, pos := "law.go:22", after := #[{ on := 5, ground := Ground.data }, { on := 9, ground := Ground.gcOnly Departure.lateStores }], guard := none }) (v := ?_) rfl (by kernel_rfl) (by kernel_rfl) (by kernel_rfl) (fun _ _ _ h => h) (Or.inl ⟨by rfl, ?_⟩) (by assumption) ?_
            rotate_left
            · (intro w9 hS9; (try dsimp only at hS9); go_simp); all_goals (with_reducible rfl)
            (try simp only [Act.put, List.setIfInBounds_toArray, List.set_cons_zero, List.set_cons_succ])
            refine wpAnyH_ready (rs := [9]) (by kernel_rfl) (by simp) ?_
            refine AllReadyH.cons (o := { dst := none, op := Op.store 27 (Operand.tmp 7) (Operand.tmp 25), type := 0, pos := "law.go:22", after := #[{ on := 8, ground := Ground.data }, { on := 6, ground := Ground.data }, { on := 4, ground := Ground.chain }, { on := 0, ground := Ground.phase }, { on := 1, ground := Ground.phase }, { on := 2, ground := Ground.phase }, { on := 3, ground := Ground.phase }, { on := 4, ground := Ground.phase }, { on := 5, ground := Ground.phase }, { on := 6, ground := Ground.phase }, { on := 7, ground := Ground.textOnly Departure.lateStores }, { on := 8, ground := Ground.phase }], guard := none }) rfl (fun K hK => ?_) ?_
            · rw [if_pos (by rfl)]
              refine wp_store_row 27 _ _ rfl _ #[.int .u64 sh, .int .u64 sl] rfl rfl 27 #[.int .u64 0, .int .u64 0] ?_ size27 rfl (one2 _ _) ?_
              · repeat' first | with_reducible exact heap_alloc_new _ _ | with_reducible exact heap_alloc2_new _ _ _ | with_reducible refine old_drew ?_ | with_reducible refine old_alloc _ ?_ | with_reducible refine old_row _ (by simp; try omega) ?_ | with_reducible refine old_below (by assumption) ?_
              (try go_wp2_with fail)
              refine hK.out _ _ ?_ (fun hHeld => ?_)
              · (first | exact hS1 | assumption | exact HN.out _ _ (by assumption) (below_alloc (Below.refl _ _) _) | exact HR.out _ _ _ (by assumption) (by first | omega | (simp; try omega)))
              clear hK K
              (try simp only [Act.put, List.setIfInBounds_toArray, List.set_cons_zero, List.set_cons_succ])
              refine wpAnyH_take (i := 10) (oi := { dst := some 8, op := Op.assign (Operand.tmp 26), type := 4, pos := "law.go:22", after := #[{ on := 7, ground := Ground.data }, { on := 9, ground := Ground.chain }, { on := 0, ground := Ground.phase }, { on := 1, ground := Ground.phase }, { on := 2, ground := Ground.phase }, { on := 3, ground := Ground.phase }, { on := 4, ground := Ground.phase }, { on := 5, ground := Ground.phase }, { on := 6, ground := Ground.phase }, { on := 7, ground := Ground.phase }, { on := 8, ground := Ground.phase }, { on := 9, ground := Ground.phase }], guard := none }) (v := ?_) rfl (by kernel_rfl) (by kernel_rfl) (by kernel_rfl) (fun _ _ _ h => h) (Or.inl ⟨by rfl, ?_⟩) (by assumption) ?_
              rotate_left
              · (intro w9 hS9; (try dsimp only at hS9); go_simp); all_goals (with_reducible rfl)
              (try simp only [Act.put, List.setIfInBounds_toArray, List.set_cons_zero, List.set_cons_succ])
              refine wpAnyH_done (by kernel_rfl) (NoPanic.normal ?_) _
              go_wp2_with fail
              go_meet
              case rel =>
                refine ⟨_, rfl, rfl, Boxes.cons (And.left (by assumption)) ?_⟩
                refine setRow_heap _ _ #[.int .u64 0, .int .u64 0] _ 27 (0, 0) ?_
                repeat' first | with_reducible exact heap_alloc_new _ _ | with_reducible exact heap_alloc2_new _ _ _ | with_reducible refine old_drew ?_ | with_reducible refine old_alloc _ ?_ | with_reducible refine old_row _ (by simp; try omega) ?_ | with_reducible refine old_below (by assumption) ?_
            exact AllReadyH.nil
          exact AllReadyH.nil
        exact AllReadyH.nil
      exact AllReadyH.nil
    refine AllReadyH.cons (o := { dst := some 7, op := Op.alloc 27, type := 0, pos := "law.go:22", after := #[], guard := none }) rfl (fun K hK => ?_) ?_
    · go_simp
      skip
      (try go_wp2_with fail)
      refine hK.out _ _ ?_ (fun hHeld => ?_)
      · (first | exact hS1 | assumption | exact HN.out _ _ (by assumption) (below_alloc (Below.refl _ _) _) | exact HR.out _ _ _ (by assumption) (by first | omega | (simp; try omega)))
      clear hK K
      (try simp only [Act.put, List.setIfInBounds_toArray, List.set_cons_zero, List.set_cons_succ])
      refine wpAnyH_ready (rs := [1]) (by kernel_rfl) (by simp) ?_
      refine AllReadyH.cons (o := { dst := some 21, op := Op.call { callee := Callee.value (Operand.func 21), args := #[Operand.tmp 20], argTypes := #[24] }, type := 27, pos := "law.go:22", after := #[{ on := 0, ground := Ground.data }], guard := none }) rfl (fun K hK => ?_) ?_
      · go_simp
        with_reducible refine (C2.out _).mono ?_
        rintro e w1 ⟨rfl, hb1⟩
        have hS1 := HN.out _ _ (by assumption) hb1
        have hsz := hb1.size
        (try simp only [size_alloc, heap_drew] at hsz)
        (try go_wp2_with fail)
        refine hK.out _ _ ?_ (fun hHeld => ?_)
        · (first | exact hS1 | assumption | exact HN.out _ _ (by assumption) (below_alloc (Below.refl _ _) _) | exact HR.out _ _ _ (by assumption) (by first | omega | (simp; try omega)))
        clear hK K
        (try simp only [Act.put, List.setIfInBounds_toArray, List.set_cons_zero, List.set_cons_succ])
        refine wpAnyH_ready (rs := [3]) (by kernel_rfl) (by simp) ?_
        refine AllReadyH.cons (o := { dst := some 23, op := Op.call { callee := Callee.value (Operand.func 21), args := #[Operand.tmp 22], argTypes := #[24] }, type := 27, pos := "law.go:22", after := #[{ on := 2, ground := Ground.data }, { on := 1, ground := Ground.chain }], guard := none }) rfl (fun K hK => ?_) ?_
        · go_simp
          with_reducible refine (C3.out _).mono ?_
          rintro e w1 ⟨rfl, hb1⟩
          have hS1 := HN.out _ _ (by assumption) hb1
          have hsz := hb1.size
          (try simp only [size_alloc, heap_drew] at hsz)
          (try go_wp2_with fail)
          refine hK.out _ _ ?_ (fun hHeld => ?_)
          · (first | exact hS1 | assumption | exact HN.out _ _ (by assumption) (below_alloc (Below.refl _ _) _) | exact HR.out _ _ _ (by assumption) (by first | omega | (simp; try omega)))
          clear hK K
          (try simp only [Act.put, List.setIfInBounds_toArray, List.set_cons_zero, List.set_cons_succ])
          refine wpAnyH_ready (rs := [4]) (by kernel_rfl) (by simp) ?_
          refine AllReadyH.cons (o := { dst := some 24, op := Op.call { callee := Callee.value (Operand.func 20), args := #[Operand.tmp 21, Operand.tmp 23], argTypes := #[27, 27] }, type := 28, pos := "law.go:22", after := #[{ on := 1, ground := Ground.data }, { on := 3, ground := Ground.data }, { on := 3, ground := Ground.chain }], guard := none }) rfl (fun K hK => ?_) ?_
          · go_simp
            with_reducible refine (C4.out _).mono ?_
            rintro e w1 ⟨rfl, hb1⟩
            have hS1 := HN.out _ _ (by assumption) hb1
            have hsz := hb1.size
            (try simp only [size_alloc, heap_drew] at hsz)
            (try go_wp2_with fail)
            refine hK.out _ _ ?_ (fun hHeld => ?_)
            · (first | exact hS1 | assumption | exact HN.out _ _ (by assumption) (below_alloc (Below.refl _ _) _) | exact HR.out _ _ _ (by assumption) (by first | omega | (simp; try omega)))
            clear hK K
            (try simp only [Act.put, List.setIfInBounds_toArray, List.set_cons_zero, List.set_cons_succ])
            refine wpAnyH_take (i := 5) (oi := { dst := some 19, op := Op.move (Operand.tmp 24), type := 28, pos := "law.go:22", after := #[{ on := 4, ground := Ground.data }], guard := none }) (v := ?_) rfl (by kernel_rfl) (by kernel_rfl) (by kernel_rfl) (fun _ _ _ h => h) (Or.inl ⟨by rfl, ?_⟩) (by assumption) ?_
            rotate_left
            · (intro w9 hS9; (try dsimp only at hS9); go_simp); all_goals (with_reducible rfl)
            (try simp only [Act.put, List.setIfInBounds_toArray, List.set_cons_zero, List.set_cons_succ])
            refine wpAnyH_take (i := 6) (oi := { dst := some 25, op := Op.extract (Operand.tmp 19) 0, type := 27, pos := "law.go:22", after := #[{ on := 5, ground := Ground.data }], guard := none }) (v := ?_) rfl (by kernel_rfl) (by kernel_rfl) (by kernel_rfl) (fun _ _ _ h => h) (Or.inl ⟨by rfl, ?_⟩) (by assumption) ?_
            rotate_left
            · (intro w9 hS9; (try dsimp only at hS9); go_simp); all_goals (with_reducible rfl)
            (try simp only [Act.put, List.setIfInBounds_toArray, List.set_cons_zero, List.set_cons_succ])
            refine wpAnyH_take (i := 7) (oi := { dst := some 26, op := Op.extract (Operand.tmp 19) 1, type := 4, pos := "law.go:22", after := #[{ on := 5, ground := Ground.data }, { on := 9, ground := Ground.gcOnly Departure.lateStores }], guard := none }) (v := ?_) rfl (by kernel_rfl) (by kernel_rfl) (by kernel_rfl) (fun _ _ _ h => h) (Or.inl ⟨by rfl, ?_⟩) (by assumption) ?_
            rotate_left
            · (intro w9 hS9; (try dsimp only at hS9); go_simp); all_goals (with_reducible rfl)
            (try simp only [Act.put, List.setIfInBounds_toArray, List.set_cons_zero, List.set_cons_succ])
            refine wpAnyH_ready (rs := [9]) (by kernel_rfl) (by simp) ?_
            refine AllReadyH.cons (o := { dst := none, op := Op.store 27 (Operand.tmp 7) (Operand.tmp 25), type := 0, pos := "law.go:22", after := #[{ on := 8, ground := Ground.data }, { on := 6, ground := Ground.data }, { on := 4, ground := Ground.chain }, { on := 0, ground := Ground.phase }, { on := 1, ground := Ground.phase }, { on := 2, ground := Ground.phase }, { on := 3, ground := Ground.phase }, { on := 4, ground := Ground.phase }, { on := 5, ground := Ground.phase }, { on := 6, ground := Ground.phase }, { on := 7, ground := Ground.textOnly Departure.lateStores }, { on := 8, ground := Ground.phase }], guard := none }) rfl (fun K hK => ?_) ?_
            · rw [if_pos (by rfl)]
              refine wp_store_row 27 _ _ rfl _ #[.int .u64 sh, .int .u64 sl] rfl rfl 27 #[.int .u64 0, .int .u64 0] ?_ size27 rfl (one2 _ _) ?_
              · repeat' first | with_reducible exact heap_alloc_new _ _ | with_reducible exact heap_alloc2_new _ _ _ | with_reducible refine old_drew ?_ | with_reducible refine old_alloc _ ?_ | with_reducible refine old_row _ (by simp; try omega) ?_ | with_reducible refine old_below (by assumption) ?_
              (try go_wp2_with fail)
              refine hK.out _ _ ?_ (fun hHeld => ?_)
              · (first | exact hS1 | assumption | exact HN.out _ _ (by assumption) (below_alloc (Below.refl _ _) _) | exact HR.out _ _ _ (by assumption) (by first | omega | (simp; try omega)))
              clear hK K
              (try simp only [Act.put, List.setIfInBounds_toArray, List.set_cons_zero, List.set_cons_succ])
              refine wpAnyH_take (i := 10) (oi := { dst := some 8, op := Op.assign (Operand.tmp 26), type := 4, pos := "law.go:22", after := #[{ on := 7, ground := Ground.data }, { on := 9, ground := Ground.chain }, { on := 0, ground := Ground.phase }, { on := 1, ground := Ground.phase }, { on := 2, ground := Ground.phase }, { on := 3, ground := Ground.phase }, { on := 4, ground := Ground.phase }, { on := 5, ground := Ground.phase }, { on := 6, ground := Ground.phase }, { on := 7, ground := Ground.phase }, { on := 8, ground := Ground.phase }, { on := 9, ground := Ground.phase }], guard := none }) (v := ?_) rfl (by kernel_rfl) (by kernel_rfl) (by kernel_rfl) (fun _ _ _ h => h) (Or.inl ⟨by rfl, ?_⟩) (by assumption) ?_
              rotate_left
              · (intro w9 hS9; (try dsimp only at hS9); go_simp); all_goals (with_reducible rfl)
              (try simp only [Act.put, List.setIfInBounds_toArray, List.set_cons_zero, List.set_cons_succ])
              refine wpAnyH_done (by kernel_rfl) (NoPanic.normal ?_) _
              go_wp2_with fail
              go_meet
              case rel =>
                refine ⟨_, rfl, rfl, Boxes.cons (And.left (by assumption)) ?_⟩
                refine setRow_heap _ _ #[.int .u64 0, .int .u64 0] _ 27 (0, 0) ?_
                repeat' first | with_reducible exact heap_alloc_new _ _ | with_reducible exact heap_alloc2_new _ _ _ | with_reducible refine old_drew ?_ | with_reducible refine old_alloc _ ?_ | with_reducible refine old_row _ (by simp; try omega) ?_ | with_reducible refine old_below (by assumption) ?_
            exact AllReadyH.nil
          exact AllReadyH.nil
        exact AllReadyH.nil
      exact AllReadyH.nil
    exact AllReadyH.nil
  case rest =>
    obtain ⟨b7, rfl, rfl, hX⟩ := hcut
    have HX2 := Lib.hid hX
    clear hX HX1
    generalize wc = w2 at *
    obtain ⟨⟨r0, s0⟩, -, -⟩ := HX2.out.at (b7) 27 sh sl (by simp)
    obtain ⟨⟨r1, s1⟩, -, -⟩ := HX2.out.at (c1) 24 sh sl (by simp)
    obtain ⟨⟨r2, s2⟩, -, -⟩ := HX2.out.at (w.heap.size + 1) 24 bh bl (by simp)
    obtain ⟨⟨r3, s3⟩, -, -⟩ := HX2.out.at (w.heap.size) 24 ah al (by simp)
    go_wp2_with (first
      | (go_at_call 22; with_reducible refine (C5.out _).mono ?_; rintro e v3 ⟨rfl, hb1⟩
         have HY3 := Lib.hid (HX2.out.next hb1)
         clear hb1 r0 s0 r1 s1 r2 s2 r3 s3 HX2)
      | (obtain ⟨w3, hw⟩ : ∃ w3, v3.alloc (.cells #[.int .u64 dh, .int .u64 dl] 24) = w3 := ⟨_, rfl⟩
         rewrite [hw]
         have HX3 : Hid (Boxes w w3 [(v3.heap.size, 24, dh, dl), (b7, 27, sh, sl), (c1, 24, sh, sl), (w.heap.size + 1, 24, bh, bl), (w.heap.size, 24, ah, al)]) := by rewrite [← hw]; exact HY3.out.new 24 dh dl
         clear hw HY3
         generalize v3.heap.size = c3 at *
         obtain ⟨⟨r0, s0⟩, -, -⟩ := HX3.out.at (c3) 24 dh dl (by simp)
         obtain ⟨⟨r1, s1⟩, -, -⟩ := HX3.out.at (b7) 27 sh sl (by simp)
         obtain ⟨⟨r2, s2⟩, -, -⟩ := HX3.out.at (c1) 24 sh sl (by simp)
         obtain ⟨⟨r3, s3⟩, -, -⟩ := HX3.out.at (w.heap.size + 1) 24 bh bl (by simp)
         obtain ⟨⟨r4, s4⟩, -, -⟩ := HX3.out.at (w.heap.size) 24 ah al (by simp)))
    clear r0 s0 r1 s1 r2 s2 r3 s3 r4 s4
    go_cut [11, 12] from 33 to 40 (fun s11 s12 wx => ∃ b11 : Nat, s11 = .pointer (some ⟨b11, 0, none⟩) ∧ s12 = .bool p ∧ Boxes w wx [(b11, 27, dh, dl), (c3, 24, dh, dl), (b7, 27, sh, sl), (c1, 24, sh, sl), (w.heap.size + 1, 24, bh, bl), (w.heap.size, 24, ah, al)])
    case first =>
      have HNk : ∀ W, Boxes w W [(c3, 24, dh, dl), (b7, 27, sh, sl), (c1, 24, sh, sl), (w.heap.size + 1, 24, bh, bl), (w.heap.size, 24, ah, al)] → w3.heap.size ≤ W.heap.size → (Boxes w W [(c3, 24, dh, dl), (b7, 27, sh, sl), (c1, 24, sh, sl), (w.heap.size + 1, 24, bh, bl), (w.heap.size, 24, ah, al)] ∧ w3.heap.size ≤ W.heap.size ∧ (W.cell? ⟨c3, 0, none⟩ = some (.int .u64 dh) ∧ W.cell? ⟨c3, 1, none⟩ = some (.int .u64 dl)) ∧ (W.cell? ⟨b7, 0, none⟩ = some (.int .u64 sh) ∧ W.cell? ⟨b7, 1, none⟩ = some (.int .u64 sl)) ∧ (W.cell? ⟨c1, 0, none⟩ = some (.int .u64 sh) ∧ W.cell? ⟨c1, 1, none⟩ = some (.int .u64 sl)) ∧ (W.cell? ⟨w.heap.size + 1, 0, none⟩ = some (.int .u64 bh) ∧ W.cell? ⟨w.heap.size + 1, 1, none⟩ = some (.int .u64 bl)) ∧ (W.cell? ⟨w.heap.size, 0, none⟩ = some (.int .u64 ah) ∧ W.cell? ⟨w.heap.size, 1, none⟩ = some (.int .u64 al))) := fun W h hs => ⟨h, hs, two_cells (h.all (c3, 24, dh, dl) (by simp)), two_cells (h.all (b7, 27, sh, sl) (by simp)), two_cells (h.all (c1, 24, sh, sl) (by simp)), two_cells (h.all (w.heap.size + 1, 24, bh, bl) (by simp)), two_cells (h.all (w.heap.size, 24, ah, al) (by simp))⟩
      have HN : Hid (∀ W V, (Boxes w W [(c3, 24, dh, dl), (b7, 27, sh, sl), (c1, 24, sh, sl), (w.heap.size + 1, 24, bh, bl), (w.heap.size, 24, ah, al)] ∧ w3.heap.size ≤ W.heap.size ∧ (W.cell? ⟨c3, 0, none⟩ = some (.int .u64 dh) ∧ W.cell? ⟨c3, 1, none⟩ = some (.int .u64 dl)) ∧ (W.cell? ⟨b7, 0, none⟩ = some (.int .u64 sh) ∧ W.cell? ⟨b7, 1, none⟩ = some (.int .u64 sl)) ∧ (W.cell? ⟨c1, 0, none⟩ = some (.int .u64 sh) ∧ W.cell? ⟨c1, 1, none⟩ = some (.int .u64 sl)) ∧ (W.cell? ⟨w.heap.size + 1, 0, none⟩ = some (.int .u64 bh) ∧ W.cell? ⟨w.heap.size + 1, 1, none⟩ = some (.int .u64 bl)) ∧ (W.cell? ⟨w.heap.size, 0, none⟩ = some (.int .u64 ah) ∧ W.cell? ⟨w.heap.size, 1, none⟩ = some (.int .u64 al))) → Below W.heap.size W V → (Boxes w V [(c3, 24, dh, dl), (b7, 27, sh, sl), (c1, 24, sh, sl), (w.heap.size + 1, 24, bh, bl), (w.heap.size, 24, ah, al)] ∧ w3.heap.size ≤ V.heap.size ∧ (V.cell? ⟨c3, 0, none⟩ = some (.int .u64 dh) ∧ V.cell? ⟨c3, 1, none⟩ = some (.int .u64 dl)) ∧ (V.cell? ⟨b7, 0, none⟩ = some (.int .u64 sh) ∧ V.cell? ⟨b7, 1, none⟩ = some (.int .u64 sl)) ∧ (V.cell? ⟨c1, 0, none⟩ = some (.int .u64 sh) ∧ V.cell? ⟨c1, 1, none⟩ = some (.int .u64 sl)) ∧ (V.cell? ⟨w.heap.size + 1, 0, none⟩ = some (.int .u64 bh) ∧ V.cell? ⟨w.heap.size + 1, 1, none⟩ = some (.int .u64 bl)) ∧ (V.cell? ⟨w.heap.size, 0, none⟩ = some (.int .u64 ah) ∧ V.cell? ⟨w.heap.size, 1, none⟩ = some (.int .u64 al)))) := fun W V h hb => HNk _ (h.1.next hb) (Nat.le_trans h.2.1 hb.size)
      have HS0 : Hid (Boxes w w3.drew [(c3, 24, dh, dl), (b7, 27, sh, sl), (c1, 24, sh, sl), (w.heap.size + 1, 24, bh, bl), (w.heap.size, 24, ah, al)] ∧ w3.heap.size ≤ w3.drew.heap.size ∧ (w3.drew.cell? ⟨c3, 0, none⟩ = some (.int .u64 dh) ∧ w3.drew.cell? ⟨c3, 1, none⟩ = some (.int .u64 dl)) ∧ (w3.drew.cell? ⟨b7, 0, none⟩ = some (.int .u64 sh) ∧ w3.drew.cell? ⟨b7, 1, none⟩ = some (.int .u64 sl)) ∧ (w3.drew.cell? ⟨c1, 0, none⟩ = some (.int .u64 sh) ∧ w3.drew.cell? ⟨c1, 1, none⟩ = some (.int .u64 sl)) ∧ (w3.drew.cell? ⟨w.heap.size + 1, 0, none⟩ = some (.int .u64 bh) ∧ w3.drew.cell? ⟨w.heap.size + 1, 1, none⟩ = some (.int .u64 bl)) ∧ (w3.drew.cell? ⟨w.heap.size, 0, none⟩ = some (.int .u64 ah) ∧ w3.drew.cell? ⟨w.heap.size, 1, none⟩ = some (.int .u64 al))) := HNk _ (HX3.out.next ⟨rfl, rfl, rfl, Nat.le_refl _, fun _ _ => rfl⟩) (Nat.le_refl _)
      have HR : Hid (∀ W g cs, (Boxes w W [(c3, 24, dh, dl), (b7, 27, sh, sl), (c1, 24, sh, sl), (w.heap.size + 1, 24, bh, bl), (w.heap.size, 24, ah, al)] ∧ w3.heap.size ≤ W.heap.size ∧ (W.cell? ⟨c3, 0, none⟩ = some (.int .u64 dh) ∧ W.cell? ⟨c3, 1, none⟩ = some (.int .u64 dl)) ∧ (W.cell? ⟨b7, 0, none⟩ = some (.int .u64 sh) ∧ W.cell? ⟨b7, 1, none⟩ = some (.int .u64 sl)) ∧ (W.cell? ⟨c1, 0, none⟩ = some (.int .u64 sh) ∧ W.cell? ⟨c1, 1, none⟩ = some (.int .u64 sl)) ∧ (W.cell? ⟨w.heap.size + 1, 0, none⟩ = some (.int .u64 bh) ∧ W.cell? ⟨w.heap.size + 1, 1, none⟩ = some (.int .u64 bl)) ∧ (W.cell? ⟨w.heap.size, 0, none⟩ = some (.int .u64 ah) ∧ W.cell? ⟨w.heap.size, 1, none⟩ = some (.int .u64 al))) → w3.heap.size ≤ g → (Boxes w (W.setRow g cs) [(c3, 24, dh, dl), (b7, 27, sh, sl), (c1, 24, sh, sl), (w.heap.size + 1, 24, bh, bl), (w.heap.size, 24, ah, al)] ∧ w3.heap.size ≤ (W.setRow g cs).heap.size ∧ ((W.setRow g cs).cell? ⟨c3, 0, none⟩ = some (.int .u64 dh) ∧ (W.setRow g cs).cell? ⟨c3, 1, none⟩ = some (.int .u64 dl)) ∧ ((W.setRow g cs).cell? ⟨b7, 0, none⟩ = some (.int .u64 sh) ∧ (W.setRow g cs).cell? ⟨b7, 1, none⟩ = some (.int .u64 sl)) ∧ ((W.setRow g cs).cell? ⟨c1, 0, none⟩ = some (.int .u64 sh) ∧ (W.setRow g cs).cell? ⟨c1, 1, none⟩ = some (.int .u64 sl)) ∧ ((W.setRow g cs).cell? ⟨w.heap.size + 1, 0, none⟩ = some (.int .u64 bh) ∧ (W.setRow g cs).cell? ⟨w.heap.size + 1, 1, none⟩ = some (.int .u64 bl)) ∧ ((W.setRow g cs).cell? ⟨w.heap.size, 0, none⟩ = some (.int .u64 ah) ∧ (W.setRow g cs).cell? ⟨w.heap.size, 1, none⟩ = some (.int .u64 al)))) := fun W g cs h hg => HNk _ (h.1.row g cs (Nat.le_trans HX3.out.below.size hg) (fun x hx e => by have := HX3.out.lt x hx; omega)) (by rw [setRow_size]; exact h.2.1)
      clear HNk
      refine wp_region_noPanic ?_
      refine wp_region_held_drew (S := fun W => Boxes w W [(c3, 24, dh, dl), (b7, 27, sh, sl), (c1, 24, sh, sl), (w.heap.size + 1, 24, bh, bl), (w.heap.size, 24, ah, al)] ∧ w3.heap.size ≤ W.heap.size ∧ (W.cell? ⟨c3, 0, none⟩ = some (.int .u64 dh) ∧ W.cell? ⟨c3, 1, none⟩ = some (.int .u64 dl)) ∧ (W.cell? ⟨b7, 0, none⟩ = some (.int .u64 sh) ∧ W.cell? ⟨b7, 1, none⟩ = some (.int .u64 sl)) ∧ (W.cell? ⟨c1, 0, none⟩ = some (.int .u64 sh) ∧ W.cell? ⟨c1, 1, none⟩ = some (.int .u64 sl)) ∧ (W.cell? ⟨w.heap.size + 1, 0, none⟩ = some (.int .u64 bh) ∧ W.cell? ⟨w.heap.size + 1, 1, none⟩ = some (.int .u64 bl)) ∧ (W.cell? ⟨w.heap.size, 0, none⟩ = some (.int .u64 ah) ∧ W.cell? ⟨w.heap.size, 1, none⟩ = some (.int .u64 al))) (by kernel_rfl) ?_ (fun hHeld => ?_)
      · exact HS0.out
      refine wpAnyH_take (i := 0) (oi := { dst := some 34, op := Op.load 24 (Operand.tmp 2), type := 24, pos := "law.go:24", after := #[], guard := none }) (v := ?_) rfl (by kernel_rfl) (by kernel_rfl) (by kernel_rfl) (fun _ _ _ h => h) (Or.inl ⟨by rfl, ?_⟩) (by assumption) ?_
      rotate_left
      · (intro w9 hS9; (try dsimp only at hS9); go_simp); all_goals (with_reducible rfl)
      (try simp only [Act.put, List.setIfInBounds_toArray, List.set_cons_zero, List.set_cons_succ])
      refine wpAnyH_take (i := 2) (oi := { dst := some 36, op := Op.load 24 (Operand.tmp 3), type := 24, pos := "law.go:24", after := #[], guard := none }) (v := ?_) rfl (by kernel_rfl) (by kernel_rfl) (by kernel_rfl) (fun _ _ _ h => h) (Or.inl ⟨by rfl, ?_⟩) (by assumption) ?_
      rotate_left
      · (intro w9 hS9; (try dsimp only at hS9); go_simp); all_goals (with_reducible rfl)
      (try simp only [Act.put, List.setIfInBounds_toArray, List.set_cons_zero, List.set_cons_succ])
      refine wpAnyH_ready (rs := [1, 8]) (by kernel_rfl) (by simp) ?_
      refine AllReadyH.cons (o := { dst := some 35, op := Op.call { callee := Callee.value (Operand.func 21), args := #[Operand.tmp 34], argTypes := #[24] }, type := 27, pos := "law.go:24", after := #[{ on := 0, ground := Ground.data }], guard := none }) rfl (fun K hK => ?_) ?_
      · go_simp
        with_reducible refine (C2.out _).mono ?_
        rintro e w1 ⟨rfl, hb1⟩
        have hS1 := HN.out _ _ (by assumption) hb1
        have hsz := hb1.size
        (try simp only [size_alloc, heap_drew] at hsz)
        (try go_wp2_with fail)
        refine hK.out _ _ ?_ (fun hHeld => ?_)
        · (first | exact hS1 | assumption | exact HN.out _ _ (by assumption) (below_alloc (Below.refl _ _) _) | exact HR.out _ _ _ (by assumption) (by first | omega | (simp; try omega)))
        clear hK K
        (try simp only [Act.put, List.setIfInBounds_toArray, List.set_cons_zero, List.set_cons_succ])
        refine wpAnyH_ready (rs := [3, 8]) (by kernel_rfl) (by simp) ?_
        refine AllReadyH.cons (o := { dst := some 37, op := Op.call { callee := Callee.value (Operand.func 21), args := #[Operand.tmp 36], argTypes := #[24] }, type := 27, pos := "law.go:24", after := #[{ on := 2, ground := Ground.data }, { on := 1, ground := Ground.chain }], guard := none }) rfl (fun K hK => ?_) ?_
        · go_simp
          with_reducible refine (C3.out _).mono ?_
          rintro e w1 ⟨rfl, hb1⟩
          have hS1 := HN.out _ _ (by assumption) hb1
          have hsz := hb1.size
          (try simp only [size_alloc, heap_drew] at hsz)
          (try go_wp2_with fail)
          refine hK.out _ _ ?_ (fun hHeld => ?_)
          · (first | exact hS1 | assumption | exact HN.out _ _ (by assumption) (below_alloc (Below.refl _ _) _) | exact HR.out _ _ _ (by assumption) (by first | omega | (simp; try omega)))
          clear hK K
          (try simp only [Act.put, List.setIfInBounds_toArray, List.set_cons_zero, List.set_cons_succ])
          refine wpAnyH_ready (rs := [4, 8]) (by kernel_rfl) (by simp) ?_
          refine AllReadyH.cons (o := { dst := some 38, op := Op.call { callee := Callee.value (Operand.func 23), args := #[Operand.tmp 35, Operand.tmp 37], argTypes := #[27, 27] }, type := 28, pos := "law.go:24", after := #[{ on := 1, ground := Ground.data }, { on := 3, ground := Ground.data }, { on := 3, ground := Ground.chain }], guard := none }) rfl (fun K hK => ?_) ?_
          · go_simp
            with_reducible refine (C6.out _).mono ?_
            rintro e w1 ⟨rfl, hb1⟩
            have hS1 := HN.out _ _ (by assumption) hb1
            have hsz := hb1.size
            (try simp only [size_alloc, heap_drew] at hsz)
            (try go_wp2_with fail)
            refine hK.out _ _ ?_ (fun hHeld => ?_)
            · (first | exact hS1 | assumption | exact HN.out _ _ (by assumption) (below_alloc (Below.refl _ _) _) | exact HR.out _ _ _ (by assumption) (by first | omega | (simp; try omega)))
            clear hK K
            (try simp only [Act.put, List.setIfInBounds_toArray, List.set_cons_zero, List.set_cons_succ])
            refine wpAnyH_take (i := 5) (oi := { dst := some 33, op := Op.move (Operand.tmp 38), type := 28, pos := "law.go:24", after := #[{ on := 4, ground := Ground.data }], guard := none }) (v := ?_) rfl (by kernel_rfl) (by kernel_rfl) (by kernel_rfl) (fun _ _ _ h => h) (Or.inl ⟨by rfl, ?_⟩) (by assumption) ?_
            rotate_left
            · (intro w9 hS9; (try dsimp only at hS9); go_simp); all_goals (with_reducible rfl)
            (try simp only [Act.put, List.setIfInBounds_toArray, List.set_cons_zero, List.set_cons_succ])
            refine wpAnyH_take (i := 6) (oi := { dst := some 39, op := Op.extract (Operand.tmp 33) 0, type := 27, pos := "law.go:24", after := #[{ on := 5, ground := Ground.data }], guard := none }) (v := ?_) rfl (by kernel_rfl) (by kernel_rfl) (by kernel_rfl) (fun _ _ _ h => h) (Or.inl ⟨by rfl, ?_⟩) (by assumption) ?_
            rotate_left
            · (intro w9 hS9; (try dsimp only at hS9); go_simp); all_goals (with_reducible rfl)
            (try simp only [Act.put, List.setIfInBounds_toArray, List.set_cons_zero, List.set_cons_succ])
            refine wpAnyH_take (i := 7) (oi := { dst := some 40, op := Op.extract (Operand.tmp 33) 1, type := 4, pos := "law.go:24", after := #[{ on := 5, ground := Ground.data }, { on := 9, ground := Ground.gcOnly Departure.lateStores }], guard := none }) (v := ?_) rfl (by kernel_rfl) (by kernel_rfl) (by kernel_rfl) (fun _ _ _ h => h) (Or.inl ⟨by rfl, ?_⟩) (by assumption) ?_
            rotate_left
            · (intro w9 hS9; (try dsimp only at hS9); go_simp); all_goals (with_reducible rfl)
            (try simp only [Act.put, List.setIfInBounds_toArray, List.set_cons_zero, List.set_cons_succ])
            refine wpAnyH_ready (rs := [8]) (by kernel_rfl) (by simp) ?_
            refine AllReadyH.cons (o := { dst := some 11, op := Op.alloc 27, type := 0, pos := "law.go:24", after := #[], guard := none }) rfl (fun K hK => ?_) ?_
            · go_simp
              skip
              (try go_wp2_with fail)
              refine hK.out _ _ ?_ (fun hHeld => ?_)
              · (first | exact hS1 | assumption | exact HN.out _ _ (by assumption) (below_alloc (Below.refl _ _) _) | exact HR.out _ _ _ (by assumption) (by first | omega | (simp; try omega)))
              clear hK K
              (try simp only [Act.put, List.setIfInBounds_toArray, List.set_cons_zero, List.set_cons_succ])
              refine wpAnyH_ready (rs := [9]) (by kernel_rfl) (by simp) ?_
              refine AllReadyH.cons (o := { dst := none, op := Op.store 27 (Operand.tmp 11) (Operand.tmp 39), type := 0, pos := "law.go:24", after := #[{ on := 8, ground := Ground.data }, { on := 6, ground := Ground.data }, { on := 4, ground := Ground.chain }, { on := 0, ground := Ground.phase }, { on := 1, ground := Ground.phase }, { on := 2, ground := Ground.phase }, { on := 3, ground := Ground.phase }, { on := 4, ground := Ground.phase }, { on := 5, ground := Ground.phase }, { on := 6, ground := Ground.phase }, { on := 7, ground := Ground.textOnly Departure.lateStores }, { on := 8, ground := Ground.phase }], guard := none }) rfl (fun K hK => ?_) ?_
              · rw [if_pos (by rfl)]
                refine wp_store_row 27 _ _ rfl _ #[.int .u64 dh, .int .u64 dl] rfl rfl 27 #[.int .u64 0, .int .u64 0] ?_ size27 rfl (one2 _ _) ?_
                · repeat' first | with_reducible exact heap_alloc_new _ _ | with_reducible exact heap_alloc2_new _ _ _ | with_reducible refine old_drew ?_ | with_reducible refine old_alloc _ ?_ | with_reducible refine old_row _ (by simp; try omega) ?_ | with_reducible refine old_below (by assumption) ?_
                (try go_wp2_with fail)
                refine hK.out _ _ ?_ (fun hHeld => ?_)
                · (first | exact hS1 | assumption | exact HN.out _ _ (by assumption) (below_alloc (Below.refl _ _) _) | exact HR.out _ _ _ (by assumption) (by first | omega | (simp; try omega)))
                clear hK K
                (try simp only [Act.put, List.setIfInBounds_toArray, List.set_cons_zero, List.set_cons_succ])
                refine wpAnyH_take (i := 10) (oi := { dst := some 12, op := Op.assign (Operand.tmp 40), type := 4, pos := "law.go:24", after := #[{ on := 7, ground := Ground.data }, { on := 9, ground := Ground.chain }, { on := 0, ground := Ground.phase }, { on := 1, ground := Ground.phase }, { on := 2, ground := Ground.phase }, { on := 3, ground := Ground.phase }, { on := 4, ground := Ground.phase }, { on := 5, ground := Ground.phase }, { on := 6, ground := Ground.phase }, { on := 7, ground := Ground.phase }, { on := 8, ground := Ground.phase }, { on := 9, ground := Ground.phase }], guard := none }) (v := ?_) rfl (by kernel_rfl) (by kernel_rfl) (by kernel_rfl) (fun _ _ _ h => h) (Or.inl ⟨by rfl, ?_⟩) (by assumption) ?_
                rotate_left
                · (intro w9 hS9; (try dsimp only at hS9); go_simp); all_goals (with_reducible rfl)
                (try simp only [Act.put, List.setIfInBounds_toArray, List.set_cons_zero, List.set_cons_succ])
                refine wpAnyH_done (by kernel_rfl) (NoPanic.normal ?_) _
                go_wp2_with fail
                go_meet
                case rel =>
                  refine ⟨_, rfl, rfl, Boxes.cons (And.left (by assumption)) ?_⟩
                  refine setRow_heap _ _ #[.int .u64 0, .int .u64 0] _ 27 (0, 0) ?_
                  repeat' first | with_reducible exact heap_alloc_new _ _ | with_reducible exact heap_alloc2_new _ _ _ | with_reducible refine old_drew ?_ | with_reducible refine old_alloc _ ?_ | with_reducible refine old_row _ (by simp; try omega) ?_ | with_reducible refine old_below (by assumption) ?_
              exact AllReadyH.nil
            exact AllReadyH.nil
          refine AllReadyH.cons (o := { dst := some 11, op := Op.alloc 27, type := 0, pos := "law.go:24", after := #[], guard := none }) rfl (fun K hK => ?_) ?_
          · go_simp
            skip
            (try go_wp2_with fail)
            refine hK.out _ _ ?_ (fun hHeld => ?_)
            · (first | exact hS1 | assumption | exact HN.out _ _ (by assumption) (below_alloc (Below.refl _ _) _) | exact HR.out _ _ _ (by assumption) (by first | omega | (simp; try omega)))
            clear hK K
            (try simp only [Act.put, List.setIfInBounds_toArray, List.set_cons_zero, List.set_cons_succ])
            refine wpAnyH_ready (rs := [4]) (by kernel_rfl) (by simp) ?_
            refine AllReadyH.cons (o := { dst := some 38, op := Op.call { callee := Callee.value (Operand.func 23), args := #[Operand.tmp 35, Operand.tmp 37], argTypes := #[27, 27] }, type := 28, pos := "law.go:24", after := #[{ on := 1, ground := Ground.data }, { on := 3, ground := Ground.data }, { on := 3, ground := Ground.chain }], guard := none }) rfl (fun K hK => ?_) ?_
            · go_simp
              with_reducible refine (C6.out _).mono ?_
              rintro e w1 ⟨rfl, hb1⟩
              have hS1 := HN.out _ _ (by assumption) hb1
              have hsz := hb1.size
              (try simp only [size_alloc, heap_drew] at hsz)
              (try go_wp2_with fail)
              refine hK.out _ _ ?_ (fun hHeld => ?_)
              · (first | exact hS1 | assumption | exact HN.out _ _ (by assumption) (below_alloc (Below.refl _ _) _) | exact HR.out _ _ _ (by assumption) (by first | omega | (simp; try omega)))
              clear hK K
              (try simp only [Act.put, List.setIfInBounds_toArray, List.set_cons_zero, List.set_cons_succ])
              refine wpAnyH_take (i := 5) (oi := { dst := some 33, op := Op.move (Operand.tmp 38), type := 28, pos := "law.go:24", after := #[{ on := 4, ground := Ground.data }], guard := none }) (v := ?_) rfl (by kernel_rfl) (by kernel_rfl) (by kernel_rfl) (fun _ _ _ h => h) (Or.inl ⟨by rfl, ?_⟩) (by assumption) ?_
              rotate_left
              · (intro w9 hS9; (try dsimp only at hS9); go_simp); all_goals (with_reducible rfl)
              (try simp only [Act.put, List.setIfInBounds_toArray, List.set_cons_zero, List.set_cons_succ])
              refine wpAnyH_take (i := 6) (oi := { dst := some 39, op := Op.extract (Operand.tmp 33) 0, type := 27, pos := "law.go:24", after := #[{ on := 5, ground := Ground.data }], guard := none }) (v := ?_) rfl (by kernel_rfl) (by kernel_rfl) (by kernel_rfl) (fun _ _ _ h => h) (Or.inl ⟨by rfl, ?_⟩) (by assumption) ?_
              rotate_left
              · (intro w9 hS9; (try dsimp only at hS9); go_simp); all_goals (with_reducible rfl)
              (try simp only [Act.put, List.setIfInBounds_toArray, List.set_cons_zero, List.set_cons_succ])
              refine wpAnyH_take (i := 7) (oi := { dst := some 40, op := Op.extract (Operand.tmp 33) 1, type := 4, pos := "law.go:24", after := #[{ on := 5, ground := Ground.data }, { on := 9, ground := Ground.gcOnly Departure.lateStores }], guard := none }) (v := ?_) rfl (by kernel_rfl) (by kernel_rfl) (by kernel_rfl) (fun _ _ _ h => h) (Or.inl ⟨by rfl, ?_⟩) (by assumption) ?_
              rotate_left
              · (intro w9 hS9; (try dsimp only at hS9); go_simp); all_goals (with_reducible rfl)
              (try simp only [Act.put, List.setIfInBounds_toArray, List.set_cons_zero, List.set_cons_succ])
              refine wpAnyH_ready (rs := [9]) (by kernel_rfl) (by simp) ?_
              refine AllReadyH.cons (o := { dst := none, op := Op.store 27 (Operand.tmp 11) (Operand.tmp 39), type := 0, pos := "law.go:24", after := #[{ on := 8, ground := Ground.data }, { on := 6, ground := Ground.data }, { on := 4, ground := Ground.chain }, { on := 0, ground := Ground.phase }, { on := 1, ground := Ground.phase }, { on := 2, ground := Ground.phase }, { on := 3, ground := Ground.phase }, { on := 4, ground := Ground.phase }, { on := 5, ground := Ground.phase }, { on := 6, ground := Ground.phase }, { on := 7, ground := Ground.textOnly Departure.lateStores }, { on := 8, ground := Ground.phase }], guard := none }) rfl (fun K hK => ?_) ?_
              · rw [if_pos (by rfl)]
                refine wp_store_row 27 _ _ rfl _ #[.int .u64 dh, .int .u64 dl] rfl rfl 27 #[.int .u64 0, .int .u64 0] ?_ size27 rfl (one2 _ _) ?_
                · repeat' first | with_reducible exact heap_alloc_new _ _ | with_reducible exact heap_alloc2_new _ _ _ | with_reducible refine old_drew ?_ | with_reducible refine old_alloc _ ?_ | with_reducible refine old_row _ (by simp; try omega) ?_ | with_reducible refine old_below (by assumption) ?_
                (try go_wp2_with fail)
                refine hK.out _ _ ?_ (fun hHeld => ?_)
                · (first | exact hS1 | assumption | exact HN.out _ _ (by assumption) (below_alloc (Below.refl _ _) _) | exact HR.out _ _ _ (by assumption) (by first | omega | (simp; try omega)))
                clear hK K
                (try simp only [Act.put, List.setIfInBounds_toArray, List.set_cons_zero, List.set_cons_succ])
                refine wpAnyH_take (i := 10) (oi := { dst := some 12, op := Op.assign (Operand.tmp 40), type := 4, pos := "law.go:24", after := #[{ on := 7, ground := Ground.data }, { on := 9, ground := Ground.chain }, { on := 0, ground := Ground.phase }, { on := 1, ground := Ground.phase }, { on := 2, ground := Ground.phase }, { on := 3, ground := Ground.phase }, { on := 4, ground := Ground.phase }, { on := 5, ground := Ground.phase }, { on := 6, ground := Ground.phase }, { on := 7, ground := Ground.phase }, { on := 8, ground := Ground.phase }, { on := 9, ground := Ground.phase }], guard := none }) (v := ?_) rfl (by kernel_rfl) (by kernel_rfl) (by kernel_rfl) (fun _ _ _ h => h) (Or.inl ⟨by rfl, ?_⟩) (by assumption) ?_
                rotate_left
                · (intro w9 hS9; (try dsimp only at hS9); go_simp); all_goals (with_reducible rfl)
                (try simp only [Act.put, List.setIfInBounds_toArray, List.set_cons_zero, List.set_cons_succ])
                refine wpAnyH_done (by kernel_rfl) (NoPanic.normal ?_) _
                go_wp2_with fail
                go_meet
                case rel =>
                  refine ⟨_, rfl, rfl, Boxes.cons (And.left (by assumption)) ?_⟩
                  refine setRow_heap _ _ #[.int .u64 0, .int .u64 0] _ 27 (0, 0) ?_
                  repeat' first | with_reducible exact heap_alloc_new _ _ | with_reducible exact heap_alloc2_new _ _ _ | with_reducible refine old_drew ?_ | with_reducible refine old_alloc _ ?_ | with_reducible refine old_row _ (by simp; try omega) ?_ | with_reducible refine old_below (by assumption) ?_
              exact AllReadyH.nil
            exact AllReadyH.nil
          exact AllReadyH.nil
        refine AllReadyH.cons (o := { dst := some 11, op := Op.alloc 27, type := 0, pos := "law.go:24", after := #[], guard := none }) rfl (fun K hK => ?_) ?_
        · go_simp
          skip
          (try go_wp2_with fail)
          refine hK.out _ _ ?_ (fun hHeld => ?_)
          · (first | exact hS1 | assumption | exact HN.out _ _ (by assumption) (below_alloc (Below.refl _ _) _) | exact HR.out _ _ _ (by assumption) (by first | omega | (simp; try omega)))
          clear hK K
          (try simp only [Act.put, List.setIfInBounds_toArray, List.set_cons_zero, List.set_cons_succ])
          refine wpAnyH_ready (rs := [3]) (by kernel_rfl) (by simp) ?_
          refine AllReadyH.cons (o := { dst := some 37, op := Op.call { callee := Callee.value (Operand.func 21), args := #[Operand.tmp 36], argTypes := #[24] }, type := 27, pos := "law.go:24", after := #[{ on := 2, ground := Ground.data }, { on := 1, ground := Ground.chain }], guard := none }) rfl (fun K hK => ?_) ?_
          · go_simp
            with_reducible refine (C3.out _).mono ?_
            rintro e w1 ⟨rfl, hb1⟩
            have hS1 := HN.out _ _ (by assumption) hb1
            have hsz := hb1.size
            (try simp only [size_alloc, heap_drew] at hsz)
            (try go_wp2_with fail)
            refine hK.out _ _ ?_ (fun hHeld => ?_)
            · (first | exact hS1 | assumption | exact HN.out _ _ (by assumption) (below_alloc (Below.refl _ _) _) | exact HR.out _ _ _ (by assumption) (by first | omega | (simp; try omega)))
            clear hK K
            (try simp only [Act.put, List.setIfInBounds_toArray, List.set_cons_zero, List.set_cons_succ])
            refine wpAnyH_ready (rs := [4]) (by kernel_rfl) (by simp) ?_
            refine AllReadyH.cons (o := { dst := some 38, op := Op.call { callee := Callee.value (Operand.func 23), args := #[Operand.tmp 35, Operand.tmp 37], argTypes := #[27, 27] }, type := 28, pos := "law.go:24", after := #[{ on := 1, ground := Ground.data }, { on := 3, ground := Ground.data }, { on := 3, ground := Ground.chain }], guard := none }) rfl (fun K hK => ?_) ?_
            · go_simp
              with_reducible refine (C6.out _).mono ?_
              rintro e w1 ⟨rfl, hb1⟩
              have hS1 := HN.out _ _ (by assumption) hb1
              have hsz := hb1.size
              (try simp only [size_alloc, heap_drew] at hsz)
              (try go_wp2_with fail)
              refine hK.out _ _ ?_ (fun hHeld => ?_)
              · (first | exact hS1 | assumption | exact HN.out _ _ (by assumption) (below_alloc (Below.refl _ _) _) | exact HR.out _ _ _ (by assumption) (by first | omega | (simp; try omega)))
              clear hK K
              (try simp only [Act.put, List.setIfInBounds_toArray, List.set_cons_zero, List.set_cons_succ])
              refine wpAnyH_take (i := 5) (oi := { dst := some 33, op := Op.move (Operand.tmp 38), type := 28, pos := "law.go:24", after := #[{ on := 4, ground := Ground.data }], guard := none }) (v := ?_) rfl (by kernel_rfl) (by kernel_rfl) (by kernel_rfl) (fun _ _ _ h => h) (Or.inl ⟨by rfl, ?_⟩) (by assumption) ?_
              rotate_left
              · (intro w9 hS9; (try dsimp only at hS9); go_simp); all_goals (with_reducible rfl)
              (try simp only [Act.put, List.setIfInBounds_toArray, List.set_cons_zero, List.set_cons_succ])
              refine wpAnyH_take (i := 6) (oi := { dst := some 39, op := Op.extract (Operand.tmp 33) 0, type := 27, pos := "law.go:24", after := #[{ on := 5, ground := Ground.data }], guard := none }) (v := ?_) rfl (by kernel_rfl) (by kernel_rfl) (by kernel_rfl) (fun _ _ _ h => h) (Or.inl ⟨by rfl, ?_⟩) (by assumption) ?_
              rotate_left
              · (intro w9 hS9; (try dsimp only at hS9); go_simp); all_goals (with_reducible rfl)
              (try simp only [Act.put, List.setIfInBounds_toArray, List.set_cons_zero, List.set_cons_succ])
              refine wpAnyH_take (i := 7) (oi := { dst := some 40, op := Op.extract (Operand.tmp 33) 1, type := 4, pos := "law.go:24", after := #[{ on := 5, ground := Ground.data }, { on := 9, ground := Ground.gcOnly Departure.lateStores }], guard := none }) (v := ?_) rfl (by kernel_rfl) (by kernel_rfl) (by kernel_rfl) (fun _ _ _ h => h) (Or.inl ⟨by rfl, ?_⟩) (by assumption) ?_
              rotate_left
              · (intro w9 hS9; (try dsimp only at hS9); go_simp); all_goals (with_reducible rfl)
              (try simp only [Act.put, List.setIfInBounds_toArray, List.set_cons_zero, List.set_cons_succ])
              refine wpAnyH_ready (rs := [9]) (by kernel_rfl) (by simp) ?_
              refine AllReadyH.cons (o := { dst := none, op := Op.store 27 (Operand.tmp 11) (Operand.tmp 39), type := 0, pos := "law.go:24", after := #[{ on := 8, ground := Ground.data }, { on := 6, ground := Ground.data }, { on := 4, ground := Ground.chain }, { on := 0, ground := Ground.phase }, { on := 1, ground := Ground.phase }, { on := 2, ground := Ground.phase }, { on := 3, ground := Ground.phase }, { on := 4, ground := Ground.phase }, { on := 5, ground := Ground.phase }, { on := 6, ground := Ground.phase }, { on := 7, ground := Ground.textOnly Departure.lateStores }, { on := 8, ground := Ground.phase }], guard := none }) rfl (fun K hK => ?_) ?_
              · rw [if_pos (by rfl)]
                refine wp_store_row 27 _ _ rfl _ #[.int .u64 dh, .int .u64 dl] rfl rfl 27 #[.int .u64 0, .int .u64 0] ?_ size27 rfl (one2 _ _) ?_
                · repeat' first | with_reducible exact heap_alloc_new _ _ | with_reducible exact heap_alloc2_new _ _ _ | with_reducible refine old_drew ?_ | with_reducible refine old_alloc _ ?_ | with_reducible refine old_row _ (by simp; try omega) ?_ | with_reducible refine old_below (by assumption) ?_
                (try go_wp2_with fail)
                refine hK.out _ _ ?_ (fun hHeld => ?_)
                · (first | exact hS1 | assumption | exact HN.out _ _ (by assumption) (below_alloc (Below.refl _ _) _) | exact HR.out _ _ _ (by assumption) (by first | omega | (simp; try omega)))
                clear hK K
                (try simp only [Act.put, List.setIfInBounds_toArray, List.set_cons_zero, List.set_cons_succ])
                refine wpAnyH_take (i := 10) (oi := { dst := some 12, op := Op.assign (Operand.tmp 40), type := 4, pos := "law.go:24", after := #[{ on := 7, ground := Ground.data }, { on := 9, ground := Ground.chain }, { on := 0, ground := Ground.phase }, { on := 1, ground := Ground.phase }, { on := 2, ground := Ground.phase }, { on := 3, ground := Ground.phase }, { on := 4, ground := Ground.phase }, { on := 5, ground := Ground.phase }, { on := 6, ground := Ground.phase }, { on := 7, ground := Ground.phase }, { on := 8, ground := Ground.phase }, { on := 9, ground := Ground.phase }], guard := none }) (v := ?_) rfl (by kernel_rfl) (by kernel_rfl) (by kernel_rfl) (fun _ _ _ h => h) (Or.inl ⟨by rfl, ?_⟩) (by assumption) ?_
                rotate_left
                · (intro w9 hS9; (try dsimp only at hS9); go_simp); all_goals (with_reducible rfl)
                (try simp only [Act.put, List.setIfInBounds_toArray, List.set_cons_zero, List.set_cons_succ])
                refine wpAnyH_done (by kernel_rfl) (NoPanic.normal ?_) _
                go_wp2_with fail
                go_meet
                case rel =>
                  refine ⟨_, rfl, rfl, Boxes.cons (And.left (by assumption)) ?_⟩
                  refine setRow_heap _ _ #[.int .u64 0, .int .u64 0] _ 27 (0, 0) ?_
                  repeat' first | with_reducible exact heap_alloc_new _ _ | with_reducible exact heap_alloc2_new _ _ _ | with_reducible refine old_drew ?_ | with_reducible refine old_alloc _ ?_ | with_reducible refine old_row _ (by simp; try omega) ?_ | with_reducible refine old_below (by assumption) ?_
              exact AllReadyH.nil
            exact AllReadyH.nil
          exact AllReadyH.nil
        exact AllReadyH.nil
      refine AllReadyH.cons (o := { dst := some 11, op := Op.alloc 27, type := 0, pos := "law.go:24", after := #[], guard := none }) rfl (fun K hK => ?_) ?_
      · go_simp
        skip
        (try go_wp2_with fail)
        refine hK.out _ _ ?_ (fun hHeld => ?_)
        · (first | exact hS1 | assumption | exact HN.out _ _ (by assumption) (below_alloc (Below.refl _ _) _) | exact HR.out _ _ _ (by assumption) (by first | omega | (simp; try omega)))
        clear hK K
        (try simp only [Act.put, List.setIfInBounds_toArray, List.set_cons_zero, List.set_cons_succ])
        refine wpAnyH_ready (rs := [1]) (by kernel_rfl) (by simp) ?_
        refine AllReadyH.cons (o := { dst := some 35, op := Op.call { callee := Callee.value (Operand.func 21), args := #[Operand.tmp 34], argTypes := #[24] }, type := 27, pos := "law.go:24", after := #[{ on := 0, ground := Ground.data }], guard := none }) rfl (fun K hK => ?_) ?_
        · go_simp
          with_reducible refine (C2.out _).mono ?_
          rintro e w1 ⟨rfl, hb1⟩
          have hS1 := HN.out _ _ (by assumption) hb1
          have hsz := hb1.size
          (try simp only [size_alloc, heap_drew] at hsz)
          (try go_wp2_with fail)
          refine hK.out _ _ ?_ (fun hHeld => ?_)
          · (first | exact hS1 | assumption | exact HN.out _ _ (by assumption) (below_alloc (Below.refl _ _) _) | exact HR.out _ _ _ (by assumption) (by first | omega | (simp; try omega)))
          clear hK K
          (try simp only [Act.put, List.setIfInBounds_toArray, List.set_cons_zero, List.set_cons_succ])
          refine wpAnyH_ready (rs := [3]) (by kernel_rfl) (by simp) ?_
          refine AllReadyH.cons (o := { dst := some 37, op := Op.call { callee := Callee.value (Operand.func 21), args := #[Operand.tmp 36], argTypes := #[24] }, type := 27, pos := "law.go:24", after := #[{ on := 2, ground := Ground.data }, { on := 1, ground := Ground.chain }], guard := none }) rfl (fun K hK => ?_) ?_
          · go_simp
            with_reducible refine (C3.out _).mono ?_
            rintro e w1 ⟨rfl, hb1⟩
            have hS1 := HN.out _ _ (by assumption) hb1
            have hsz := hb1.size
            (try simp only [size_alloc, heap_drew] at hsz)
            (try go_wp2_with fail)
            refine hK.out _ _ ?_ (fun hHeld => ?_)
            · (first | exact hS1 | assumption | exact HN.out _ _ (by assumption) (below_alloc (Below.refl _ _) _) | exact HR.out _ _ _ (by assumption) (by first | omega | (simp; try omega)))
            clear hK K
            (try simp only [Act.put, List.setIfInBounds_toArray, List.set_cons_zero, List.set_cons_succ])
            refine wpAnyH_ready (rs := [4]) (by kernel_rfl) (by simp) ?_
            refine AllReadyH.cons (o := { dst := some 38, op := Op.call { callee := Callee.value (Operand.func 23), args := #[Operand.tmp 35, Operand.tmp 37], argTypes := #[27, 27] }, type := 28, pos := "law.go:24", after := #[{ on := 1, ground := Ground.data }, { on := 3, ground := Ground.data }, { on := 3, ground := Ground.chain }], guard := none }) rfl (fun K hK => ?_) ?_
            · go_simp
              with_reducible refine (C6.out _).mono ?_
              rintro e w1 ⟨rfl, hb1⟩
              have hS1 := HN.out _ _ (by assumption) hb1
              have hsz := hb1.size
              (try simp only [size_alloc, heap_drew] at hsz)
              (try go_wp2_with fail)
              refine hK.out _ _ ?_ (fun hHeld => ?_)
              · (first | exact hS1 | assumption | exact HN.out _ _ (by assumption) (below_alloc (Below.refl _ _) _) | exact HR.out _ _ _ (by assumption) (by first | omega | (simp; try omega)))
              clear hK K
              (try simp only [Act.put, List.setIfInBounds_toArray, List.set_cons_zero, List.set_cons_succ])
              refine wpAnyH_take (i := 5) (oi := { dst := some 33, op := Op.move (Operand.tmp 38), type := 28, pos := "law.go:24", after := #[{ on := 4, ground := Ground.data }], guard := none }) (v := ?_) rfl (by kernel_rfl) (by kernel_rfl) (by kernel_rfl) (fun _ _ _ h => h) (Or.inl ⟨by rfl, ?_⟩) (by assumption) ?_
              rotate_left
              · (intro w9 hS9; (try dsimp only at hS9); go_simp); all_goals (with_reducible rfl)
              (try simp only [Act.put, List.setIfInBounds_toArray, List.set_cons_zero, List.set_cons_succ])
              refine wpAnyH_take (i := 6) (oi := { dst := some 39, op := Op.extract (Operand.tmp 33) 0, type := 27, pos := "law.go:24", after := #[{ on := 5, ground := Ground.data }], guard := none }) (v := ?_) rfl (by kernel_rfl) (by kernel_rfl) (by kernel_rfl) (fun _ _ _ h => h) (Or.inl ⟨by rfl, ?_⟩) (by assumption) ?_
              rotate_left
              · (intro w9 hS9; (try dsimp only at hS9); go_simp); all_goals (with_reducible rfl)
              (try simp only [Act.put, List.setIfInBounds_toArray, List.set_cons_zero, List.set_cons_succ])
              refine wpAnyH_take (i := 7) (oi := { dst := some 40, op := Op.extract (Operand.tmp 33) 1, type := 4, pos := "law.go:24", after := #[{ on := 5, ground := Ground.data }, { on := 9, ground := Ground.gcOnly Departure.lateStores }], guard := none }) (v := ?_) rfl (by kernel_rfl) (by kernel_rfl) (by kernel_rfl) (fun _ _ _ h => h) (Or.inl ⟨by rfl, ?_⟩) (by assumption) ?_
              rotate_left
              · (intro w9 hS9; (try dsimp only at hS9); go_simp); all_goals (with_reducible rfl)
              (try simp only [Act.put, List.setIfInBounds_toArray, List.set_cons_zero, List.set_cons_succ])
              refine wpAnyH_ready (rs := [9]) (by kernel_rfl) (by simp) ?_
              refine AllReadyH.cons (o := { dst := none, op := Op.store 27 (Operand.tmp 11) (Operand.tmp 39), type := 0, pos := "law.go:24", after := #[{ on := 8, ground := Ground.data }, { on := 6, ground := Ground.data }, { on := 4, ground := Ground.chain }, { on := 0, ground := Ground.phase }, { on := 1, ground := Ground.phase }, { on := 2, ground := Ground.phase }, { on := 3, ground := Ground.phase }, { on := 4, ground := Ground.phase }, { on := 5, ground := Ground.phase }, { on := 6, ground := Ground.phase }, { on := 7, ground := Ground.textOnly Departure.lateStores }, { on := 8, ground := Ground.phase }], guard := none }) rfl (fun K hK => ?_) ?_
              · rw [if_pos (by rfl)]
                refine wp_store_row 27 _ _ rfl _ #[.int .u64 dh, .int .u64 dl] rfl rfl 27 #[.int .u64 0, .int .u64 0] ?_ size27 rfl (one2 _ _) ?_
                · repeat' first | with_reducible exact heap_alloc_new _ _ | with_reducible exact heap_alloc2_new _ _ _ | with_reducible refine old_drew ?_ | with_reducible refine old_alloc _ ?_ | with_reducible refine old_row _ (by simp; try omega) ?_ | with_reducible refine old_below (by assumption) ?_
                (try go_wp2_with fail)
                refine hK.out _ _ ?_ (fun hHeld => ?_)
                · (first | exact hS1 | assumption | exact HN.out _ _ (by assumption) (below_alloc (Below.refl _ _) _) | exact HR.out _ _ _ (by assumption) (by first | omega | (simp; try omega)))
                clear hK K
                (try simp only [Act.put, List.setIfInBounds_toArray, List.set_cons_zero, List.set_cons_succ])
                refine wpAnyH_take (i := 10) (oi := { dst := some 12, op := Op.assign (Operand.tmp 40), type := 4, pos := "law.go:24", after := #[{ on := 7, ground := Ground.data }, { on := 9, ground := Ground.chain }, { on := 0, ground := Ground.phase }, { on := 1, ground := Ground.phase }, { on := 2, ground := Ground.phase }, { on := 3, ground := Ground.phase }, { on := 4, ground := Ground.phase }, { on := 5, ground := Ground.phase }, { on := 6, ground := Ground.phase }, { on := 7, ground := Ground.phase }, { on := 8, ground := Ground.phase }, { on := 9, ground := Ground.phase }], guard := none }) (v := ?_) rfl (by kernel_rfl) (by kernel_rfl) (by kernel_rfl) (fun _ _ _ h => h) (Or.inl ⟨by rfl, ?_⟩) (by assumption) ?_
                rotate_left
                · (intro w9 hS9; (try dsimp only at hS9); go_simp); all_goals (with_reducible rfl)
                (try simp only [Act.put, List.setIfInBounds_toArray, List.set_cons_zero, List.set_cons_succ])
                refine wpAnyH_done (by kernel_rfl) (NoPanic.normal ?_) _
                go_wp2_with fail
                go_meet
                case rel =>
                  refine ⟨_, rfl, rfl, Boxes.cons (And.left (by assumption)) ?_⟩
                  refine setRow_heap _ _ #[.int .u64 0, .int .u64 0] _ 27 (0, 0) ?_
                  repeat' first | with_reducible exact heap_alloc_new _ _ | with_reducible exact heap_alloc2_new _ _ _ | with_reducible refine old_drew ?_ | with_reducible refine old_alloc _ ?_ | with_reducible refine old_row _ (by simp; try omega) ?_ | with_reducible refine old_below (by assumption) ?_
              exact AllReadyH.nil
            exact AllReadyH.nil
          exact AllReadyH.nil
        exact AllReadyH.nil
      exact AllReadyH.nil
    case rest =>
      obtain ⟨b11, rfl, rfl, hX⟩ := hcut
      have HX4 := Lib.hid hX
      clear hX HX3
      generalize wc = w4 at *
      go_wp2_with fail
      have HNk : ∀ W, Boxes w W [(b11, 27, dh, dl), (c3, 24, dh, dl), (b7, 27, sh, sl), (c1, 24, sh, sl), (w.heap.size + 1, 24, bh, bl), (w.heap.size, 24, ah, al)] → (Boxes w W [(b11, 27, dh, dl), (c3, 24, dh, dl), (b7, 27, sh, sl), (c1, 24, sh, sl), (w.heap.size + 1, 24, bh, bl), (w.heap.size, 24, ah, al)] ∧ (W.cell? ⟨b11, 0, none⟩ = some (.int .u64 dh) ∧ W.cell? ⟨b11, 1, none⟩ = some (.int .u64 dl)) ∧ (W.cell? ⟨c3, 0, none⟩ = some (.int .u64 dh) ∧ W.cell? ⟨c3, 1, none⟩ = some (.int .u64 dl)) ∧ (W.cell? ⟨b7, 0, none⟩ = some (.int .u64 sh) ∧ W.cell? ⟨b7, 1, none⟩ = some (.int .u64 sl)) ∧ (W.cell? ⟨c1, 0, none⟩ = some (.int .u64 sh) ∧ W.cell? ⟨c1, 1, none⟩ = some (.int .u64 sl)) ∧ (W.cell? ⟨w.heap.size + 1, 0, none⟩ = some (.int .u64 bh) ∧ W.cell? ⟨w.heap.size + 1, 1, none⟩ = some (.int .u64 bl)) ∧ (W.cell? ⟨w.heap.size, 0, none⟩ = some (.int .u64 ah) ∧ W.cell? ⟨w.heap.size, 1, none⟩ = some (.int .u64 al))) := fun W h => ⟨h, two_cells (h.all (b11, 27, dh, dl) (by simp)), two_cells (h.all (c3, 24, dh, dl) (by simp)), two_cells (h.all (b7, 27, sh, sl) (by simp)), two_cells (h.all (c1, 24, sh, sl) (by simp)), two_cells (h.all (w.heap.size + 1, 24, bh, bl) (by simp)), two_cells (h.all (w.heap.size, 24, ah, al) (by simp))⟩
      have HN : Hid (∀ W V, (Boxes w W [(b11, 27, dh, dl), (c3, 24, dh, dl), (b7, 27, sh, sl), (c1, 24, sh, sl), (w.heap.size + 1, 24, bh, bl), (w.heap.size, 24, ah, al)] ∧ (W.cell? ⟨b11, 0, none⟩ = some (.int .u64 dh) ∧ W.cell? ⟨b11, 1, none⟩ = some (.int .u64 dl)) ∧ (W.cell? ⟨c3, 0, none⟩ = some (.int .u64 dh) ∧ W.cell? ⟨c3, 1, none⟩ = some (.int .u64 dl)) ∧ (W.cell? ⟨b7, 0, none⟩ = some (.int .u64 sh) ∧ W.cell? ⟨b7, 1, none⟩ = some (.int .u64 sl)) ∧ (W.cell? ⟨c1, 0, none⟩ = some (.int .u64 sh) ∧ W.cell? ⟨c1, 1, none⟩ = some (.int .u64 sl)) ∧ (W.cell? ⟨w.heap.size + 1, 0, none⟩ = some (.int .u64 bh) ∧ W.cell? ⟨w.heap.size + 1, 1, none⟩ = some (.int .u64 bl)) ∧ (W.cell? ⟨w.heap.size, 0, none⟩ = some (.int .u64 ah) ∧ W.cell? ⟨w.heap.size, 1, none⟩ = some (.int .u64 al))) → Below W.heap.size W V → (Boxes w V [(b11, 27, dh, dl), (c3, 24, dh, dl), (b7, 27, sh, sl), (c1, 24, sh, sl), (w.heap.size + 1, 24, bh, bl), (w.heap.size, 24, ah, al)] ∧ (V.cell? ⟨b11, 0, none⟩ = some (.int .u64 dh) ∧ V.cell? ⟨b11, 1, none⟩ = some (.int .u64 dl)) ∧ (V.cell? ⟨c3, 0, none⟩ = some (.int .u64 dh) ∧ V.cell? ⟨c3, 1, none⟩ = some (.int .u64 dl)) ∧ (V.cell? ⟨b7, 0, none⟩ = some (.int .u64 sh) ∧ V.cell? ⟨b7, 1, none⟩ = some (.int .u64 sl)) ∧ (V.cell? ⟨c1, 0, none⟩ = some (.int .u64 sh) ∧ V.cell? ⟨c1, 1, none⟩ = some (.int .u64 sl)) ∧ (V.cell? ⟨w.heap.size + 1, 0, none⟩ = some (.int .u64 bh) ∧ V.cell? ⟨w.heap.size + 1, 1, none⟩ = some (.int .u64 bl)) ∧ (V.cell? ⟨w.heap.size, 0, none⟩ = some (.int .u64 ah) ∧ V.cell? ⟨w.heap.size, 1, none⟩ = some (.int .u64 al)))) := fun W V h hb => HNk _ (h.1.next hb)
      have HS0 : Hid (Boxes w w4.drew [(b11, 27, dh, dl), (c3, 24, dh, dl), (b7, 27, sh, sl), (c1, 24, sh, sl), (w.heap.size + 1, 24, bh, bl), (w.heap.size, 24, ah, al)] ∧ (w4.drew.cell? ⟨b11, 0, none⟩ = some (.int .u64 dh) ∧ w4.drew.cell? ⟨b11, 1, none⟩ = some (.int .u64 dl)) ∧ (w4.drew.cell? ⟨c3, 0, none⟩ = some (.int .u64 dh) ∧ w4.drew.cell? ⟨c3, 1, none⟩ = some (.int .u64 dl)) ∧ (w4.drew.cell? ⟨b7, 0, none⟩ = some (.int .u64 sh) ∧ w4.drew.cell? ⟨b7, 1, none⟩ = some (.int .u64 sl)) ∧ (w4.drew.cell? ⟨c1, 0, none⟩ = some (.int .u64 sh) ∧ w4.drew.cell? ⟨c1, 1, none⟩ = some (.int .u64 sl)) ∧ (w4.drew.cell? ⟨w.heap.size + 1, 0, none⟩ = some (.int .u64 bh) ∧ w4.drew.cell? ⟨w.heap.size + 1, 1, none⟩ = some (.int .u64 bl)) ∧ (w4.drew.cell? ⟨w.heap.size, 0, none⟩ = some (.int .u64 ah) ∧ w4.drew.cell? ⟨w.heap.size, 1, none⟩ = some (.int .u64 al))) := HNk _ (HX4.out.next ⟨rfl, rfl, rfl, Nat.le_refl _, fun _ _ => rfl⟩)
      have HF : Hid (∀ W, (Boxes w W [(b11, 27, dh, dl), (c3, 24, dh, dl), (b7, 27, sh, sl), (c1, 24, sh, sl), (w.heap.size + 1, 24, bh, bl), (w.heap.size, 24, ah, al)] ∧ (W.cell? ⟨b11, 0, none⟩ = some (.int .u64 dh) ∧ W.cell? ⟨b11, 1, none⟩ = some (.int .u64 dl)) ∧ (W.cell? ⟨c3, 0, none⟩ = some (.int .u64 dh) ∧ W.cell? ⟨c3, 1, none⟩ = some (.int .u64 dl)) ∧ (W.cell? ⟨b7, 0, none⟩ = some (.int .u64 sh) ∧ W.cell? ⟨b7, 1, none⟩ = some (.int .u64 sl)) ∧ (W.cell? ⟨c1, 0, none⟩ = some (.int .u64 sh) ∧ W.cell? ⟨c1, 1, none⟩ = some (.int .u64 sl)) ∧ (W.cell? ⟨w.heap.size + 1, 0, none⟩ = some (.int .u64 bh) ∧ W.cell? ⟨w.heap.size + 1, 1, none⟩ = some (.int .u64 bl)) ∧ (W.cell? ⟨w.heap.size, 0, none⟩ = some (.int .u64 ah) ∧ W.cell? ⟨w.heap.size, 1, none⟩ = some (.int .u64 al))) → Below w.heap.size w W) := fun W h => h.1.below
      clear HNk
      go_region_held3 (fun W => Boxes w W [(b11, 27, dh, dl), (c3, 24, dh, dl), (b7, 27, sh, sl), (c1, 24, sh, sl), (w.heap.size + 1, 24, bh, bl), (w.heap.size, 24, ah, al)] ∧ (W.cell? ⟨b11, 0, none⟩ = some (.int .u64 dh) ∧ W.cell? ⟨b11, 1, none⟩ = some (.int .u64 dl)) ∧ (W.cell? ⟨c3, 0, none⟩ = some (.int .u64 dh) ∧ W.cell? ⟨c3, 1, none⟩ = some (.int .u64 dl)) ∧ (W.cell? ⟨b7, 0, none⟩ = some (.int .u64 sh) ∧ W.cell? ⟨b7, 1, none⟩ = some (.int .u64 sl)) ∧ (W.cell? ⟨c1, 0, none⟩ = some (.int .u64 sh) ∧ W.cell? ⟨c1, 1, none⟩ = some (.int .u64 sl)) ∧ (W.cell? ⟨w.heap.size + 1, 0, none⟩ = some (.int .u64 bh) ∧ W.cell? ⟨w.heap.size + 1, 1, none⟩ = some (.int .u64 bl)) ∧ (W.cell? ⟨w.heap.size, 0, none⟩ = some (.int .u64 ah) ∧ W.cell? ⟨w.heap.size, 1, none⟩ = some (.int .u64 al))) (first | exact HS0.out | assumption)
        (first
          | (go_at_call 24; with_reducible refine (alive_any _).mono ?_; rintro e w1 ⟨rfl, hb1⟩; have hS1 := HN.out _ _ (by assumption) hb1; clear hb1)
          | (go_at_call 21; with_reducible refine (C7.out _).mono ?_; rintro e w1 ⟨rfl, hb1⟩; have hS1 := HN.out _ _ (by assumption) hb1; clear hb1)
          | (go_at_call 21; with_reducible refine (C8.out _).mono ?_; rintro e w1 ⟨rfl, hb1⟩; have hS1 := HN.out _ _ (by assumption) hb1; clear hb1)
          | (go_at_call 25; with_reducible refine (C9.out _).mono ?_; rintro e w1 ⟨rfl, hb1⟩; have hS1 := HN.out _ _ (by assumption) hb1; clear hb1)
          | (go_at_call 21; with_reducible refine (C2.out _).mono ?_; rintro e w1 ⟨rfl, hb1⟩; have hS1 := HN.out _ _ (by assumption) hb1; clear hb1)
          | (go_at_call 21; with_reducible refine (C3.out _).mono ?_; rintro e w1 ⟨rfl, hb1⟩; have hS1 := HN.out _ _ (by assumption) hb1; clear hb1)
          | (go_at_call 26; with_reducible refine (C10.out _).mono ?_; rintro e w1 ⟨rfl, hb1⟩; have hS1 := HN.out _ _ (by assumption) hb1; clear hb1)
          | (go_at_call 27; with_reducible refine (C11.out _).mono ?_; rintro e w1 ⟨rfl, hb1⟩; have hS1 := HN.out _ _ (by assumption) hb1; clear hb1))
      all_goals (go_wp2_with fail; go_ret)
      all_goals exact ⟨rfl, HF.out _ (by assumption)⟩

end Go.Proofs.Ytcaeaepnobbjlaa
