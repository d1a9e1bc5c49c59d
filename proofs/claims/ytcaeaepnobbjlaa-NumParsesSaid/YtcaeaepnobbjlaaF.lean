import Derived.Test.YtcaeaepnobbjlaaE
namespace Go.Proofs.Ytcaeaepnobbjlaa
set_option linter.unusedVariables false
set_option linter.unusedSimpArgs false
open Go.RowKit

theorem heap_alloc3_old (w : World) (A B C : Obj) : (((w.alloc A).alloc B).alloc C).heap[w.heap.size]? = some A := by
  rw [heap_alloc_old _ _ (by rw [size_alloc, size_alloc]; omega)]
  exact heap_alloc2_old w A B

/-- What a loop of the document's Add keeps: two rows, the row that it fills, the result's cell. -/
structure AddI (w0 wr : World) (f g h : Nat → Nat) (b5 b6 b8 res : Nat) : Prop where
  rows : Rows2 w0 wr f g b5 b6
  r8 : wr.heap[b8]? = some (.cells (bitsA h) 85 (0, 0))
  l8 : w0.heap.size ≤ b8
  n5 : b5 ≠ b8
  n6 : b6 ≠ b8
  cell : wr.heap[res]? = some (.cells #[.int .u64 0, .int .u64 0] 27 (0, 0))
  lres : res < w0.heap.size
theorem AddI.drew {w0 wr : World} {f g h : Nat → Nat} {b5 b6 b8 res : Nat} (I : AddI w0 wr f g h b5 b6 b8 res) : AddI w0 wr.drew f g h b5 b6 b8 res :=
  ⟨I.rows.drew, I.r8, I.l8, I.n5, I.n6, I.cell, I.lres⟩
theorem AddI.store {w0 wr : World} {f g h : Nat → Nat} {b5 b6 b8 res : Nat} (I : AddI w0 wr f g h b5 b6 b8 res) (k v : Nat) (h' : Nat → Nat) (hh : bitsA (upd h k v) = bitsA h') :
    AddI w0 (wr.setCell ⟨b8, k, none⟩ (.int .u64 v)) f g h' b5 b6 b8 res := by
  have hl := I.lres
  have l8 := I.l8
  refine ⟨⟨I.rows.below.setCell (by simpa using I.l8) _, old_set _ (by simpa using I.n5) I.rows.r5, old_set _ (by simpa using I.n6) I.rows.r6, I.rows.l5, I.rows.l6⟩, ?_, I.l8, I.n5, I.n6, old_set _ (by simp; omega) I.cell, I.lres⟩
  rw [← hh, ← bitsA_set]; exact heap_setCell_same _ _ _ _ _ _ I.r8
theorem AddI.cells {w0 wr : World} {f g h : Nat → Nat} {b5 b6 b8 res : Nat} (I : AddI w0 wr f g h b5 b6 b8 res) (k : Nat) (hk : k < 128) :
    wr.cell? ⟨b8, k, none⟩ = some (.int .u64 (h k)) ∧ wr.frozen? ⟨b8, k, none⟩ = false :=
  ⟨by rw [cell_of_row _ _ _ _ _ _ I.r8]; exact bitsA_get? h k hk, frozen_of_row _ _ _ _ _ I.r8⟩
/-- What is filled from the end: k places. -/
def tail (h : Nat → Nat) (k : Nat) : Nat → Nat := fun j => if 128 ≤ j + k then h j else 0
theorem tail_zero (h : Nat → Nat) : bitsA (tail h 0) = zrow := by
  rw [← bitsA_zero]
  exact bitsA_congr fun j hj => if_neg (by omega)
theorem tail_succ (h : Nat → Nat) (k p : Nat) (hp : p + k = 127) : bitsA (upd (tail h k) p (h p)) = bitsA (tail h (k + 1)) := by
  refine bitsA_congr fun j hj => ?_
  unfold upd tail
  by_cases e : j = p
  · subst e; rw [if_pos rfl, if_pos (by omega)]
  · rw [if_neg e]
    by_cases c : 128 ≤ j + k
    · rw [if_pos c, if_pos (by omega)]
    · rw [if_neg c, if_neg (by omega)]
theorem tail_all (h : Nat → Nat) : bitsA (tail h 128) = bitsA h := bitsA_congr fun j hj => if_pos (by omega)

set_option maxRecDepth 100000 in
set_option maxHeartbeats 8000000 in
theorem refadd_walk (ah al bh bl : Nat) (f g h cs : Nat → Nat) (ha : ∀ w, Calls Try.prog 70 #[wv ah al] w fun e w' => e = .returned (.agg (bitsA f)) ∧ Below w.heap.size w w')
    (hb : ∀ w, Calls Try.prog 70 #[wv bh bl] w fun e w' => e = .returned (.agg (bitsA g)) ∧ Below w.heap.size w w') (s t : Nat)
    (hof : ∀ w, Calls Try.prog 71 #[.agg (bitsA h)] w fun e w' => e = .returned (wv s t) ∧ Below w.heap.size w w')
    (hc0 : cs 0 = 0) (hc : ∀ k, cs k ≤ 1) (hf : ∀ k, f k ≤ 1) (hg : ∀ k, g k ≤ 1) (hstep : ∀ k p, p + k = 127 → (f p + g p + cs k) % 2 = h p ∧ (f p + g p + cs k) / 2 = cs (k + 1))
    (o : Bool) (ho : ((cs 128 : Int) == 1) = o) (w : World) :
    Calls Try.prog 20 #[wv ah al, wv bh bl] w fun e w' => e = .returned (.tuple #[wv s t, .bool o]) ∧ Below w.heap.size w w' := by
  have HA := Lib.hid ha
  have HB := Lib.hid hb
  have HF := Lib.hid hof
  have H0 := Lib.hid hc0
  have HC := Lib.hid hc
  have Hf := Lib.hid hf
  have Hg := Lib.hid hg
  have HS := Lib.hid hstep
  have HO := Lib.hid ho
  clear ha hb hof hc0 hc hf hg hstep ho
  have hz := zero85
  go_enter Try.func20, Try.ntmps20
  go_wp2_with fail
  have hB : Below w.heap.size w (((w.alloc (.cells #[.int .u64 ah, .int .u64 al] 27)).alloc (.cells #[.int .u64 bh, .int .u64 bl] 27)).alloc (.cells #[.int .u64 0, .int .u64 0] 27)) := (((Below.refl _ _).alloc (Nat.le_refl _) _).alloc (by simp) _).alloc (by simp; omega) _
  have e1 := heap_alloc3_old w (.cells #[.int .u64 ah, .int .u64 al] 27) (.cells #[.int .u64 bh, .int .u64 bl] 27) (.cells #[.int .u64 0, .int .u64 0] 27)
  have e2 := heap_alloc3_mid w (.cells #[.int .u64 ah, .int .u64 al] 27) (.cells #[.int .u64 bh, .int .u64 bl] 27) (.cells #[.int .u64 0, .int .u64 0] 27)
  have e3 := heap_alloc3_new w (.cells #[.int .u64 ah, .int .u64 al] 27) (.cells #[.int .u64 bh, .int .u64 bl] 27) (.cells #[.int .u64 0, .int .u64 0] 27)
  have e4 : (((w.alloc (.cells #[.int .u64 ah, .int .u64 al] 27)).alloc (.cells #[.int .u64 bh, .int .u64 bl] 27)).alloc (.cells #[.int .u64 0, .int .u64 0] 27)).heap.size = w.heap.size + 1 + 1 + 1 := by rw [size_alloc, size_alloc, size_alloc]
  generalize ((w.alloc (.cells #[.int .u64 ah, .int .u64 al] 27)).alloc (.cells #[.int .u64 bh, .int .u64 bl] 27)).alloc (.cells #[.int .u64 0, .int .u64 0] 27) = w0 at *
  have HK : ∀ W, Below w0.heap.size w0 W → (Below w0.heap.size w0 W ∧ w0.heap.size ≤ W.heap.size ∧ (W.cell? ⟨w.heap.size, 0, none⟩ = some (.int .u64 ah) ∧ W.cell? ⟨w.heap.size, 1, none⟩ = some (.int .u64 al)) ∧ (W.cell? ⟨w.heap.size + 1, 0, none⟩ = some (.int .u64 bh) ∧ W.cell? ⟨w.heap.size + 1, 1, none⟩ = some (.int .u64 bl))) := fun W h => ⟨h, h.size, two_keep e1 h, two_keep e2 h⟩
  have HN : Hid (∀ W V, (Below w0.heap.size w0 W ∧ w0.heap.size ≤ W.heap.size ∧ (W.cell? ⟨w.heap.size, 0, none⟩ = some (.int .u64 ah) ∧ W.cell? ⟨w.heap.size, 1, none⟩ = some (.int .u64 al)) ∧ (W.cell? ⟨w.heap.size + 1, 0, none⟩ = some (.int .u64 bh) ∧ W.cell? ⟨w.heap.size + 1, 1, none⟩ = some (.int .u64 bl))) → Below W.heap.size W V → (Below w0.heap.size w0 V ∧ w0.heap.size ≤ V.heap.size ∧ (V.cell? ⟨w.heap.size, 0, none⟩ = some (.int .u64 ah) ∧ V.cell? ⟨w.heap.size, 1, none⟩ = some (.int .u64 al)) ∧ (V.cell? ⟨w.heap.size + 1, 0, none⟩ = some (.int .u64 bh) ∧ V.cell? ⟨w.heap.size + 1, 1, none⟩ = some (.int .u64 bl)))) := fun W V h hb => HK _ (below_next h.1 hb)
  have HR : Hid (∀ W g cs, (Below w0.heap.size w0 W ∧ w0.heap.size ≤ W.heap.size ∧ (W.cell? ⟨w.heap.size, 0, none⟩ = some (.int .u64 ah) ∧ W.cell? ⟨w.heap.size, 1, none⟩ = some (.int .u64 al)) ∧ (W.cell? ⟨w.heap.size + 1, 0, none⟩ = some (.int .u64 bh) ∧ W.cell? ⟨w.heap.size + 1, 1, none⟩ = some (.int .u64 bl))) → w0.heap.size ≤ g → (Below w0.heap.size w0 (W.setRow g cs) ∧ w0.heap.size ≤ (W.setRow g cs).heap.size ∧ ((W.setRow g cs).cell? ⟨w.heap.size, 0, none⟩ = some (.int .u64 ah) ∧ (W.setRow g cs).cell? ⟨w.heap.size, 1, none⟩ = some (.int .u64 al)) ∧ ((W.setRow g cs).cell? ⟨w.heap.size + 1, 0, none⟩ = some (.int .u64 bh) ∧ (W.setRow g cs).cell? ⟨w.heap.size + 1, 1, none⟩ = some (.int .u64 bl)))) := fun W g cs h hg => HK _ (below_setRow h.1 g cs hg)
  have HK := Lib.hid HK
  have HW := Lib.hid hB
  have HE : Hid (∀ W, Below w0.heap.size w0 W → W.heap[w.heap.size + 1 + 1]? = some (.cells #[.int .u64 0, .int .u64 0] 27 (0, 0))) := fun W h => old_below h e3
  have HL : Hid (w.heap.size + 1 + 1 < w0.heap.size) := by show _ < _; omega
  clear hB e1 e2 e3 e4
  go_cut [6, 7] from 12 to 15 (fun s5 s6 wx => ∃ b5 b6 : Nat, s5 = .pointer (some ⟨b5, 0, none⟩) ∧ s6 = .pointer (some ⟨b6, 0, none⟩) ∧ Rows2 w0 wx f g b5 b6)
  case first =>
    refine wp_region_noPanic ?_
    refine wp_region_held_drew (S := fun W => Below w0.heap.size w0 W ∧ w0.heap.size ≤ W.heap.size ∧ (W.cell? ⟨w.heap.size, 0, none⟩ = some (.int .u64 ah) ∧ W.cell? ⟨w.heap.size, 1, none⟩ = some (.int .u64 al)) ∧ (W.cell? ⟨w.heap.size + 1, 0, none⟩ = some (.int .u64 bh) ∧ W.cell? ⟨w.heap.size + 1, 1, none⟩ = some (.int .u64 bl))) (by kernel_rfl) ?_ (fun hHeld => ?_)
    · exact HK.out _ (Below.refl _ _).drew
    refine wpAnyH_take (i := 0) (oi := { dst := some 12, op := Op.load 27 (Operand.tmp 2), type := 27, pos := "ref.go:44", after := #[], guard := none }) (v := ?_) rfl (by kernel_rfl) (by kernel_rfl) (by kernel_rfl) (fun _ _ _ h => h) (Or.inl ⟨by rfl, ?_⟩) (by assumption) ?_
    rotate_left
    · (intro w9 hS9; (try dsimp only at hS9); go_simp); all_goals (with_reducible rfl)
    (try simp only [Act.put, List.setIfInBounds_toArray, List.set_cons_zero, List.set_cons_succ])
    refine wpAnyH_take (i := 2) (oi := { dst := some 14, op := Op.load 27 (Operand.tmp 3), type := 27, pos := "ref.go:44", after := #[], guard := none }) (v := ?_) rfl (by kernel_rfl) (by kernel_rfl) (by kernel_rfl) (fun _ _ _ h => h) (Or.inl ⟨by rfl, ?_⟩) (by assumption) ?_
    rotate_left
    · (intro w9 hS9; (try dsimp only at hS9); go_simp); all_goals (with_reducible rfl)
    (try simp only [Act.put, List.setIfInBounds_toArray, List.set_cons_zero, List.set_cons_succ])
    refine wpAnyH_ready (rs := [1, 4, 5]) (by kernel_rfl) (by simp) ?_
    refine AllReadyH.cons (o := { dst := some 13, op := Op.call { callee := Callee.value (Operand.func 70), args := #[Operand.tmp 12], argTypes := #[27] }, type := 85, pos := "ref.go:44", after := #[{ on := 0, ground := Ground.data }], guard := none }) rfl (fun K hK => ?_) ?_
    · go_simp
      with_reducible refine (HA.out _).mono ?_
      rintro e w1 ⟨rfl, hb1⟩
      have hS1 := HN.out _ _ (by assumption) hb1
      have hsz := hb1.size
      (try simp only [size_alloc, heap_drew] at hsz)
      (try go_wp2_with fail)
      refine hK.out _ _ ?_ (fun hHeld => ?_)
      · (first | exact hS1 | assumption | exact HN.out _ _ (by assumption) (below_alloc (Below.refl _ _) _) | exact HR.out _ _ _ (by assumption) (by first | omega | (simp; try omega)))
      clear hK K
      (try simp only [Act.put, List.setIfInBounds_toArray, List.set_cons_zero, List.set_cons_succ])
      refine wpAnyH_ready (rs := [3, 4, 5]) (by kernel_rfl) (by simp) ?_
      refine AllReadyH.cons (o := { dst := some 15, op := Op.call { callee := Callee.value (Operand.func 70), args := #[Operand.tmp 14], argTypes := #[27] }, type := 85, pos := "ref.go:44", after := #[{ on := 2, ground := Ground.data }, { on := 1, ground := Ground.chain }], guard := none }) rfl (fun K hK => ?_) ?_
      · go_simp
        with_reducible refine (HB.out _).mono ?_
        rintro e w1 ⟨rfl, hb1⟩
        have hS1 := HN.out _ _ (by assumption) hb1
        have hsz := hb1.size
        (try simp only [size_alloc, heap_drew] at hsz)
        (try go_wp2_with fail)
        refine hK.out _ _ ?_ (fun hHeld => ?_)
        · (first | exact hS1 | assumption | exact HN.out _ _ (by assumption) (below_alloc (Below.refl _ _) _) | exact HR.out _ _ _ (by assumption) (by first | omega | (simp; try omega)))
        clear hK K
        (try simp only [Act.put, List.setIfInBounds_toArray, List.set_cons_zero, List.set_cons_succ])
        refine wpAnyH_ready (rs := [4, 5]) (by kernel_rfl) (by simp) ?_
        refine AllReadyH.cons (o := { dst := some 6, op := Op.alloc 85, type := 0, pos := "ref.go:44", after := #[], guard := none }) rfl (fun K hK => ?_) ?_
        · go_simp
          skip
          (try go_wp2_with fail)
          refine hK.out _ _ ?_ (fun hHeld => ?_)
          · (first | exact hS1 | assumption | exact HN.out _ _ (by assumption) (below_alloc (Below.refl _ _) _) | exact HR.out _ _ _ (by assumption) (by first | omega | (simp; try omega)))
          clear hK K
          (try simp only [Act.put, List.setIfInBounds_toArray, List.set_cons_zero, List.set_cons_succ])
          refine wpAnyH_ready (rs := [5]) (by kernel_rfl) (by simp) ?_
          refine AllReadyH.cons (o := { dst := some 7, op := Op.alloc 85, type := 0, pos := "ref.go:44", after := #[], guard := none }) rfl (fun K hK => ?_) ?_
          · go_simp
            skip
            (try go_wp2_with fail)
            refine hK.out _ _ ?_ (fun hHeld => ?_)
            · (first | exact hS1 | assumption | exact HN.out _ _ (by assumption) (below_alloc (Below.refl _ _) _) | exact HR.out _ _ _ (by assumption) (by first | omega | (simp; try omega)))
            clear hK K
            (try simp only [Act.put, List.setIfInBounds_toArray, List.set_cons_zero, List.set_cons_succ])
            refine wpAnyH_ready (rs := [6]) (by kernel_rfl) (by simp) ?_
            refine AllReadyH.cons (o := { dst := none, op := Op.store 85 (Operand.tmp 6) (Operand.tmp 13), type := 0, pos := "ref.go:44", after := #[{ on := 4, ground := Ground.data }, { on := 1, ground := Ground.data }, { on := 3, ground := Ground.chain }, { on := 0, ground := Ground.phase }, { on := 1, ground := Ground.phase }, { on := 2, ground := Ground.textOnly Departure.lateStores }, { on := 3, ground := Ground.textOnly Departure.lateStoresUnsure }, { on := 4, ground := Ground.phase }, { on := 5, ground := Ground.phase }], guard := none }) rfl (fun K hK => ?_) ?_
            · rw [if_pos (by rfl)]
              refine wp_store_row 85 _ _ rfl _ _ rfl rfl 85 zrow ?_ (size85.trans (by rw [bitsA_size])) (by simp [zrow, bitsA_size]) (bitsA_one _) ?_
              · repeat' first | with_reducible exact heap_alloc_new _ _ | with_reducible exact heap_alloc2_new _ _ _ | with_reducible refine old_drew ?_ | with_reducible refine old_alloc _ ?_ | with_reducible refine old_row _ (by simp; try omega) ?_ | with_reducible refine old_below (by assumption) ?_
              (try go_wp2_with fail)
              refine hK.out _ _ ?_ (fun hHeld => ?_)
              · (first | exact hS1 | assumption | exact HN.out _ _ (by assumption) (below_alloc (Below.refl _ _) _) | exact HR.out _ _ _ (by assumption) (by first | omega | (simp; try omega)))
              clear hK K
              (try simp only [Act.put, List.setIfInBounds_toArray, List.set_cons_zero, List.set_cons_succ])
              refine wpAnyH_ready (rs := [7]) (by kernel_rfl) (by simp) ?_
              refine AllReadyH.cons (o := { dst := none, op := Op.store 85 (Operand.tmp 7) (Operand.tmp 15), type := 0, pos := "ref.go:44", after := #[{ on := 5, ground := Ground.data }, { on := 3, ground := Ground.data }, { on := 6, ground := Ground.chain }, { on := 0, ground := Ground.phase }, { on := 1, ground := Ground.phase }, { on := 2, ground := Ground.phase }, { on := 3, ground := Ground.phase }, { on := 4, ground := Ground.phase }, { on := 5, ground := Ground.phase }, { on := 6, ground := Ground.phase }], guard := none }) rfl (fun K hK => ?_) ?_
              · rw [if_pos (by rfl)]
                refine wp_store_row 85 _ _ rfl _ _ rfl rfl 85 zrow ?_ (size85.trans (by rw [bitsA_size])) (by simp [zrow, bitsA_size]) (bitsA_one _) ?_
                · repeat' first | with_reducible exact heap_alloc_new _ _ | with_reducible exact heap_alloc2_new _ _ _ | with_reducible refine old_drew ?_ | with_reducible refine old_alloc _ ?_ | with_reducible refine old_row _ (by simp; try omega) ?_ | with_reducible refine old_below (by assumption) ?_
                (try go_wp2_with fail)
                refine hK.out _ _ ?_ (fun hHeld => ?_)
                · (first | exact hS1 | assumption | exact HN.out _ _ (by assumption) (below_alloc (Below.refl _ _) _) | exact HR.out _ _ _ (by assumption) (by first | omega | (simp; try omega)))
                clear hK K
                (try simp only [Act.put, List.setIfInBounds_toArray, List.set_cons_zero, List.set_cons_succ])
                refine wpAnyH_done (by kernel_rfl) (NoPanic.normal ?_) _
                go_wp2_with fail
                go_meet
                case rel =>
                  refine ⟨_, _, rfl, rfl, ⟨And.left (by assumption), ?_, ?_, ?_, ?_⟩⟩
                  · with_reducible refine old_row _ (by simp; try omega) ?_
                    refine setRow_heap _ _ zrow _ 85 (0, 0) ?_
                    repeat' first | with_reducible exact heap_alloc_new _ _ | with_reducible exact heap_alloc2_new _ _ _ | with_reducible refine old_drew ?_ | with_reducible refine old_alloc _ ?_ | with_reducible refine old_row _ (by simp; try omega) ?_ | with_reducible refine old_below (by assumption) ?_
                  · refine setRow_heap _ _ zrow _ 85 (0, 0) ?_
                    repeat' first | with_reducible exact heap_alloc_new _ _ | with_reducible exact heap_alloc2_new _ _ _ | with_reducible refine old_drew ?_ | with_reducible refine old_alloc _ ?_ | with_reducible refine old_row _ (by simp; try omega) ?_ | with_reducible refine old_below (by assumption) ?_
                  · first | omega | (simp; try omega)
                  · first | omega | (simp; try omega)
              exact AllReadyH.nil
            exact AllReadyH.nil
          exact AllReadyH.nil
        refine AllReadyH.cons (o := { dst := some 7, op := Op.alloc 85, type := 0, pos := "ref.go:44", after := #[], guard := none }) rfl (fun K hK => ?_) ?_
        · go_simp
          skip
          (try go_wp2_with fail)
          refine hK.out _ _ ?_ (fun hHeld => ?_)
          · (first | exact hS1 | assumption | exact HN.out _ _ (by assumption) (below_alloc (Below.refl _ _) _) | exact HR.out _ _ _ (by assumption) (by first | omega | (simp; try omega)))
          clear hK K
          (try simp only [Act.put, List.setIfInBounds_toArray, List.set_cons_zero, List.set_cons_succ])
          refine wpAnyH_ready (rs := [4]) (by kernel_rfl) (by simp) ?_
          refine AllReadyH.cons (o := { dst := some 6, op := Op.alloc 85, type := 0, pos := "ref.go:44", after := #[], guard := none }) rfl (fun K hK => ?_) ?_
          · go_simp
            skip
            (try go_wp2_with fail)
            refine hK.out _ _ ?_ (fun hHeld => ?_)
            · (first | exact hS1 | assumption | exact HN.out _ _ (by assumption) (below_alloc (Below.refl _ _) _) | exact HR.out _ _ _ (by assumption) (by first | omega | (simp; try omega)))
            clear hK K
            (try simp only [Act.put, List.setIfInBounds_toArray, List.set_cons_zero, List.set_cons_succ])
            refine wpAnyH_ready (rs := [6]) (by kernel_rfl) (by simp) ?_
            refine AllReadyH.cons (o := { dst := none, op := Op.store 85 (Operand.tmp 6) (Operand.tmp 13), type := 0, pos := "ref.go:44", after := #[{ on := 4, ground := Ground.data }, { on := 1, ground := Ground.data }, { on := 3, ground := Ground.chain }, { on := 0, ground := Ground.phase }, { on := 1, ground := Ground.phase }, { on := 2, ground := Ground.textOnly Departure.lateStores }, { on := 3, ground := Ground.textOnly Departure.lateStoresUnsure }, { on := 4, ground := Ground.phase }, { on := 5, ground := Ground.phase }], guard := none }) rfl (fun K hK => ?_) ?_
            · rw [if_pos (by rfl)]
              refine wp_store_row 85 _ _ rfl _ _ rfl rfl 85 zrow ?_ (size85.trans (by rw [bitsA_size])) (by simp [zrow, bitsA_size]) (bitsA_one _) ?_
              · repeat' first | with_reducible exact heap_alloc_new _ _ | with_reducible exact heap_alloc2_new _ _ _ | with_reducible refine old_drew ?_ | with_reducible refine old_alloc _ ?_ | with_reducible refine old_row _ (by simp; try omega) ?_ | with_reducible refine old_below (by assumption) ?_
              (try go_wp2_with fail)
              refine hK.out _ _ ?_ (fun hHeld => ?_)
              · (first | exact hS1 | assumption | exact HN.out _ _ (by assumption) (below_alloc (Below.refl _ _) _) | exact HR.out _ _ _ (by assumption) (by first | omega | (simp; try omega)))
              clear hK K
              (try simp only [Act.put, List.setIfInBounds_toArray, List.set_cons_zero, List.set_cons_succ])
              refine wpAnyH_ready (rs := [7]) (by kernel_rfl) (by simp) ?_
              refine AllReadyH.cons (o := { dst := none, op := Op.store 85 (Operand.tmp 7) (Operand.tmp 15), type := 0, pos := "ref.go:44", after := #[{ on := 5, ground := Ground.data }, { on := 3, ground := Ground.data }, { on := 6, ground := Ground.chain }, { on := 0, ground := Ground.phase }, { on := 1, ground := Ground.phase }, { on := 2, ground := Ground.phase }, { on := 3, ground := Ground.phase }, { on := 4, ground := Ground.phase }, { on := 5, ground := Ground.phase }, { on := 6, ground := Ground.phase }], guard := none }) rfl (fun K hK => ?_) ?_
              · rw [if_pos (by rfl)]
                refine wp_store_row 85 _ _ rfl _ _ rfl rfl 85 zrow ?_ (size85.trans (by rw [bitsA_size])) (by simp [zrow, bitsA_size]) (bitsA_one _) ?_
                · repeat' first | with_reducible exact heap_alloc_new _ _ | with_reducible exact heap_alloc2_new _ _ _ | with_reducible refine old_drew ?_ | with_reducible refine old_alloc _ ?_ | with_reducible refine old_row _ (by simp; try omega) ?_ | with_reducible refine old_below (by assumption) ?_
                (try go_wp2_with fail)
                refine hK.out _ _ ?_ (fun hHeld => ?_)
                · (first | exact hS1 | assumption | exact HN.out _ _ (by assumption) (below_alloc (Below.refl _ _) _) | exact HR.out _ _ _ (by assumption) (by first | omega | (simp; try omega)))
                clear hK K
                (try simp only [Act.put, List.setIfInBounds_toArray, List.set_cons_zero, List.set_cons_succ])
                refine wpAnyH_done (by kernel_rfl) (NoPanic.normal ?_) _
                go_wp2_with fail
                go_meet
                case rel =>
                  refine ⟨_, _, rfl, rfl, ⟨And.left (by assumption), ?_, ?_, ?_, ?_⟩⟩
                  · with_reducible refine old_row _ (by simp; try omega) ?_
                    refine setRow_heap _ _ zrow _ 85 (0, 0) ?_
                    repeat' first | with_reducible exact heap_alloc_new _ _ | with_reducible exact heap_alloc2_new _ _ _ | with_reducible refine old_drew ?_ | with_reducible refine old_alloc _ ?_ | with_reducible refine old_row _ (by simp; try omega) ?_ | with_reducible refine old_below (by assumption) ?_
                  · refine setRow_heap _ _ zrow _ 85 (0, 0) ?_
                    repeat' first | with_reducible exact heap_alloc_new _ _ | with_reducible exact heap_alloc2_new _ _ _ | with_reducible refine old_drew ?_ | with_reducible refine old_alloc _ ?_ | with_reducible refine old_row _ (by simp; try omega) ?_ | with_reducible refine old_below (by assumption) ?_
                  · first | omega | (simp; try omega)
                  · first | omega | (simp; try omega)
              exact AllReadyH.nil
            exact AllReadyH.nil
          exact AllReadyH.nil
        exact AllReadyH.nil
      refine AllReadyH.cons (o := { dst := some 6, op := Op.alloc 85, type := 0, pos := "ref.go:44", after := #[], guard := none }) rfl (fun K hK => ?_) ?_
      · go_simp
        skip
        (try go_wp2_with fail)
        refine hK.out _ _ ?_ (fun hHeld => ?_)
        · (first | exact hS1 | assumption | exact HN.out _ _ (by assumption) (below_alloc (Below.refl _ _) _) | exact HR.out _ _ _ (by assumption) (by first | omega | (simp; try omega)))
        clear hK K
        (try simp only [Act.put, List.setIfInBounds_toArray, List.set_cons_zero, List.set_cons_succ])
        refine wpAnyH_ready (rs := [3, 5]) (by kernel_rfl) (by simp) ?_
        refine AllReadyH.cons (o := { dst := some 15, op := Op.call { callee := Callee.value (Operand.func 70), args := #[Operand.tmp 14], argTypes := #[27] }, type := 85, pos := "ref.go:44", after := #[{ on := 2, ground := Ground.data }, { on := 1, ground := Ground.chain }], guard := none }) rfl (fun K hK => ?_) ?_
        · go_simp
          with_reducible refine (HB.out _).mono ?_
          rintro e w1 ⟨rfl, hb1⟩
          have hS1 := HN.out _ _ (by assumption) hb1
          have hsz := hb1.size
          (try simp only [size_alloc, heap_drew] at hsz)
          (try go_wp2_with fail)
          refine hK.out _ _ ?_ (fun hHeld => ?_)
          · (first | exact hS1 | assumption | exact HN.out _ _ (by assumption) (below_alloc (Below.refl _ _) _) | exact HR.out _ _ _ (by assumption) (by first | omega | (simp; try omega)))
          clear hK K
          (try simp only [Act.put, List.setIfInBounds_toArray, List.set_cons_zero, List.set_cons_succ])
          refine wpAnyH_ready (rs := [5]) (by kernel_rfl) (by simp) ?_
          refine AllReadyH.cons (o := { dst := some 7, op := Op.alloc 85, type := 0, pos := "ref.go:44", after := #[], guard := none }) rfl (fun K hK => ?_) ?_
          · go_simp
            skip
            (try go_wp2_with fail)
            refine hK.out _ _ ?_ (fun hHeld => ?_)
            · (first | exact hS1 | assumption | exact HN.out _ _ (by assumption) (below_alloc (Below.refl _ _) _) | exact HR.out _ _ _ (by assumption) (by first | omega | (simp; try omega)))
            clear hK K
            (try simp only [Act.put, List.setIfInBounds_toArray, List.set_cons_zero, List.set_cons_succ])
            refine wpAnyH_ready (rs := [6]) (by kernel_rfl) (by simp) ?_
            refine AllReadyH.cons (o := { dst := none, op := Op.store 85 (Operand.tmp 6) (Operand.tmp 13), type := 0, pos := "ref.go:44", after := #[{ on := 4, ground := Ground.data }, { on := 1, ground := Ground.data }, { on := 3, ground := Ground.chain }, { on := 0, ground := Ground.phase }, { on := 1, ground := Ground.phase }, { on := 2, ground := Ground.textOnly Departure.lateStores }, { on := 3, ground := Ground.textOnly Departure.lateStoresUnsure }, { on := 4, ground := Ground.phase }, { on := 5, ground := Ground.phase }], guard := none }) rfl (fun K hK => ?_) ?_
            · rw [if_pos (by rfl)]
              refine wp_store_row 85 _ _ rfl _ _ rfl rfl 85 zrow ?_ (size85.trans (by rw [bitsA_size])) (by simp [zrow, bitsA_size]) (bitsA_one _) ?_
              · repeat' first | with_reducible exact heap_alloc_new _ _ | with_reducible exact heap_alloc2_new _ _ _ | with_reducible refine old_drew ?_ | with_reducible refine old_alloc _ ?_ | with_reducible refine old_row _ (by simp; try omega) ?_ | with_reducible refine old_below (by assumption) ?_
              (try go_wp2_with fail)
              refine hK.out _ _ ?_ (fun hHeld => ?_)
              · (first | exact hS1 | assumption | exact HN.out _ _ (by assumption) (below_alloc (Below.refl _ _) _) | exact HR.out _ _ _ (by assumption) (by first | omega | (simp; try omega)))
              clear hK K
              (try simp only [Act.put, List.setIfInBounds_toArray, List.set_cons_zero, List.set_cons_succ])
              refine wpAnyH_ready (rs := [7]) (by kernel_rfl) (by simp) ?_
              refine AllReadyH.cons (o := { dst := none, op := Op.store 85 (Operand.tmp 7) (Operand.tmp 15), type := 0, pos := "ref.go:44", after := #[{ on := 5, ground := Ground.data }, { on := 3, ground := Ground.data }, { on := 6, ground := Ground.chain }, { on := 0, ground := Ground.phase }, { on := 1, ground := Ground.phase }, { on := 2, ground := Ground.phase }, { on := 3, ground := Ground.phase }, { on := 4, ground := Ground.phase }, { on := 5, ground := Ground.phase }, { on := 6, ground := Ground.phase }], guard := none }) rfl (fun K hK => ?_) ?_
              · rw [if_pos (by rfl)]
                refine wp_store_row 85 _ _ rfl _ _ rfl rfl 85 zrow ?_ (size85.trans (by rw [bitsA_size])) (by simp [zrow, bitsA_size]) (bitsA_one _) ?_
                · repeat' first | with_reducible exact heap_alloc_new _ _ | with_reducible exact heap_alloc2_new _ _ _ | with_reducible refine old_drew ?_ | with_reducible refine old_alloc _ ?_ | with_reducible refine old_row _ (by simp; try omega) ?_ | with_reducible refine old_below (by assumption) ?_
                (try go_wp2_with fail)
                refine hK.out _ _ ?_ (fun hHeld => ?_)
                · (first | exact hS1 | assumption | exact HN.out _ _ (by assumption) (below_alloc (Below.refl _ _) _) | exact HR.out _ _ _ (by assumption) (by first | omega | (simp; try omega)))
                clear hK K
                (try simp only [Act.put, List.setIfInBounds_toArray, List.set_cons_zero, List.set_cons_succ])
                refine wpAnyH_done (by kernel_rfl) (NoPanic.normal ?_) _
                go_wp2_with fail
                go_meet
                case rel =>
                  refine ⟨_, _, rfl, rfl, ⟨And.left (by assumption), ?_, ?_, ?_, ?_⟩⟩
                  · with_reducible refine old_row _ (by simp; try omega) ?_
                    refine setRow_heap _ _ zrow _ 85 (0, 0) ?_
                    repeat' first | with_reducible exact heap_alloc_new _ _ | with_reducible exact heap_alloc2_new _ _ _ | with_reducible refine old_drew ?_ | with_reducible refine old_alloc _ ?_ | with_reducible refine old_row _ (by simp; try omega) ?_ | with_reducible refine old_below (by assumption) ?_
                  · refine setRow_heap _ _ zrow _ 85 (0, 0) ?_
                    repeat' first | with_reducible exact heap_alloc_new _ _ | with_reducible exact heap_alloc2_new _ _ _ | with_reducible refine old_drew ?_ | with_reducible refine old_alloc _ ?_ | with_reducible refine old_row _ (by simp; try omega) ?_ | with_reducible refine old_below (by assumption) ?_
                  · first | omega | (simp; try omega)
                  · first | omega | (simp; try omega)
              exact AllReadyH.nil
            exact AllReadyH.nil
          exact AllReadyH.nil
        refine AllReadyH.cons (o := { dst := some 7, op := Op.alloc 85, type := 0, pos := "ref.go:44", after := #[], guard := none }) rfl (fun K hK => ?_) ?_
        · go_simp
          skip
          (try go_wp2_with fail)
          refine hK.out _ _ ?_ (fun hHeld => ?_)
          · (first | exact hS1 | assumption | exact HN.out _ _ (by assumption) (below_alloc (Below.refl _ _) _) | exact HR.out _ _ _ (by assumption) (by first | omega | (simp; try omega)))
          clear hK K
          (try simp only [Act.put, List.setIfInBounds_toArray, List.set_cons_zero, List.set_cons_succ])
          refine wpAnyH_ready (rs := [3]) (by kernel_rfl) (by simp) ?_
          refine AllReadyH.cons (o := { dst := some 15, op := Op.call { callee := Callee.value (Operand.func 70), args := #[Operand.tmp 14], argTypes := #[27] }, type := 85, pos := "ref.go:44", after := #[{ on := 2, ground := Ground.data }, { on := 1, ground := Ground.chain }], guard := none }) rfl (fun K hK => ?_) ?_
          · go_simp
            with_reducible refine (HB.out _).mono ?_
            rintro e w1 ⟨rfl, hb1⟩
            have hS1 := HN.out _ _ (by assumption) hb1
            have hsz := hb1.size
            (try simp only [size_alloc, heap_drew] at hsz)
            (try go_wp2_with fail)
            refine hK.out _ _ ?_ (fun hHeld => ?_)
            · (first | exact hS1 | assumption | exact HN.out _ _ (by assumption) (below_alloc (Below.refl _ _) _) | exact HR.out _ _ _ (by assumption) (by first | omega | (simp; try omega)))
            clear hK K
            (try simp only [Act.put, List.setIfInBounds_toArray, List.set_cons_zero, List.set_cons_succ])
            refine wpAnyH_ready (rs := [6]) (by kernel_rfl) (by simp) ?_
            refine AllReadyH.cons (o := { dst := none, op := Op.store 85 (Operand.tmp 6) (Operand.tmp 13), type := 0, pos := "ref.go:44", after := #[{ on := 4, ground := Ground.data }, { on := 1, ground := Ground.data }, { on := 3, ground := Ground.chain }, { on := 0, ground := Ground.phase }, { on := 1, ground := Ground.phase }, { on := 2, ground := Ground.textOnly Departure.lateStores }, { on := 3, ground := Ground.textOnly Departure.lateStoresUnsure }, { on := 4, ground := Ground.phase }, { on := 5, ground := Ground.phase }], guard := none }) rfl (fun K hK => ?_) ?_
            · rw [if_pos (by rfl)]
              refine wp_store_row 85 _ _ rfl _ _ rfl rfl 85 zrow ?_ (size85.trans (by rw [bitsA_size])) (by simp [zrow, bitsA_size]) (bitsA_one _) ?_
              · repeat' first | with_reducible exact heap_alloc_new _ _ | with_reducible exact heap_alloc2_new _ _ _ | with_reducible refine old_drew ?_ | with_reducible refine old_alloc _ ?_ | with_reducible refine old_row _ (by simp; try omega) ?_ | with_reducible refine old_below (by assumption) ?_
              (try go_wp2_with fail)
              refine hK.out _ _ ?_ (fun hHeld => ?_)
              · (first | exact hS1 | assumption | exact HN.out _ _ (by assumption) (below_alloc (Below.refl _ _) _) | exact HR.out _ _ _ (by assumption) (by first | omega | (simp; try omega)))
              clear hK K
              (try simp only [Act.put, List.setIfInBounds_toArray, List.set_cons_zero, List.set_cons_succ])
              refine wpAnyH_ready (rs := [7]) (by kernel_rfl) (by simp) ?_
              refine AllReadyH.cons (o := { dst := none, op := Op.store 85 (Operand.tmp 7) (Operand.tmp 15), type := 0, pos := "ref.go:44", after := #[{ on := 5, ground := Ground.data }, { on := 3, ground := Ground.data }, { on := 6, ground := Ground.chain }, { on := 0, ground := Ground.phase }, { on := 1, ground := Ground.phase }, { on := 2, ground := Ground.phase }, { on := 3, ground := Ground.phase }, { on := 4, ground := Ground.phase }, { on := 5, ground := Ground.phase }, { on := 6, ground := Ground.phase }], guard := none }) rfl (fun K hK => ?_) ?_
              · rw [if_pos (by rfl)]
                refine wp_store_row 85 _ _ rfl _ _ rfl rfl 85 zrow ?_ (size85.trans (by rw [bitsA_size])) (by simp [zrow, bitsA_size]) (bitsA_one _) ?_
                · repeat' first | with_reducible exact heap_alloc_new _ _ | with_reducible exact heap_alloc2_new _ _ _ | with_reducible refine old_drew ?_ | with_reducible refine old_alloc _ ?_ | with_reducible refine old_row _ (by simp; try omega) ?_ | with_reducible refine old_below (by assumption) ?_
                (try go_wp2_with fail)
                refine hK.out _ _ ?_ (fun hHeld => ?_)
                · (first | exact hS1 | assumption | exact HN.out _ _ (by assumption) (below_alloc (Below.refl _ _) _) | exact HR.out _ _ _ (by assumption) (by first | omega | (simp; try omega)))
                clear hK K
                (try simp only [Act.put, List.setIfInBounds_toArray, List.set_cons_zero, List.set_cons_succ])
                refine wpAnyH_done (by kernel_rfl) (NoPanic.normal ?_) _
                go_wp2_with fail
                go_meet
                case rel =>
                  refine ⟨_, _, rfl, rfl, ⟨And.left (by assumption), ?_, ?_, ?_, ?_⟩⟩
                  · with_reducible refine old_row _ (by simp; try omega) ?_
                    refine setRow_heap _ _ zrow _ 85 (0, 0) ?_
                    repeat' first | with_reducible exact heap_alloc_new _ _ | with_reducible exact heap_alloc2_new _ _ _ | with_reducible refine old_drew ?_ | with_reducible refine old_alloc _ ?_ | with_reducible refine old_row _ (by simp; try omega) ?_ | with_reducible refine old_below (by assumption) ?_
                  · refine setRow_heap _ _ zrow _ 85 (0, 0) ?_
                    repeat' first | with_reducible exact heap_alloc_new _ _ | with_reducible exact heap_alloc2_new _ _ _ | with_reducible refine old_drew ?_ | with_reducible refine old_alloc _ ?_ | with_reducible refine old_row _ (by simp; try omega) ?_ | with_reducible refine old_below (by assumption) ?_
                  · first | omega | (simp; try omega)
                  · first | omega | (simp; try omega)
              exact AllReadyH.nil
            exact AllReadyH.nil
          exact AllReadyH.nil
        exact AllReadyH.nil
      refine AllReadyH.cons (o := { dst := some 7, op := Op.alloc 85, type := 0, pos := "ref.go:44", after := #[], guard := none }) rfl (fun K hK => ?_) ?_
      · go_simp
        skip
        (try go_wp2_with fail)
        refine hK.out _ _ ?_ (fun hHeld => ?_)
        · (first | exact hS1 | assumption | exact HN.out _ _ (by assumption) (below_alloc (Below.refl _ _) _) | exact HR.out _ _ _ (by assumption) (by first | omega | (simp; try omega)))
        clear hK K
        (try simp only [Act.put, List.setIfInBounds_toArray, List.set_cons_zero, List.set_cons_succ])
        refine wpAnyH_ready (rs := [3, 4]) (by kernel_rfl) (by simp) ?_
        refine AllReadyH.cons (o := { dst := some 15, op := Op.call { callee := Callee.value (Operand.func 70), args := #[Operand.tmp 14], argTypes := #[27] }, type := 85, pos := "ref.go:44", after := #[{ on := 2, ground := Ground.data }, { on := 1, ground := Ground.chain }], guard := none }) rfl (fun K hK => ?_) ?_
        · go_simp
          with_reducible refine (HB.out _).mono ?_
          rintro e w1 ⟨rfl, hb1⟩
          have hS1 := HN.out _ _ (by assumption) hb1
          have hsz := hb1.size
          (try simp only [size_alloc, heap_drew] at hsz)
          (try go_wp2_with fail)
          refine hK.out _ _ ?_ (fun hHeld => ?_)
          · (first | exact hS1 | assumption | exact HN.out _ _ (by assumption) (below_alloc (Below.refl _ _) _) | exact HR.out _ _ _ (by assumption) (by first | omega | (simp; try omega)))
          clear hK K
          (try simp only [Act.put, List.setIfInBounds_toArray, List.set_cons_zero, List.set_cons_succ])
          refine wpAnyH_ready (rs := [4]) (by kernel_rfl) (by simp) ?_
          refine AllReadyH.cons (o := { dst := some 6, op := Op.alloc 85, type := 0, pos := "ref.go:44", after := #[], guard := none }) rfl (fun K hK => ?_) ?_
          · go_simp
            skip
            (try go_wp2_with fail)
            refine hK.out _ _ ?_ (fun hHeld => ?_)
            · (first | exact hS1 | assumption | exact HN.out _ _ (by assumption) (below_alloc (Below.refl _ _) _) | exact HR.out _ _ _ (by assumption) (by first | omega | (simp; try omega)))
            clear hK K
            (try simp only [Act.put, List.setIfInBounds_toArray, List.set_cons_zero, List.set_cons_succ])
            refine wpAnyH_ready (rs := [6]) (by kernel_rfl) (by simp) ?_
            refine AllReadyH.cons (o := { dst := none, op := Op.store 85 (Operand.tmp 6) (Operand.tmp 13), type := 0, pos := "ref.go:44", after := #[{ on := 4, ground := Ground.data }, { on := 1, ground := Ground.data }, { on := 3, ground := Ground.chain }, { on := 0, ground := Ground.phase }, { on := 1, ground := Ground.phase }, { on := 2, ground := Ground.textOnly Departure.lateStores }, { on := 3, ground := Ground.textOnly Departure.lateStoresUnsure }, { on := 4, ground := Ground.phase }, { on := 5, ground := Ground.phase }], guard := none }) rfl (fun K hK => ?_) ?_
            · rw [if_pos (by rfl)]
              refine wp_store_row 85 _ _ rfl _ _ rfl rfl 85 zrow ?_ (size85.trans (by rw [bitsA_size])) (by simp [zrow, bitsA_size]) (bitsA_one _) ?_
              · repeat' first | with_reducible exact heap_alloc_new _ _ | with_reducible exact heap_alloc2_new _ _ _ | with_reducible refine old_drew ?_ | with_reducible refine old_alloc _ ?_ | with_reducible refine old_row _ (by simp; try omega) ?_ | with_reducible refine old_below (by assumption) ?_
              (try go_wp2_with fail)
              refine hK.out _ _ ?_ (fun hHeld => ?_)
              · (first | exact hS1 | assumption | exact HN.out _ _ (by assumption) (below_alloc (Below.refl _ _) _) | exact HR.out _ _ _ (by assumption) (by first | omega | (simp; try omega)))
              clear hK K
              (try simp only [Act.put, List.setIfInBounds_toArray, List.set_cons_zero, List.set_cons_succ])
              refine wpAnyH_ready (rs := [7]) (by kernel_rfl) (by simp) ?_
              refine AllReadyH.cons (o := { dst := none, op := Op.store 85 (Operand.tmp 7) (Operand.tmp 15), type := 0, pos := "ref.go:44", after := #[{ on := 5, ground := Ground.data }, { on := 3, ground := Ground.data }, { on := 6, ground := Ground.chain }, { on := 0, ground := Ground.phase }, { on := 1, ground := Ground.phase }, { on := 2, ground := Ground.phase }, { on := 3, ground := Ground.phase }, { on := 4, ground := Ground.phase }, { on := 5, ground := Ground.phase }, { on := 6, ground := Ground.phase }], guard := none }) rfl (fun K hK => ?_) ?_
              · rw [if_pos (by rfl)]
                refine wp_store_row 85 _ _ rfl _ _ rfl rfl 85 zrow ?_ (size85.trans (by rw [bitsA_size])) (by simp [zrow, bitsA_size]) (bitsA_one _) ?_
                · repeat' first | with_reducible exact heap_alloc_new _ _ | with_reducible exact heap_alloc2_new _ _ _ | with_reducible refine old_drew ?_ | with_reducible refine old_alloc _ ?_ | with_reducible refine old_row _ (by simp; try omega) ?_ | with_reducible refine old_below (by assumption) ?_
                (try go_wp2_with fail)
                refine hK.out _ _ ?_ (fun hHeld => ?_)
                · (first | exact hS1 | assumption | exact HN.out _ _ (by assumption) (below_alloc (Below.refl _ _) _) | exact HR.out _ _ _ (by assumption) (by first | omega | (simp; try omega)))
                clear hK K
                (try simp only [Act.put, List.setIfInBounds_toArray, List.set_cons_zero, List.set_cons_succ])
                refine wpAnyH_done (by kernel_rfl) (NoPanic.normal ?_) _
                go_wp2_with fail
                go_meet
                case rel =>
                  refine ⟨_, _, rfl, rfl, ⟨And.left (by assumption), ?_, ?_, ?_, ?_⟩⟩
                  · with_reducible refine old_row _ (by simp; try omega) ?_
                    refine setRow_heap _ _ zrow _ 85 (0, 0) ?_
                    repeat' first | with_reducible exact heap_alloc_new _ _ | with_reducible exact heap_alloc2_new _ _ _ | with_reducible refine old_drew ?_ | with_reducible refine old_alloc _ ?_ | with_reducible refine old_row _ (by simp; try omega) ?_ | with_reducible refine old_below (by assumption) ?_
                  · refine setRow_heap _ _ zrow _ 85 (0, 0) ?_
                    repeat' first | with_reducible exact heap_alloc_new _ _ | with_reducible exact heap_alloc2_new _ _ _ | with_reducible refine old_drew ?_ | with_reducible refine old_alloc _ ?_ | with_reducible refine old_row _ (by simp; try omega) ?_ | with_reducible refine old_below (by assumption) ?_
                  · first | omega | (simp; try omega)
                  · first | omega | (simp; try omega)
              exact AllReadyH.nil
            exact AllReadyH.nil
          exact AllReadyH.nil
        refine AllReadyH.cons (o := { dst := some 6, op := Op.alloc 85, type := 0, pos := "ref.go:44", after := #[], guard := none }) rfl (fun K hK => ?_) ?_
        · go_simp
          skip
          (try go_wp2_with fail)
          refine hK.out _ _ ?_ (fun hHeld => ?_)
          · (first | exact hS1 | assumption | exact HN.out _ _ (by assumption) (below_alloc (Below.refl _ _) _) | exact HR.out _ _ _ (by assumption) (by first | omega | (simp; try omega)))
          clear hK K
          (try simp only [Act.put, List.setIfInBounds_toArray, List.set_cons_zero, List.set_cons_succ])
          refine wpAnyH_ready (rs := [3]) (by kernel_rfl) (by simp) ?_
          refine AllReadyH.cons (o := { dst := some 15, op := Op.call { callee := Callee.value (Operand.func 70), args := #[Operand.tmp 14], argTypes := #[27] }, type := 85, pos := "ref.go:44", after := #[{ on := 2, ground := Ground.data }, { on := 1, ground := Ground.chain }], guard := none }) rfl (fun K hK => ?_) ?_
          · go_simp
            with_reducible refine (HB.out _).mono ?_
            rintro e w1 ⟨rfl, hb1⟩
            have hS1 := HN.out _ _ (by assumption) hb1
            have hsz := hb1.size
            (try simp only [size_alloc, heap_drew] at hsz)
            (try go_wp2_with fail)
            refine hK.out _ _ ?_ (fun hHeld => ?_)
            · (first | exact hS1 | assumption | exact HN.out _ _ (by assumption) (below_alloc (Below.refl _ _) _) | exact HR.out _ _ _ (by assumption) (by first | omega | (simp; try omega)))
            clear hK K
            (try simp only [Act.put, List.setIfInBounds_toArray, List.set_cons_zero, List.set_cons_succ])
            refine wpAnyH_ready (rs := [6]) (by kernel_rfl) (by simp) ?_
            refine AllReadyH.cons (o := { dst := none, op := Op.store 85 (Operand.tmp 6) (Operand.tmp 13), type := 0, pos := "ref.go:44", after := #[{ on := 4, ground := Ground.data }, { on := 1, ground := Ground.data }, { on := 3, ground := Ground.chain }, { on := 0, ground := Ground.phase }, { on := 1, ground := Ground.phase }, { on := 2, ground := Ground.textOnly Departure.lateStores }, { on := 3, ground := Ground.textOnly Departure.lateStoresUnsure }, { on := 4, ground := Ground.phase }, { on := 5, ground := Ground.phase }], guard := none }) rfl (fun K hK => ?_) ?_
            · rw [if_pos (by rfl)]
              refine wp_store_row 85 _ _ rfl _ _ rfl rfl 85 zrow ?_ (size85.trans (by rw [bitsA_size])) (by simp [zrow, bitsA_size]) (bitsA_one _) ?_
              · repeat' first | with_reducible exact heap_alloc_new _ _ | with_reducible exact heap_alloc2_new _ _ _ | with_reducible refine old_drew ?_ | with_reducible refine old_alloc _ ?_ | with_reducible refine old_row _ (by simp; try omega) ?_ | with_reducible refine old_below (by assumption) ?_
              (try go_wp2_with fail)
              refine hK.out _ _ ?_ (fun hHeld => ?_)
              · (first | exact hS1 | assumption | exact HN.out _ _ (by assumption) (below_alloc (Below.refl _ _) _) | exact HR.out _ _ _ (by assumption) (by first | omega | (simp; try omega)))
              clear hK K
              (try simp only [Act.put, List.setIfInBounds_toArray, List.set_cons_zero, List.set_cons_succ])
              refine wpAnyH_ready (rs := [7]) (by kernel_rfl) (by simp) ?_
              refine AllReadyH.cons (o := { dst := none, op := Op.store 85 (Operand.tmp 7) (Operand.tmp 15), type := 0, pos := "ref.go:44", after := #[{ on := 5, ground := Ground.data }, { on := 3, ground := Ground.data }, { on := 6, ground := Ground.chain }, { on := 0, ground := Ground.phase }, { on := 1, ground := Ground.phase }, { on := 2, ground := Ground.phase }, { on := 3, ground := Ground.phase }, { on := 4, ground := Ground.phase }, { on := 5, ground := Ground.phase }, { on := 6, ground := Ground.phase }], guard := none }) rfl (fun K hK => ?_) ?_
              · rw [if_pos (by rfl)]
                refine wp_store_row 85 _ _ rfl _ _ rfl rfl 85 zrow ?_ (size85.trans (by rw [bitsA_size])) (by simp [zrow, bitsA_size]) (bitsA_one _) ?_
                · repeat' first | with_reducible exact heap_alloc_new _ _ | with_reducible exact heap_alloc2_new _ _ _ | with_reducible refine old_drew ?_ | with_reducible refine old_alloc _ ?_ | with_reducible refine old_row _ (by simp; try omega) ?_ | with_reducible refine old_below (by assumption) ?_
                (try go_wp2_with fail)
                refine hK.out _ _ ?_ (fun hHeld => ?_)
                · (first | exact hS1 | assumption | exact HN.out _ _ (by assumption) (below_alloc (Below.refl _ _) _) | exact HR.out _ _ _ (by assumption) (by first | omega | (simp; try omega)))
                clear hK K
                (try simp only [Act.put, List.setIfInBounds_toArray, List.set_cons_zero, List.set_cons_succ])
                refine wpAnyH_done (by kernel_rfl) (NoPanic.normal ?_) _
                go_wp2_with fail
                go_meet
                case rel =>
                  refine ⟨_, _, rfl, rfl, ⟨And.left (by assumption), ?_, ?_, ?_, ?_⟩⟩
                  · with_reducible refine old_row _ (by simp; try omega) ?_
                    refine setRow_heap _ _ zrow _ 85 (0, 0) ?_
                    repeat' first | with_reducible exact heap_alloc_new _ _ | with_reducible exact heap_alloc2_new _ _ _ | with_reducible refine old_drew ?_ | with_reducible refine old_alloc _ ?_ | with_reducible refine old_row _ (by simp; try omega) ?_ | with_reducible refine old_below (by assumption) ?_
                  · refine setRow_heap _ _ zrow _ 85 (0, 0) ?_
                    repeat' first | with_reducible exact heap_alloc_new _ _ | with_reducible exact heap_alloc2_new _ _ _ | with_reducible refine old_drew ?_ | with_reducible refine old_alloc _ ?_ | with_reducible refine old_row _ (by simp; try omega) ?_ | with_reducible refine old_below (by assumption) ?_
                  · first | omega | (simp; try omega)
                  · first | omega | (simp; try omega)
              exact AllReadyH.nil
            exact AllReadyH.nil
          exact AllReadyH.nil
        exact AllReadyH.nil
      exact AllReadyH.nil
    refine AllReadyH.cons (o := { dst := some 6, op := Op.alloc 85, type := 0, pos := "ref.go:44", after := #[], guard := none }) rfl (fun K hK => ?_) ?_
    · go_simp
      skip
      (try go_wp2_with fail)
      refine hK.out _ _ ?_ (fun hHeld => ?_)
      · (first | exact hS1 | assumption | exact HN.out _ _ (by assumption) (below_alloc (Below.refl _ _) _) | exact HR.out _ _ _ (by assumption) (by first | omega | (simp; try omega)))
      clear hK K
      (try simp only [Act.put, List.setIfInBounds_toArray, List.set_cons_zero, List.set_cons_succ])
      refine wpAnyH_ready (rs := [1, 5]) (by kernel_rfl) (by simp) ?_
      refine AllReadyH.cons (o := { dst := some 13, op := Op.call { callee := Callee.value (Operand.func 70), args := #[Operand.tmp 12], argTypes := #[27] }, type := 85, pos := "ref.go:44", after := #[{ on := 0, ground := Ground.data }], guard := none }) rfl (fun K hK => ?_) ?_
      · go_simp
        with_reducible refine (HA.out _).mono ?_
        rintro e w1 ⟨rfl, hb1⟩
        have hS1 := HN.out _ _ (by assumption) hb1
        have hsz := hb1.size
        (try simp only [size_alloc, heap_drew] at hsz)
        (try go_wp2_with fail)
        refine hK.out _ _ ?_ (fun hHeld => ?_)
        · (first | exact hS1 | assumption | exact HN.out _ _ (by assumption) (below_alloc (Below.refl _ _) _) | exact HR.out _ _ _ (by assumption) (by first | omega | (simp; try omega)))
        clear hK K
        (try simp only [Act.put, List.setIfInBounds_toArray, List.set_cons_zero, List.set_cons_succ])
        refine wpAnyH_ready (rs := [3, 5]) (by kernel_rfl) (by simp) ?_
        refine AllReadyH.cons (o := { dst := some 15, op := Op.call { callee := Callee.value (Operand.func 70), args := #[Operand.tmp 14], argTypes := #[27] }, type := 85, pos := "ref.go:44", after := #[{ on := 2, ground := Ground.data }, { on := 1, ground := Ground.chain }], guard := none }) rfl (fun K hK => ?_) ?_
        · go_simp
          with_reducible refine (HB.out _).mono ?_
          rintro e w1 ⟨rfl, hb1⟩
          have hS1 := HN.out _ _ (by assumption) hb1
          have hsz := hb1.size
          (try simp only [size_alloc, heap_drew] at hsz)
          (try go_wp2_with fail)
          refine hK.out _ _ ?_ (fun hHeld => ?_)
          · (first | exact hS1 | assumption | exact HN.out _ _ (by assumption) (below_alloc (Below.refl _ _) _) | exact HR.out _ _ _ (by assumption) (by first | omega | (simp; try omega)))
          clear hK K
          (try simp only [Act.put, List.setIfInBounds_toArray, List.set_cons_zero, List.set_cons_succ])
          refine wpAnyH_ready (rs := [5]) (by kernel_rfl) (by simp) ?_
          refine AllReadyH.cons (o := { dst := some 7, op := Op.alloc 85, type := 0, pos := "ref.go:44", after := #[], guard := none }) rfl (fun K hK => ?_) ?_
          · go_simp
            skip
            (try go_wp2_with fail)
            refine hK.out _ _ ?_ (fun hHeld => ?_)
            · (first | exact hS1 | assumption | exact HN.out _ _ (by assumption) (below_alloc (Below.refl _ _) _) | exact HR.out _ _ _ (by assumption) (by first | omega | (simp; try omega)))
            clear hK K
            (try simp only [Act.put, List.setIfInBounds_toArray, List.set_cons_zero, List.set_cons_succ])
            refine wpAnyH_ready (rs := [6]) (by kernel_rfl) (by simp) ?_
            refine AllReadyH.cons (o := { dst := none, op := Op.store 85 (Operand.tmp 6) (Operand.tmp 13), type := 0, pos := "ref.go:44", after := #[{ on := 4, ground := Ground.data }, { on := 1, ground := Ground.data }, { on := 3, ground := Ground.chain }, { on := 0, ground := Ground.phase }, { on := 1, ground := Ground.phase }, { on := 2, ground := Ground.textOnly Departure.lateStores }, { on := 3, ground := Ground.textOnly Departure.lateStoresUnsure }, { on := 4, ground := Ground.phase }, { on := 5, ground := Ground.phase }], guard := none }) rfl (fun K hK => ?_) ?_
            · rw [if_pos (by rfl)]
              refine wp_store_row 85 _ _ rfl _ _ rfl rfl 85 zrow ?_ (size85.trans (by rw [bitsA_size])) (by simp [zrow, bitsA_size]) (bitsA_one _) ?_
              · repeat' first | with_reducible exact heap_alloc_new _ _ | with_reducible exact heap_alloc2_new _ _ _ | with_reducible refine old_drew ?_ | with_reducible refine old_alloc _ ?_ | with_reducible refine old_row _ (by simp; try omega) ?_ | with_reducible refine old_below (by assumption) ?_
              (try go_wp2_with fail)
              refine hK.out _ _ ?_ (fun hHeld => ?_)
              · (first | exact hS1 | assumption | exact HN.out _ _ (by assumption) (below_alloc (Below.refl _ _) _) | exact HR.out _ _ _ (by assumption) (by first | omega | (simp; try omega)))
              clear hK K
              (try simp only [Act.put, List.setIfInBounds_toArray, List.set_cons_zero, List.set_cons_succ])
              refine wpAnyH_ready (rs := [7]) (by kernel_rfl) (by simp) ?_
              refine AllReadyH.cons (o := { dst := none, op := Op.store 85 (Operand.tmp 7) (Operand.tmp 15), type := 0, pos := "ref.go:44", after := #[{ on := 5, ground := Ground.data }, { on := 3, ground := Ground.data }, { on := 6, ground := Ground.chain }, { on := 0, ground := Ground.phase }, { on := 1, ground := Ground.phase }, { on := 2, ground := Ground.phase }, { on := 3, ground := Ground.phase }, { on := 4, ground := Ground.phase }, { on := 5, ground := Ground.phase }, { on := 6, ground := Ground.phase }], guard := none }) rfl (fun K hK => ?_) ?_
              · rw [if_pos (by rfl)]
                refine wp_store_row 85 _ _ rfl _ _ rfl rfl 85 zrow ?_ (size85.trans (by rw [bitsA_size])) (by simp [zrow, bitsA_size]) (bitsA_one _) ?_
                · repeat' first | with_reducible exact heap_alloc_new _ _ | with_reducible exact heap_alloc2_new _ _ _ | with_reducible refine old_drew ?_ | with_reducible refine old_alloc _ ?_ | with_reducible refine old_row _ (by simp; try omega) ?_ | with_reducible refine old_below (by assumption) ?_
                (try go_wp2_with fail)
                refine hK.out _ _ ?_ (fun hHeld => ?_)
                · (first | exact hS1 | assumption | exact HN.out _ _ (by assumption) (below_alloc (Below.refl _ _) _) | exact HR.out _ _ _ (by assumption) (by first | omega | (simp; try omega)))
                clear hK K
                (try simp only [Act.put, List.setIfInBounds_toArray, List.set_cons_zero, List.set_cons_succ])
                refine wpAnyH_done (by kernel_rfl) (NoPanic.normal ?_) _
                go_wp2_with fail
                go_meet
                case rel =>
                  refine ⟨_, _, rfl, rfl, ⟨And.left (by assumption), ?_, ?_, ?_, ?_⟩⟩
                  · with_reducible refine old_row _ (by simp; try omega) ?_
                    refine setRow_heap _ _ zrow _ 85 (0, 0) ?_
                    repeat' first | with_reducible exact heap_alloc_new _ _ | with_reducible exact heap_alloc2_new _ _ _ | with_reducible refine old_drew ?_ | with_reducible refine old_alloc _ ?_ | with_reducible refine old_row _ (by simp; try omega) ?_ | with_reducible refine old_below (by assumption) ?_
                  · refine setRow_heap _ _ zrow _ 85 (0, 0) ?_
                    repeat' first | with_reducible exact heap_alloc_new _ _ | with_reducible exact heap_alloc2_new _ _ _ | with_reducible refine old_drew ?_ | with_reducible refine old_alloc _ ?_ | with_reducible refine old_row _ (by simp; try omega) ?_ | with_reducible refine old_below (by assumption) ?_
                  · first | omega | (simp; try omega)
                  · first | omega | (simp; try omega)
              exact AllReadyH.nil
            exact AllReadyH.nil
          exact AllReadyH.nil
        refine AllReadyH.cons (o := { dst := some 7, op := Op.alloc 85, type := 0, pos := "ref.go:44", after := #[], guard := none }) rfl (fun K hK => ?_) ?_
        · go_simp
          skip
          (try go_wp2_with fail)
          refine hK.out _ _ ?_ (fun hHeld => ?_)
          · (first | exact hS1 | assumption | exact HN.out _ _ (by assumption) (below_alloc (Below.refl _ _) _) | exact HR.out _ _ _ (by assumption) (by first | omega | (simp; try omega)))
          clear hK K
          (try simp only [Act.put, List.setIfInBounds_toArray, List.set_cons_zero, List.set_cons_succ])
          refine wpAnyH_ready (rs := [3]) (by kernel_rfl) (by simp) ?_
          refine AllReadyH.cons (o := { dst := some 15, op := Op.call { callee := Callee.value (Operand.func 70), args := #[Operand.tmp 14], argTypes := #[27] }, type := 85, pos := "ref.go:44", after := #[{ on := 2, ground := Ground.data }, { on := 1, ground := Ground.chain }], guard := none }) rfl (fun K hK => ?_) ?_
          · go_simp
            with_reducible refine (HB.out _).mono ?_
            rintro e w1 ⟨rfl, hb1⟩
            have hS1 := HN.out _ _ (by assumption) hb1
            have hsz := hb1.size
            (try simp only [size_alloc, heap_drew] at hsz)
            (try go_wp2_with fail)
            refine hK.out _ _ ?_ (fun hHeld => ?_)
            · (first | exact hS1 | assumption | exact HN.out _ _ (by assumption) (below_alloc (Below.refl _ _) _) | exact HR.out _ _ _ (by assumption) (by first | omega | (simp; try omega)))
            clear hK K
            (try simp only [Act.put, List.setIfInBounds_toArray, List.set_cons_zero, List.set_cons_succ])
            refine wpAnyH_ready (rs := [6]) (by kernel_rfl) (by simp) ?_
            refine AllReadyH.cons (o := { dst := none, op := Op.store 85 (Operand.tmp 6) (Operand.tmp 13), type := 0, pos := "ref.go:44", after := #[{ on := 4, ground := Ground.data }, { on := 1, ground := Ground.data }, { on := 3, ground := Ground.chain }, { on := 0, ground := Ground.phase }, { on := 1, ground := Ground.phase }, { on := 2, ground := Ground.textOnly Departure.lateStores }, { on := 3, ground := Ground.textOnly Departure.lateStoresUnsure }, { on := 4, ground := Ground.phase }, { on := 5, ground := Ground.phase }], guard := none }) rfl (fun K hK => ?_) ?_
            · rw [if_pos (by rfl)]
              refine wp_store_row 85 _ _ rfl _ _ rfl rfl 85 zrow ?_ (size85.trans (by rw [bitsA_size])) (by simp [zrow, bitsA_size]) (bitsA_one _) ?_
              · repeat' first | with_reducible exact heap_alloc_new _ _ | with_reducible exact heap_alloc2_new _ _ _ | with_reducible refine old_drew ?_ | with_reducible refine old_alloc _ ?_ | with_reducible refine old_row _ (by simp; try omega) ?_ | with_reducible refine old_below (by assumption) ?_
              (try go_wp2_with fail)
              refine hK.out _ _ ?_ (fun hHeld => ?_)
              · (first | exact hS1 | assumption | exact HN.out _ _ (by assumption) (below_alloc (Below.refl _ _) _) | exact HR.out _ _ _ (by assumption) (by first | omega | (simp; try omega)))
              clear hK K
              (try simp only [Act.put, List.setIfInBounds_toArray, List.set_cons_zero, List.set_cons_succ])
              refine wpAnyH_ready (rs := [7]) (by kernel_rfl) (by simp) ?_
              refine AllReadyH.cons (o := { dst := none, op := Op.store 85 (Operand.tmp 7) (Operand.tmp 15), type := 0, pos := "ref.go:44", after := #[{ on := 5, ground := Ground.data }, { on := 3, ground := Ground.data }, { on := 6, ground := Ground.chain }, { on := 0, ground := Ground.phase }, { on := 1, ground := Ground.phase }, { on := 2, ground := Ground.phase }, { on := 3, ground := Ground.phase }, { on := 4, ground := Ground.phase }, { on := 5, ground := Ground.phase }, { on := 6, ground := Ground.phase }], guard := none }) rfl (fun K hK => ?_) ?_
              · rw [if_pos (by rfl)]
                refine wp_store_row 85 _ _ rfl _ _ rfl rfl 85 zrow ?_ (size85.trans (by rw [bitsA_size])) (by simp [zrow, bitsA_size]) (bitsA_one _) ?_
                · repeat' first | with_reducible exact heap_alloc_new _ _ | with_reducible exact heap_alloc2_new _ _ _ | with_reducible refine old_drew ?_ | with_reducible refine old_alloc _ ?_ | with_reducible refine old_row _ (by simp; try omega) ?_ | with_reducible refine old_below (by assumption) ?_
                (try go_wp2_with fail)
                refine hK.out _ _ ?_ (fun hHeld => ?_)
                · (first | exact hS1 | assumption | exact HN.out _ _ (by assumption) (below_alloc (Below.refl _ _) _) | exact HR.out _ _ _ (by assumption) (by first | omega | (simp; try omega)))
                clear hK K
                (try simp only [Act.put, List.setIfInBounds_toArray, List.set_cons_zero, List.set_cons_succ])
                refine wpAnyH_done (by kernel_rfl) (NoPanic.normal ?_) _
                go_wp2_with fail
                go_meet
                case rel =>
                  refine ⟨_, _, rfl, rfl, ⟨And.left (by assumption), ?_, ?_, ?_, ?_⟩⟩
                  · with_reducible refine old_row _ (by simp; try omega) ?_
                    refine setRow_heap _ _ zrow _ 85 (0, 0) ?_
                    repeat' first | with_reducible exact heap_alloc_new _ _ | with_reducible exact heap_alloc2_new _ _ _ | with_reducible refine old_drew ?_ | with_reducible refine old_alloc _ ?_ | with_reducible refine old_row _ (by simp; try omega) ?_ | with_reducible refine old_below (by assumption) ?_
                  · refine setRow_heap _ _ zrow _ 85 (0, 0) ?_
                    repeat' first | with_reducible exact heap_alloc_new _ _ | with_reducible exact heap_alloc2_new _ _ _ | with_reducible refine old_drew ?_ | with_reducible refine old_alloc _ ?_ | with_reducible refine old_row _ (by simp; try omega) ?_ | with_reducible refine old_below (by assumption) ?_
                  · first | omega | (simp; try omega)
                  · first | omega | (simp; try omega)
              exact AllReadyH.nil
            exact AllReadyH.nil
          exact AllReadyH.nil
        exact AllReadyH.nil
      refine AllReadyH.cons (o := { dst := some 7, op := Op.alloc 85, type := 0, pos := "ref.go:44", after := #[], guard := none }) rfl (fun K hK => ?_) ?_
      · go_simp
        skip
        (try go_wp2_with fail)
        refine hK.out _ _ ?_ (fun hHeld => ?_)
        · (first | exact hS1 | assumption | exact HN.out _ _ (by assumption) (below_alloc (Below.refl _ _) _) | exact HR.out _ _ _ (by assumption) (by first | omega | (simp; try omega)))
        clear hK K
        (try simp only [Act.put, List.setIfInBounds_toArray, List.set_cons_zero, List.set_cons_succ])
        refine wpAnyH_ready (rs := [1]) (by kernel_rfl) (by simp) ?_
        refine AllReadyH.cons (o := { dst := some 13, op := Op.call { callee := Callee.value (Operand.func 70), args := #[Operand.tmp 12], argTypes := #[27] }, type := 85, pos := "ref.go:44", after := #[{ on := 0, ground := Ground.data }], guard := none }) rfl (fun K hK => ?_) ?_
        · go_simp
          with_reducible refine (HA.out _).mono ?_
          rintro e w1 ⟨rfl, hb1⟩
          have hS1 := HN.out _ _ (by assumption) hb1
          have hsz := hb1.size
          (try simp only [size_alloc, heap_drew] at hsz)
          (try go_wp2_with fail)
          refine hK.out _ _ ?_ (fun hHeld => ?_)
          · (first | exact hS1 | assumption | exact HN.out _ _ (by assumption) (below_alloc (Below.refl _ _) _) | exact HR.out _ _ _ (by assumption) (by first | omega | (simp; try omega)))
          clear hK K
          (try simp only [Act.put, List.setIfInBounds_toArray, List.set_cons_zero, List.set_cons_succ])
          refine wpAnyH_ready (rs := [3]) (by kernel_rfl) (by simp) ?_
          refine AllReadyH.cons (o := { dst := some 15, op := Op.call { callee := Callee.value (Operand.func 70), args := #[Operand.tmp 14], argTypes := #[27] }, type := 85, pos := "ref.go:44", after := #[{ on := 2, ground := Ground.data }, { on := 1, ground := Ground.chain }], guard := none }) rfl (fun K hK => ?_) ?_
          · go_simp
            with_reducible refine (HB.out _).mono ?_
            rintro e w1 ⟨rfl, hb1⟩
            have hS1 := HN.out _ _ (by assumption) hb1
            have hsz := hb1.size
            (try simp only [size_alloc, heap_drew] at hsz)
            (try go_wp2_with fail)
            refine hK.out _ _ ?_ (fun hHeld => ?_)
            · (first | exact hS1 | assumption | exact HN.out _ _ (by assumption) (below_alloc (Below.refl _ _) _) | exact HR.out _ _ _ (by assumption) (by first | omega | (simp; try omega)))
            clear hK K
            (try simp only [Act.put, List.setIfInBounds_toArray, List.set_cons_zero, List.set_cons_succ])
            refine wpAnyH_ready (rs := [6]) (by kernel_rfl) (by simp) ?_
            refine AllReadyH.cons (o := { dst := none, op := Op.store 85 (Operand.tmp 6) (Operand.tmp 13), type := 0, pos := "ref.go:44", after := #[{ on := 4, ground := Ground.data }, { on := 1, ground := Ground.data }, { on := 3, ground := Ground.chain }, { on := 0, ground := Ground.phase }, { on := 1, ground := Ground.phase }, { on := 2, ground := Ground.textOnly Departure.lateStores }, { on := 3, ground := Ground.textOnly Departure.lateStoresUnsure }, { on := 4, ground := Ground.phase }, { on := 5, ground := Ground.phase }], guard := none }) rfl (fun K hK => ?_) ?_
            · rw [if_pos (by rfl)]
              refine wp_store_row 85 _ _ rfl _ _ rfl rfl 85 zrow ?_ (size85.trans (by rw [bitsA_size])) (by simp [zrow, bitsA_size]) (bitsA_one _) ?_
              · repeat' first | with_reducible exact heap_alloc_new _ _ | with_reducible exact heap_alloc2_new _ _ _ | with_reducible refine old_drew ?_ | with_reducible refine old_alloc _ ?_ | with_reducible refine old_row _ (by simp; try omega) ?_ | with_reducible refine old_below (by assumption) ?_
              (try go_wp2_with fail)
              refine hK.out _ _ ?_ (fun hHeld => ?_)
              · (first | exact hS1 | assumption | exact HN.out _ _ (by assumption) (below_alloc (Below.refl _ _) _) | exact HR.out _ _ _ (by assumption) (by first | omega | (simp; try omega)))
              clear hK K
              (try simp only [Act.put, List.setIfInBounds_toArray, List.set_cons_zero, List.set_cons_succ])
              refine wpAnyH_ready (rs := [7]) (by kernel_rfl) (by simp) ?_
              refine AllReadyH.cons (o := { dst := none, op := Op.store 85 (Operand.tmp 7) (Operand.tmp 15), type := 0, pos := "ref.go:44", after := #[{ on := 5, ground := Ground.data }, { on := 3, ground := Ground.data }, { on := 6, ground := Ground.chain }, { on := 0, ground := Ground.phase }, { on := 1, ground := Ground.phase }, { on := 2, ground := Ground.phase }, { on := 3, ground := Ground.phase }, { on := 4, ground := Ground.phase }, { on := 5, ground := Ground.phase }, { on := 6, ground := Ground.phase }], guard := none }) rfl (fun K hK => ?_) ?_
              · rw [if_pos (by rfl)]
                refine wp_store_row 85 _ _ rfl _ _ rfl rfl 85 zrow ?_ (size85.trans (by rw [bitsA_size])) (by simp [zrow, bitsA_size]) (bitsA_one _) ?_
                · repeat' first | with_reducible exact heap_alloc_new _ _ | with_reducible exact heap_alloc2_new _ _ _ | with_reducible refine old_drew ?_ | with_reducible refine old_alloc _ ?_ | with_reducible refine old_row _ (by simp; try omega) ?_ | with_reducible refine old_below (by assumption) ?_
                (try go_wp2_with fail)
                refine hK.out _ _ ?_ (fun hHeld => ?_)
                · (first | exact hS1 | assumption | exact HN.out _ _ (by assumption) (below_alloc (Below.refl _ _) _) | exact HR.out _ _ _ (by assumption) (by first | omega | (simp; try omega)))
                clear hK K
                (try simp only [Act.put, List.setIfInBounds_toArray, List.set_cons_zero, List.set_cons_succ])
                refine wpAnyH_done (by kernel_rfl) (NoPanic.normal ?_) _
                go_wp2_with fail
                go_meet
                case rel =>
                  refine ⟨_, _, rfl, rfl, ⟨And.left (by assumption), ?_, ?_, ?_, ?_⟩⟩
                  · with_reducible refine old_row _ (by simp; try omega) ?_
                    refine setRow_heap _ _ zrow _ 85 (0, 0) ?_
                    repeat' first | with_reducible exact heap_alloc_new _ _ | with_reducible exact heap_alloc2_new _ _ _ | with_reducible refine old_drew ?_ | with_reducible refine old_alloc _ ?_ | with_reducible refine old_row _ (by simp; try omega) ?_ | with_reducible refine old_below (by assumption) ?_
                  · refine setRow_heap _ _ zrow _ 85 (0, 0) ?_
                    repeat' first | with_reducible exact heap_alloc_new _ _ | with_reducible exact heap_alloc2_new _ _ _ | with_reducible refine old_drew ?_ | with_reducible refine old_alloc _ ?_ | with_reducible refine old_row _ (by simp; try omega) ?_ | with_reducible refine old_below (by assumption) ?_
                  · first | omega | (simp; try omega)
                  · first | omega | (simp; try omega)
              exact AllReadyH.nil
            exact AllReadyH.nil
          exact AllReadyH.nil
        exact AllReadyH.nil
      exact AllReadyH.nil
    refine AllReadyH.cons (o := { dst := some 7, op := Op.alloc 85, type := 0, pos := "ref.go:44", after := #[], guard := none }) rfl (fun K hK => ?_) ?_
    · go_simp
      skip
      (try go_wp2_with fail)
      refine hK.out _ _ ?_ (fun hHeld => ?_)
      · (first | exact hS1 | assumption | exact HN.out _ _ (by assumption) (below_alloc (Below.refl _ _) _) | exact HR.out _ _ _ (by assumption) (by first | omega | (simp; try omega)))
      clear hK K
      (try simp only [Act.put, List.setIfInBounds_toArray, List.set_cons_zero, List.set_cons_succ])
      refine wpAnyH_ready (rs := [1, 4]) (by kernel_rfl) (by simp) ?_
      refine AllReadyH.cons (o := { dst := some 13, op := Op.call { callee := Callee.value (Operand.func 70), args := #[Operand.tmp 12], argTypes := #[27] }, type := 85, pos := "ref.go:44", after := #[{ on := 0, ground := Ground.data }], guard := none }) rfl (fun K hK => ?_) ?_
      · go_simp
        with_reducible refine (HA.out _).mono ?_
        rintro e w1 ⟨rfl, hb1⟩
        have hS1 := HN.out _ _ (by assumption) hb1
        have hsz := hb1.size
        (try simp only [size_alloc, heap_drew] at hsz)
        (try go_wp2_with fail)
        refine hK.out _ _ ?_ (fun hHeld => ?_)
        · (first | exact hS1 | assumption | exact HN.out _ _ (by assumption) (below_alloc (Below.refl _ _) _) | exact HR.out _ _ _ (by assumption) (by first | omega | (simp; try omega)))
        clear hK K
        (try simp only [Act.put, List.setIfInBounds_toArray, List.set_cons_zero, List.set_cons_succ])
        refine wpAnyH_ready (rs := [3, 4]) (by kernel_rfl) (by simp) ?_
        refine AllReadyH.cons (o := { dst := some 15, op := Op.call { callee := Callee.value (Operand.func 70), args := #[Operand.tmp 14], argTypes := #[27] }, type := 85, pos := "ref.go:44", after := #[{ on := 2, ground := Ground.data }, { on := 1, ground := Ground.chain }], guard := none }) rfl (fun K hK => ?_) ?_
        · go_simp
          with_reducible refine (HB.out _).mono ?_
          rintro e w1 ⟨rfl, hb1⟩
          have hS1 := HN.out _ _ (by assumption) hb1
          have hsz := hb1.size
          (try simp only [size_alloc, heap_drew] at hsz)
          (try go_wp2_with fail)
          refine hK.out _ _ ?_ (fun hHeld => ?_)
          · (first | exact hS1 | assumption | exact HN.out _ _ (by assumption) (below_alloc (Below.refl _ _) _) | exact HR.out _ _ _ (by assumption) (by first | omega | (simp; try omega)))
          clear hK K
          (try simp only [Act.put, List.setIfInBounds_toArray, List.set_cons_zero, List.set_cons_succ])
          refine wpAnyH_ready (rs := [4]) (by kernel_rfl) (by simp) ?_
          refine AllReadyH.cons (o := { dst := some 6, op := Op.alloc 85, type := 0, pos := "ref.go:44", after := #[], guard := none }) rfl (fun K hK => ?_) ?_
          · go_simp
            skip
            (try go_wp2_with fail)
            refine hK.out _ _ ?_ (fun hHeld => ?_)
            · (first | exact hS1 | assumption | exact HN.out _ _ (by assumption) (below_alloc (Below.refl _ _) _) | exact HR.out _ _ _ (by assumption) (by first | omega | (simp; try omega)))
            clear hK K
            (try simp only [Act.put, List.setIfInBounds_toArray, List.set_cons_zero, List.set_cons_succ])
            refine wpAnyH_ready (rs := [6]) (by kernel_rfl) (by simp) ?_
            refine AllReadyH.cons (o := { dst := none, op := Op.store 85 (Operand.tmp 6) (Operand.tmp 13), type := 0, pos := "ref.go:44", after := #[{ on := 4, ground := Ground.data }, { on := 1, ground := Ground.data }, { on := 3, ground := Ground.chain }, { on := 0, ground := Ground.phase }, { on := 1, ground := Ground.phase }, { on := 2, ground := Ground.textOnly Departure.lateStores }, { on := 3, ground := Ground.textOnly Departure.lateStoresUnsure }, { on := 4, ground := Ground.phase }, { on := 5, ground := Ground.phase }], guard := none }) rfl (fun K hK => ?_) ?_
            · rw [if_pos (by rfl)]
              refine wp_store_row 85 _ _ rfl _ _ rfl rfl 85 zrow ?_ (size85.trans (by rw [bitsA_size])) (by simp [zrow, bitsA_size]) (bitsA_one _) ?_
              · repeat' first | with_reducible exact heap_alloc_new _ _ | with_reducible exact heap_alloc2_new _ _ _ | with_reducible refine old_drew ?_ | with_reducible refine old_alloc _ ?_ | with_reducible refine old_row _ (by simp; try omega) ?_ | with_reducible refine old_below (by assumption) ?_
              (try go_wp2_with fail)
              refine hK.out _ _ ?_ (fun hHeld => ?_)
              · (first | exact hS1 | assumption | exact HN.out _ _ (by assumption) (below_alloc (Below.refl _ _) _) | exact HR.out _ _ _ (by assumption) (by first | omega | (simp; try omega)))
              clear hK K
              (try simp only [Act.put, List.setIfInBounds_toArray, List.set_cons_zero, List.set_cons_succ])
              refine wpAnyH_ready (rs := [7]) (by kernel_rfl) (by simp) ?_
              refine AllReadyH.cons (o := { dst := none, op := Op.store 85 (Operand.tmp 7) (Operand.tmp 15), type := 0, pos := "ref.go:44", after := #[{ on := 5, ground := Ground.data }, { on := 3, ground := Ground.data }, { on := 6, ground := Ground.chain }, { on := 0, ground := Ground.phase }, { on := 1, ground := Ground.phase }, { on := 2, ground := Ground.phase }, { on := 3, ground := Ground.phase }, { on := 4, ground := Ground.phase }, { on := 5, ground := Ground.phase }, { on := 6, ground := Ground.phase }], guard := none }) rfl (fun K hK => ?_) ?_
              · rw [if_pos (by rfl)]
                refine wp_store_row 85 _ _ rfl _ _ rfl rfl 85 zrow ?_ (size85.trans (by rw [bitsA_size])) (by simp [zrow, bitsA_size]) (bitsA_one _) ?_
                · repeat' first | with_reducible exact heap_alloc_new _ _ | with_reducible exact heap_alloc2_new _ _ _ | with_reducible refine old_drew ?_ | with_reducible refine old_alloc _ ?_ | with_reducible refine old_row _ (by simp; try omega) ?_ | with_reducible refine old_below (by assumption) ?_
                (try go_wp2_with fail)
                refine hK.out _ _ ?_ (fun hHeld => ?_)
                · (first | exact hS1 | assumption | exact HN.out _ _ (by assumption) (below_alloc (Below.refl _ _) _) | exact HR.out _ _ _ (by assumption) (by first | omega | (simp; try omega)))
                clear hK K
                (try simp only [Act.put, List.setIfInBounds_toArray, List.set_cons_zero, List.set_cons_succ])
                refine wpAnyH_done (by kernel_rfl) (NoPanic.normal ?_) _
                go_wp2_with fail
                go_meet
                case rel =>
                  refine ⟨_, _, rfl, rfl, ⟨And.left (by assumption), ?_, ?_, ?_, ?_⟩⟩
                  · with_reducible refine old_row _ (by simp; try omega) ?_
                    refine setRow_heap _ _ zrow _ 85 (0, 0) ?_
                    repeat' first | with_reducible exact heap_alloc_new _ _ | with_reducible exact heap_alloc2_new _ _ _ | with_reducible refine old_drew ?_ | with_reducible refine old_alloc _ ?_ | with_reducible refine old_row _ (by simp; try omega) ?_ | with_reducible refine old_below (by assumption) ?_
                  · refine setRow_heap _ _ zrow _ 85 (0, 0) ?_
                    repeat' first | with_reducible exact heap_alloc_new _ _ | with_reducible exact heap_alloc2_new _ _ _ | with_reducible refine old_drew ?_ | with_reducible refine old_alloc _ ?_ | with_reducible refine old_row _ (by simp; try omega) ?_ | with_reducible refine old_below (by assumption) ?_
                  · first | omega | (simp; try omega)
                  · first | omega | (simp; try omega)
              exact AllReadyH.nil
            exact AllReadyH.nil
          exact AllReadyH.nil
        refine AllReadyH.cons (o := { dst := some 6, op := Op.alloc 85, type := 0, pos := "ref.go:44", after := #[], guard := none }) rfl (fun K hK => ?_) ?_
        · go_simp
          skip
          (try go_wp2_with fail)
          refine hK.out _ _ ?_ (fun hHeld => ?_)
          · (first | exact hS1 | assumption | exact HN.out _ _ (by assumption) (below_alloc (Below.refl _ _) _) | exact HR.out _ _ _ (by assumption) (by first | omega | (simp; try omega)))
          clear hK K
          (try simp only [Act.put, List.setIfInBounds_toArray, List.set_cons_zero, List.set_cons_succ])
          refine wpAnyH_ready (rs := [3]) (by kernel_rfl) (by simp) ?_
          refine AllReadyH.cons (o := { dst := some 15, op := Op.call { callee := Callee.value (Operand.func 70), args := #[Operand.tmp 14], argTypes := #[27] }, type := 85, pos := "ref.go:44", after := #[{ on := 2, ground := Ground.data }, { on := 1, ground := Ground.chain }], guard := none }) rfl (fun K hK => ?_) ?_
          · go_simp
            with_reducible refine (HB.out _).mono ?_
            rintro e w1 ⟨rfl, hb1⟩
            have hS1 := HN.out _ _ (by assumption) hb1
            have hsz := hb1.size
            (try simp only [size_alloc, heap_drew] at hsz)
            (try go_wp2_with fail)
            refine hK.out _ _ ?_ (fun hHeld => ?_)
            · (first | exact hS1 | assumption | exact HN.out _ _ (by assumption) (below_alloc (Below.refl _ _) _) | exact HR.out _ _ _ (by assumption) (by first | omega | (simp; try omega)))
            clear hK K
            (try simp only [Act.put, List.setIfInBounds_toArray, List.set_cons_zero, List.set_cons_succ])
            refine wpAnyH_ready (rs := [6]) (by kernel_rfl) (by simp) ?_
            refine AllReadyH.cons (o := { dst := none, op := Op.store 85 (Operand.tmp 6) (Operand.tmp 13), type := 0, pos := "ref.go:44", after := #[{ on := 4, ground := Ground.data }, { on := 1, ground := Ground.data }, { on := 3, ground := Ground.chain }, { on := 0, ground := Ground.phase }, { on := 1, ground := Ground.phase }, { on := 2, ground := Ground.textOnly Departure.lateStores }, { on := 3, ground := Ground.textOnly Departure.lateStoresUnsure }, { on := 4, ground := Ground.phase }, { on := 5, ground := Ground.phase }], guard := none }) rfl (fun K hK => ?_) ?_
            · rw [if_pos (by rfl)]
              refine wp_store_row 85 _ _ rfl _ _ rfl rfl 85 zrow ?_ (size85.trans (by rw [bitsA_size])) (by simp [zrow, bitsA_size]) (bitsA_one _) ?_
              · repeat' first | with_reducible exact heap_alloc_new _ _ | with_reducible exact heap_alloc2_new _ _ _ | with_reducible refine old_drew ?_ | with_reducible refine old_alloc _ ?_ | with_reducible refine old_row _ (by simp; try omega) ?_ | with_reducible refine old_below (by assumption) ?_
              (try go_wp2_with fail)
              refine hK.out _ _ ?_ (fun hHeld => ?_)
              · (first | exact hS1 | assumption | exact HN.out _ _ (by assumption) (below_alloc (Below.refl _ _) _) | exact HR.out _ _ _ (by assumption) (by first | omega | (simp; try omega)))
              clear hK K
              (try simp only [Act.put, List.setIfInBounds_toArray, List.set_cons_zero, List.set_cons_succ])
              refine wpAnyH_ready (rs := [7]) (by kernel_rfl) (by simp) ?_
              refine AllReadyH.cons (o := { dst := none, op := Op.store 85 (Operand.tmp 7) (Operand.tmp 15), type := 0, pos := "ref.go:44", after := #[{ on := 5, ground := Ground.data }, { on := 3, ground := Ground.data }, { on := 6, ground := Ground.chain }, { on := 0, ground := Ground.phase }, { on := 1, ground := Ground.phase }, { on := 2, ground := Ground.phase }, { on := 3, ground := Ground.phase }, { on := 4, ground := Ground.phase }, { on := 5, ground := Ground.phase }, { on := 6, ground := Ground.phase }], guard := none }) rfl (fun K hK => ?_) ?_
              · rw [if_pos (by rfl)]
                refine wp_store_row 85 _ _ rfl _ _ rfl rfl 85 zrow ?_ (size85.trans (by rw [bitsA_size])) (by simp [zrow, bitsA_size]) (bitsA_one _) ?_
                · repeat' first | with_reducible exact heap_alloc_new _ _ | with_reducible exact heap_alloc2_new _ _ _ | with_reducible refine old_drew ?_ | with_reducible refine old_alloc _ ?_ | with_reducible refine old_row _ (by simp; try omega) ?_ | with_reducible refine old_below (by assumption) ?_
                (try go_wp2_with fail)
                refine hK.out _ _ ?_ (fun hHeld => ?_)
                · (first | exact hS1 | assumption | exact HN.out _ _ (by assumption) (below_alloc (Below.refl _ _) _) | exact HR.out _ _ _ (by assumption) (by first | omega | (simp; try omega)))
                clear hK K
                (try simp only [Act.put, List.setIfInBounds_toArray, List.set_cons_zero, List.set_cons_succ])
                refine wpAnyH_done (by kernel_rfl) (NoPanic.normal ?_) _
                go_wp2_with fail
                go_meet
                case rel =>
                  refine ⟨_, _, rfl, rfl, ⟨And.left (by assumption), ?_, ?_, ?_, ?_⟩⟩
                  · with_reducible refine old_row _ (by simp; try omega) ?_
                    refine setRow_heap _ _ zrow _ 85 (0, 0) ?_
                    repeat' first | with_reducible exact heap_alloc_new _ _ | with_reducible exact heap_alloc2_new _ _ _ | with_reducible refine old_drew ?_ | with_reducible refine old_alloc _ ?_ | with_reducible refine old_row _ (by simp; try omega) ?_ | with_reducible refine old_below (by assumption) ?_
                  · refine setRow_heap _ _ zrow _ 85 (0, 0) ?_
                    repeat' first | with_reducible exact heap_alloc_new _ _ | with_reducible exact heap_alloc2_new _ _ _ | with_reducible refine old_drew ?_ | with_reducible refine old_alloc _ ?_ | with_reducible refine old_row _ (by simp; try omega) ?_ | with_reducible refine old_below (by assumption) ?_
                  · first | omega | (simp; try omega)
                  · first | omega | (simp; try omega)
              exact AllReadyH.nil
            exact AllReadyH.nil
          exact AllReadyH.nil
        exact AllReadyH.nil
      refine AllReadyH.cons (o := { dst := some 6, op := Op.alloc 85, type := 0, pos := "ref.go:44", after := #[], guard := none }) rfl (fun K hK => ?_) ?_
      · go_simp
        skip
        (try go_wp2_with fail)
        refine hK.out _ _ ?_ (fun hHeld => ?_)
        · (first | exact hS1 | assumption | exact HN.out _ _ (by assumption) (below_alloc (Below.refl _ _) _) | exact HR.out _ _ _ (by assumption) (by first | omega | (simp; try omega)))
        clear hK K
        (try simp only [Act.put, List.setIfInBounds_toArray, List.set_cons_zero, List.set_cons_succ])
        refine wpAnyH_ready (rs := [1]) (by kernel_rfl) (by simp) ?_
        refine AllReadyH.cons (o := { dst := some 13, op := Op.call { callee := Callee.value (Operand.func 70), args := #[Operand.tmp 12], argTypes := #[27] }, type := 85, pos := "ref.go:44", after := #[{ on := 0, ground := Ground.data }], guard := none }) rfl (fun K hK => ?_) ?_
        · go_simp
          with_reducible refine (HA.out _).mono ?_
          rintro e w1 ⟨rfl, hb1⟩
          have hS1 := HN.out _ _ (by assumption) hb1
          have hsz := hb1.size
          (try simp only [size_alloc, heap_drew] at hsz)
          (try go_wp2_with fail)
          refine hK.out _ _ ?_ (fun hHeld => ?_)
          · (first | exact hS1 | assumption | exact HN.out _ _ (by assumption) (below_alloc (Below.refl _ _) _) | exact HR.out _ _ _ (by assumption) (by first | omega | (simp; try omega)))
          clear hK K
          (try simp only [Act.put, List.setIfInBounds_toArray, List.set_cons_zero, List.set_cons_succ])
          refine wpAnyH_ready (rs := [3]) (by kernel_rfl) (by simp) ?_
          refine AllReadyH.cons (o := { dst := some 15, op := Op.call { callee := Callee.value (Operand.func 70), args := #[Operand.tmp 14], argTypes := #[27] }, type := 85, pos := "ref.go:44", after := #[{ on := 2, ground := Ground.data }, { on := 1, ground := Ground.chain }], guard := none }) rfl (fun K hK => ?_) ?_
          · go_simp
            with_reducible refine (HB.out _).mono ?_
            rintro e w1 ⟨rfl, hb1⟩
            have hS1 := HN.out _ _ (by assumption) hb1
            have hsz := hb1.size
            (try simp only [size_alloc, heap_drew] at hsz)
            (try go_wp2_with fail)
            refine hK.out _ _ ?_ (fun hHeld => ?_)
            · (first | exact hS1 | assumption | exact HN.out _ _ (by assumption) (below_alloc (Below.refl _ _) _) | exact HR.out _ _ _ (by assumption) (by first | omega | (simp; try omega)))
            clear hK K
            (try simp only [Act.put, List.setIfInBounds_toArray, List.set_cons_zero, List.set_cons_succ])
            refine wpAnyH_ready (rs := [6]) (by kernel_rfl) (by simp) ?_
            refine AllReadyH.cons (o := { dst := none, op := Op.store 85 (Operand.tmp 6) (Operand.tmp 13), type := 0, pos := "ref.go:44", after := #[{ on := 4, ground := Ground.data }, { on := 1, ground := Ground.data }, { on := 3, ground := Ground.chain }, { on := 0, ground := Ground.phase }, { on := 1, ground := Ground.phase }, { on := 2, ground := Ground.textOnly Departure.lateStores }, { on := 3, ground := Ground.textOnly Departure.lateStoresUnsure }, { on := 4, ground := Ground.phase }, { on := 5, ground := Ground.phase }], guard := none }) rfl (fun K hK => ?_) ?_
            · rw [if_pos (by rfl)]
              refine wp_store_row 85 _ _ rfl _ _ rfl rfl 85 zrow ?_ (size85.trans (by rw [bitsA_size])) (by simp [zrow, bitsA_size]) (bitsA_one _) ?_
              · repeat' first | with_reducible exact heap_alloc_new _ _ | with_reducible exact heap_alloc2_new _ _ _ | with_reducible refine old_drew ?_ | with_reducible refine old_alloc _ ?_ | with_reducible refine old_row _ (by simp; try omega) ?_ | with_reducible refine old_below (by assumption) ?_
              (try go_wp2_with fail)
              refine hK.out _ _ ?_ (fun hHeld => ?_)
              · (first | exact hS1 | assumption | exact HN.out _ _ (by assumption) (below_alloc (Below.refl _ _) _) | exact HR.out _ _ _ (by assumption) (by first | omega | (simp; try omega)))
              clear hK K
              (try simp only [Act.put, List.setIfInBounds_toArray, List.set_cons_zero, List.set_cons_succ])
              refine wpAnyH_ready (rs := [7]) (by kernel_rfl) (by simp) ?_
              refine AllReadyH.cons (o := { dst := none, op := Op.store 85 (Operand.tmp 7) (Operand.tmp 15), type := 0, pos := "ref.go:44", after := #[{ on := 5, ground := Ground.data }, { on := 3, ground := Ground.data }, { on := 6, ground := Ground.chain }, { on := 0, ground := Ground.phase }, { on := 1, ground := Ground.phase }, { on := 2, ground := Ground.phase }, { on := 3, ground := Ground.phase }, { on := 4, ground := Ground.phase }, { on := 5, ground := Ground.phase }, { on := 6, ground := Ground.phase }], guard := none }) rfl (fun K hK => ?_) ?_
              · rw [if_pos (by rfl)]
                refine wp_store_row 85 _ _ rfl _ _ rfl rfl 85 zrow ?_ (size85.trans (by rw [bitsA_size])) (by simp [zrow, bitsA_size]) (bitsA_one _) ?_
                · repeat' first | with_reducible exact heap_alloc_new _ _ | with_reducible exact heap_alloc2_new _ _ _ | with_reducible refine old_drew ?_ | with_reducible refine old_alloc _ ?_ | with_reducible refine old_row _ (by simp; try omega) ?_ | with_reducible refine old_below (by assumption) ?_
                (try go_wp2_with fail)
                refine hK.out _ _ ?_ (fun hHeld => ?_)
                · (first | exact hS1 | assumption | exact HN.out _ _ (by assumption) (below_alloc (Below.refl _ _) _) | exact HR.out _ _ _ (by assumption) (by first | omega | (simp; try omega)))
                clear hK K
                (try simp only [Act.put, List.setIfInBounds_toArray, List.set_cons_zero, List.set_cons_succ])
                refine wpAnyH_done (by kernel_rfl) (NoPanic.normal ?_) _
                go_wp2_with fail
                go_meet
                case rel =>
                  refine ⟨_, _, rfl, rfl, ⟨And.left (by assumption), ?_, ?_, ?_, ?_⟩⟩
                  · with_reducible refine old_row _ (by simp; try omega) ?_
                    refine setRow_heap _ _ zrow _ 85 (0, 0) ?_
                    repeat' first | with_reducible exact heap_alloc_new _ _ | with_reducible exact heap_alloc2_new _ _ _ | with_reducible refine old_drew ?_ | with_reducible refine old_alloc _ ?_ | with_reducible refine old_row _ (by simp; try omega) ?_ | with_reducible refine old_below (by assumption) ?_
                  · refine setRow_heap _ _ zrow _ 85 (0, 0) ?_
                    repeat' first | with_reducible exact heap_alloc_new _ _ | with_reducible exact heap_alloc2_new _ _ _ | with_reducible refine old_drew ?_ | with_reducible refine old_alloc _ ?_ | with_reducible refine old_row _ (by simp; try omega) ?_ | with_reducible refine old_below (by assumption) ?_
                  · first | omega | (simp; try omega)
                  · first | omega | (simp; try omega)
              exact AllReadyH.nil
            exact AllReadyH.nil
          exact AllReadyH.nil
        exact AllReadyH.nil
      exact AllReadyH.nil
    exact AllReadyH.nil

  case rest =>
    obtain ⟨b5, b6, rfl, rfl, hR⟩ := hcut
    have HR2 := Lib.hid hR
    have hb5 : b5 < wc.heap.size := (Array.getElem?_eq_some_iff.mp hR.r5).1
    have hb6 : b6 < wc.heap.size := (Array.getElem?_eq_some_iff.mp hR.r6).1
    have hbw := hR.below.size
    have HI : Hid (AddI w0 (wc.alloc (.cells (bitsA (tail h 0)) 85)) f g (tail h 0) b5 b6 wc.heap.size (w.heap.size + 1 + 1)) :=
      ⟨⟨below_alloc hR.below _, old_alloc _ hR.r5, old_alloc _ hR.r6, hR.l5, hR.l6⟩, heap_alloc_new _ _, hbw, by omega, by omega, HE.out _ (below_alloc hR.below _), HL.out⟩
    clear hR hb5 hb6 hbw
    rw [tail_zero] at HI
    go_wp2_with fail
    go_loopw [9, 10] (fun c i wr => ∃ k : Nat, k ≤ 128 ∧ i = .int .i64 (127 - (k : Int)) ∧ c = .int .u64 (cs k : Int) ∧ AddI w0 wr f g (tail h k) b5 b6 wc.heap.size (w.heap.size + 1 + 1)) (fun _ i _ => (intOf i + 1).toNat)
    case atStart =>
      refine ⟨0, by omega, rfl, by rw [H0.out]; rfl, ?_⟩
      have := HI.out
      rwa [← tail_zero h] at this ⊢
    case round =>
      obtain ⟨k, hk, rfl, rfl, hI⟩ := hrel
      by_cases hlt : k < 128
      · obtain ⟨p, hp⟩ : ∃ p, p + k = 127 := ⟨127 - k, by omega⟩
        have e : (127 - (k : Int)) = (p : Int) := by omega
        have e' : (127 - ((k + 1 : Nat) : Int)) = (p : Int) - 1 := by omega
        rw [e]
        have E' := Lib.hid e'
        have E := Lib.hid e
        have k0 : decide ((p : Int) ≥ 0) = true := by simp
        have k2 : (0 : Int) ≤ (p : Int) := by omega
        have k1 : (p : Int) < 128 := by omega
        obtain ⟨c5, c6⟩ := hI.rows.cells p (by omega)
        obtain ⟨c8, z8⟩ := hI.cells p (by omega)
        obtain ⟨s1, s2⟩ := HS.out k p hp
        have bf := Hf.out p
        have bg := Hg.out p
        have bc := HC.out k
        have HSt := Lib.hid (hI.store p (h p) (tail h (k + 1)) (tail_succ h k p hp))
        clear hI e e'
        generalize f p = x at *
        generalize g p = y at *
        generalize hcs : cs k = c at *
        obtain ⟨n, hn⟩ : ∃ n, n = x + y + c := ⟨_, rfl⟩
        have v1 : IntKind.u64.wrap ((x : Int) + y) = ((x + y : Nat) : Int) := by rw [IntKind.wrap_u64]; omega
        have v2 : IntKind.u64.wrap (((x + y : Nat) : Int) + c) = (n : Int) := by rw [IntKind.wrap_u64]; omega
        rw [← hn] at s1 s2
        have t1 : (n : Int).tmod 2 = ((h p : Nat) : Int) := by rw [← s1]; rfl
        have t2 : (n : Int).tdiv 2 = ((cs (k + 1) : Nat) : Int) := by rw [← s2]; rfl
        have v3 : IntKind.u64.wrap ((cs (k + 1) : Nat) : Int) = ((cs (k + 1) : Nat) : Int) := by have := HC.out (k + 1); rw [IntKind.wrap_u64]; omega
        clear s1 s2 bf bg bc hn hcs
        generalize hq : cs (k + 1) = q at *
        generalize h p = r at *
        generalize tail h k p = r0 at *
        have HQ := Lib.hid hq
        have HP := Lib.hid hp
        clear hq hp
        generalize x + y = xy at *
        go_wp2_with fail
        go_region
        go_wp2_with fail
        go_roundw
        case rel => exact ⟨k + 1, by omega, by rw [E'.out], by rw [HQ.out], HSt.out.drew⟩
        case measure => simp [intOf]
      · obtain rfl : k = 128 := by omega
        have hrow := hI.r8
        rw [tail_all] at hrow
        have hcell := hI.cell
        have HRo := Lib.hid hrow
        have HI2 := Lib.hid hI
        clear hrow hI hcell
        generalize cs 128 = c at *
        go_wp2_with (first
          | (refine wpList_load_row rfl 85 _ rfl wc.heap.size rfl 85 (bitsA h) (0, 0) _ HRo.out Try.underlying85 rfl (size85.trans (by rw [bitsA_size])) ?_)
          | (go_at_call 71; with_reducible refine (HF.out _).mono ?_; rintro e w1 ⟨rfl, hb1⟩
             have hc1 := old_below hb1 HI2.out.cell
             obtain ⟨d0, d1⟩ := two_cells hc1
             have f0 := frozen_of_row _ _ 0 _ _ hc1
             have f1 := frozen_of_row _ _ 1 _ _ hc1
             have HC1 := Lib.hid hc1
             have HB1 : Hid (Below w.heap.size w w1) := (HW.out.trans (HI2.out.rows.below.mono HW.out.size)).trans (hb1.mono (Nat.le_trans HW.out.size HI2.out.rows.below.size))
             clear hc1 hb1))
        have hB := (HB1.out.setCell (p := ⟨w.heap.size + 1 + 1, 0, none⟩) (by simp; omega) (.int .u64 s)).setCell (p := ⟨w.heap.size + 1 + 1, 1, none⟩) (by simp; omega) (.int .u64 t)
        obtain ⟨r0, r1⟩ := two_cells (pair_set HC1.out (.int .u64 s) (.int .u64 t))
        generalize (w1.setCell ⟨w.heap.size + 1 + 1, 0, none⟩ (.int .u64 s)).setCell ⟨w.heap.size + 1 + 1, 1, none⟩ (.int .u64 t) = W1 at *
        exact bodyPost_ret (v := .tuple #[wv s t, .bool ((c : Int) == 1)]) (by simp [results, Try.results20, go_sem, r0, r1]) rfl ⟨by rw [HO.out], hB⟩

/-- The carry into place k from the end. -/
def carry (a b k : Nat) : Nat := (a % 2 ^ k + b % 2 ^ k) / 2 ^ k
theorem carry_le (a b k : Nat) : carry a b k ≤ 1 := by
  have h1 := Nat.mod_lt a (Nat.two_pow_pos k)
  have h2 := Nat.mod_lt b (Nat.two_pow_pos k)
  exact Nat.le_of_lt_succ ((Nat.div_lt_iff_lt_mul (Nat.two_pow_pos k)).mpr (by omega))
theorem carry_step (a b k p : Nat) (hp : p + k = 127) :
    (bitOf a p + bitOf b p + carry a b k) % 2 = bitOf (a + b) p ∧ (bitOf a p + bitOf b p + carry a b k) / 2 = carry a b (k + 1) := by
  have hk : 127 - p = k := by omega
  rw [bitOf, bitOf, bitOf, hk]
  have ea := Nat.div_add_mod a (2 ^ k)
  have eb := Nat.div_add_mod b (2 ^ k)
  have pos := Nat.two_pow_pos k
  have e1 : (a + b) / 2 ^ k = a / 2 ^ k + b / 2 ^ k + carry a b k := by
    rw [carry]
    have : a + b = 2 ^ k * (a / 2 ^ k + b / 2 ^ k) + (a % 2 ^ k + b % 2 ^ k) := by rw [Nat.mul_add]; omega
    rw [this, Nat.mul_add_div pos]
  have ma : a % 2 ^ (k + 1) = 2 ^ k * (a / 2 ^ k % 2) + a % 2 ^ k := by rw [Nat.pow_succ, Nat.mod_mul]; omega
  have mb : b % 2 ^ (k + 1) = 2 ^ k * (b / 2 ^ k % 2) + b % 2 ^ k := by rw [Nat.pow_succ, Nat.mod_mul]; omega
  refine ⟨by rw [e1]; omega, ?_⟩
  rw [carry, carry, ma, mb, Nat.pow_succ, ← Nat.div_div_eq_div_mul]
  have : 2 ^ k * (a / 2 ^ k % 2) + a % 2 ^ k + (2 ^ k * (b / 2 ^ k % 2) + b % 2 ^ k) = 2 ^ k * (a / 2 ^ k % 2 + b / 2 ^ k % 2) + (a % 2 ^ k + b % 2 ^ k) := by rw [Nat.mul_add]; omega
  rw [this, Nat.mul_add_div pos]

theorem MM_pow : MM = 2 ^ 128 := by decide
theorem refadd_any (a b : Nat) (ha : a < MM) (hb : b < MM) (w : World) :
    Calls Try.prog 20 #[W a, W b] w fun e w' => e = .returned (.tuple #[W ((a + b) % MM), .bool (decide (MM ≤ a + b))]) ∧ Below w.heap.size w w' := by
  have e : numOf (bitOf (a + b)) 128 = (a + b) % MM := by rw [numOf_bits _ 128 (Nat.le_refl _), Nat.sub_self, Nat.pow_zero, Nat.div_one, MM_pow]
  refine refadd_walk (a / M) (a % M) (b / M) (b % M) (bitOf a) (bitOf b) (bitOf (a + b)) (carry a b) (fun w => bits_any a ha w) (fun w => bits_any b hb w) _ _
    (fun w => by have := of_bits (bitOf (a + b)) (bitOf_le _) w; rw [e] at this; exact this) ?_ (carry_le a b) (bitOf_le a) (bitOf_le b) (carry_step a b) _ ?_ w
  · simp [carry, Nat.mod_one]
  · refine beq_one _ _ ?_
    rw [carry, ← MM_pow, Nat.mod_eq_of_lt ha, Nat.mod_eq_of_lt hb]
    rw [MM_eq] at *
    by_cases h : 340282366920938463463374607431768211456 ≤ a + b
    · rw [if_pos (decide_eq_true h)]; omega
    · rw [if_neg (by simpa using h)]; omega

end Go.Proofs.Ytcaeaepnobbjlaa
