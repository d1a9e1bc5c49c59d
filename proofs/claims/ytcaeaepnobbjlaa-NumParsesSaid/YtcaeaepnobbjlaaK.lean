import Derived.Test.YtcaeaepnobbjlaaJ
namespace Go.Proofs.Ytcaeaepnobbjlaa
set_option linter.unusedVariables false
set_option linter.unusedSimpArgs false
open Go.RowKit

theorem size24 : (Try.prog.info? 24).map (·.size) = some 2 := by kernel_rfl
/-- Boxes, and one block more of two words, whatever it holds. -/
structure RX (w W : World) (bs : List (Nat × Nat × Nat × Nat)) (res t : Nat) : Prop where
  boxes : Boxes w W bs
  res : ∃ p q, W.heap[res]? = some (.cells #[p, q] t (0, 0))
theorem RX.next {w W V : World} {bs : List (Nat × Nat × Nat × Nat)} {res t : Nat} (h : RX w W bs res t) (hb : Below W.heap.size W V) : RX w V bs res t := by
  obtain ⟨p, q, hr⟩ := h.res
  exact ⟨h.boxes.next hb, p, q, old_below hb hr⟩
theorem RX.row {w W : World} {bs : List (Nat × Nat × Nat × Nat)} {res t : Nat} (h : RX w W bs res t) (x y : Value) (hl : w.heap.size ≤ res) (hn : ∀ x ∈ bs, x.1 ≠ res) :
    RX w (W.setRow res #[x, y]) bs res t := by
  obtain ⟨p, q, hr⟩ := h.res
  exact ⟨h.boxes.row _ _ hl hn, x, y, setRow_heap _ _ #[p, q] _ t (0, 0) hr⟩
theorem RX.below {w W : World} {bs : List (Nat × Nat × Nat × Nat)} {res t : Nat} (h : RX w W bs res t) : Below w.heap.size w W := h.boxes.below

set_option maxRecDepth 100000 in
set_option maxHeartbeats 4000000 in
theorem top_walk (ah al mh ml r s : Nat) (k : Int) (hm : ∀ w, Calls Try.prog 37 #[.int .i64 k] w fun e w' => e = .returned (wv mh ml) ∧ Below w.heap.size w w')
    (ha : ∀ w, Calls Try.prog 34 #[wv ah al, wv mh ml] w fun e w' => e = .returned (wv r s) ∧ Below w.heap.size w w') (w : World) :
    Calls Try.prog 39 #[wv ah al, .int .i64 k] w fun e w' => e = .returned (wv r s) ∧ Below w.heap.size w w' := by
  have HM := Lib.hid hm
  have HA := Lib.hid ha
  clear hm ha
  go_enter Try.func39, Try.ntmps39
  go_wp2_with fail
  have hrx : RX w ((w.alloc (.cells #[.int .u64 ah, .int .u64 al] 24)).alloc (.cells #[.int .u64 0, .int .u64 0] 24)) [(w.heap.size, 24, ah, al)] (w.heap.size + 1) 24 :=
    ⟨⟨((Below.refl _ _).alloc (Nat.le_refl _) _).alloc (by simp) _, by
      intro x hx
      simp only [List.mem_cons, List.not_mem_nil, or_false] at hx
      subst hx
      exact heap_alloc2_old _ _ _⟩, _, _, heap_alloc2_new _ _ _⟩
  generalize (w.alloc (.cells #[.int .u64 ah, .int .u64 al] 24)).alloc (.cells #[.int .u64 0, .int .u64 0] 24) = w0 at *
  have HNk : ∀ W, RX w W [(w.heap.size, 24, ah, al)] (w.heap.size + 1) 24 → (RX w W [(w.heap.size, 24, ah, al)] (w.heap.size + 1) 24 ∧ (W.cell? ⟨w.heap.size, 0, none⟩ = some (.int .u64 ah) ∧ W.cell? ⟨w.heap.size, 1, none⟩ = some (.int .u64 al))) := fun W h => ⟨h, two_cells (h.boxes.all (w.heap.size, 24, ah, al) (by simp))⟩
  have HS0 : Hid (RX w w0 [(w.heap.size, 24, ah, al)] (w.heap.size + 1) 24 ∧ (w0.cell? ⟨w.heap.size, 0, none⟩ = some (.int .u64 ah) ∧ w0.cell? ⟨w.heap.size, 1, none⟩ = some (.int .u64 al))) := HNk _ hrx
  have HN : Hid (∀ W V, (RX w W [(w.heap.size, 24, ah, al)] (w.heap.size + 1) 24 ∧ (W.cell? ⟨w.heap.size, 0, none⟩ = some (.int .u64 ah) ∧ W.cell? ⟨w.heap.size, 1, none⟩ = some (.int .u64 al))) → Below W.heap.size W V → (RX w V [(w.heap.size, 24, ah, al)] (w.heap.size + 1) 24 ∧ (V.cell? ⟨w.heap.size, 0, none⟩ = some (.int .u64 ah) ∧ V.cell? ⟨w.heap.size, 1, none⟩ = some (.int .u64 al)))) := fun W V h hb => HNk _ (h.1.next hb)
  have HR : Hid (∀ W, (RX w W [(w.heap.size, 24, ah, al)] (w.heap.size + 1) 24 ∧ (W.cell? ⟨w.heap.size, 0, none⟩ = some (.int .u64 ah) ∧ W.cell? ⟨w.heap.size, 1, none⟩ = some (.int .u64 al))) → (RX w (W.setRow (w.heap.size + 1) #[.int .u64 r, .int .u64 s]) [(w.heap.size, 24, ah, al)] (w.heap.size + 1) 24 ∧ ((W.setRow (w.heap.size + 1) #[.int .u64 r, .int .u64 s]).cell? ⟨w.heap.size, 0, none⟩ = some (.int .u64 ah) ∧ (W.setRow (w.heap.size + 1) #[.int .u64 r, .int .u64 s]).cell? ⟨w.heap.size, 1, none⟩ = some (.int .u64 al)))) := fun W h => HNk _ (h.1.row _ _ (by omega) (by simp))
  clear HNk hrx
  refine wp_region_noPanic ?_
  refine wp_region_held_drew (S := fun W => RX w W [(w.heap.size, 24, ah, al)] (w.heap.size + 1) 24 ∧ (W.cell? ⟨w.heap.size, 0, none⟩ = some (.int .u64 ah) ∧ W.cell? ⟨w.heap.size, 1, none⟩ = some (.int .u64 al))) (by kernel_rfl) ?_ (fun hHeld => ?_)
  · exact HN.out _ _ HS0.out ⟨rfl, rfl, rfl, Nat.le_refl _, fun _ _ => rfl⟩
  refine wpAnyH_take (i := 0) (oi := { dst := some 5, op := Op.load 24 (Operand.tmp 2), type := 24, pos := "wide.go:85", after := #[], guard := none }) (v := ?_) rfl (by kernel_rfl) (by kernel_rfl) (by kernel_rfl) (fun _ _ _ h => h) (Or.inl ⟨by rfl, ?_⟩) (by assumption) ?_
  rotate_left
  · (intro w9 hS9; (try dsimp only at hS9); go_simp); all_goals (with_reducible rfl)
  (try simp only [Act.put, List.setIfInBounds_toArray, List.set_cons_zero, List.set_cons_succ])
  refine wpAnyH_take (i := 1) (oi := { dst := some 6, op := Op.move (Operand.tmp 1), type := 3, pos := "wide.go:85", after := #[], guard := none }) (v := ?_) rfl (by kernel_rfl) (by kernel_rfl) (by kernel_rfl) (fun _ _ _ h => h) (Or.inl ⟨by rfl, ?_⟩) (by assumption) ?_
  rotate_left
  · (intro w9 hS9; (try dsimp only at hS9); go_simp); all_goals (with_reducible rfl)
  (try simp only [Act.put, List.setIfInBounds_toArray, List.set_cons_zero, List.set_cons_succ])
  refine wpAnyH_ready (rs := [2]) (by kernel_rfl) (by simp) ?_
  refine AllReadyH.cons (o := { dst := some 7, op := Op.call { callee := Callee.value (Operand.func 37), args := #[Operand.tmp 6], argTypes := #[3] }, type := 24, pos := "wide.go:85", after := #[{ on := 1, ground := Ground.data }], guard := none }) rfl (fun K hK => ?_) ?_
  · go_simp
    with_reducible refine (HM.out _).mono ?_
    rintro e w1 ⟨rfl, hb1⟩
    have hS1 := HN.out _ _ (by assumption) hb1
    (try go_wp2_with fail)
    refine hK.out _ _ ?_ (fun hHeld => ?_)
    · (first | exact hS1 | assumption | exact HR.out _ (by assumption))
    clear hK K
    (try simp only [Act.put, List.setIfInBounds_toArray, List.set_cons_zero, List.set_cons_succ])
    refine wpAnyH_ready (rs := [3]) (by kernel_rfl) (by simp) ?_
    refine AllReadyH.cons (o := { dst := some 8, op := Op.call { callee := Callee.value (Operand.func 34), args := #[Operand.tmp 5, Operand.tmp 7], argTypes := #[24, 24] }, type := 24, pos := "wide.go:85", after := #[{ on := 0, ground := Ground.data }, { on := 2, ground := Ground.data }, { on := 2, ground := Ground.chain }], guard := none }) rfl (fun K hK => ?_) ?_
    · go_simp
      with_reducible refine (HA.out _).mono ?_
      rintro e w1 ⟨rfl, hb1⟩
      have hS1 := HN.out _ _ (by assumption) hb1
      (try go_wp2_with fail)
      refine hK.out _ _ ?_ (fun hHeld => ?_)
      · (first | exact hS1 | assumption | exact HR.out _ (by assumption))
      clear hK K
      (try simp only [Act.put, List.setIfInBounds_toArray, List.set_cons_zero, List.set_cons_succ])
      refine wpAnyH_ready (rs := [4]) (by kernel_rfl) (by simp) ?_
      refine AllReadyH.cons (o := { dst := none, op := Op.store 24 (Operand.tmp 4) (Operand.tmp 8), type := 0, pos := "wide.go:85", after := #[{ on := 3, ground := Ground.data }, { on := 3, ground := Ground.chain }, { on := 0, ground := Ground.phase }, { on := 1, ground := Ground.phase }, { on := 2, ground := Ground.phase }, { on := 3, ground := Ground.phase }], guard := none }) rfl (fun K hK => ?_) ?_
      · rw [if_pos (by rfl)]
        obtain ⟨p0, q0, hpq⟩ := RX.res (And.left (by assumption))
        refine wp_store_row 24 _ _ rfl _ #[.int .u64 r, .int .u64 s] rfl rfl 24 #[p0, q0] hpq size24 rfl (one2 _ _) ?_
        (try go_wp2_with fail)
        refine hK.out _ _ ?_ (fun hHeld => ?_)
        · (first | exact hS1 | assumption | exact HR.out _ (by assumption))
        clear hK K
        (try simp only [Act.put, List.setIfInBounds_toArray, List.set_cons_zero, List.set_cons_succ])
        refine wpAnyH_done (by kernel_rfl) (NoPanic.normal ?_) _
        have hBf := RX.below (And.left (HR.out w1 (by assumption)))
        obtain ⟨r0, r1⟩ := two_cells (setRow_heap _ _ #[p0, q0] #[.int .u64 r, .int .u64 s] 24 (0, 0) hpq)
        go_wp2_with fail
        generalize w1.setRow (w.heap.size + 1) #[.int .u64 r, .int .u64 s] = W1 at *
        exact bodyPost_ret (v := wv r s) (by simp [results, Try.results39, go_sem, r0, r1]) rfl ⟨rfl, hBf⟩
      exact AllReadyH.nil
    exact AllReadyH.nil
  exact AllReadyH.nil

theorem top_any (n : Nat) (hn : n < MM) (k : Int) (w : World) :
    Calls Try.prog 39 #[W n, .int .i64 k] w fun e w' => e = .returned (W (n &&& maskN (min k.toNat 128))) ∧ Below w.heap.size w w' :=
  top_walk (n / M) (n % M) _ _ _ _ k (fun w => mask_any k w) (fun w => and_any n _ hn (maskN_lt _) w) w

end Go.Proofs.Ytcaeaepnobbjlaa
