import Derived.Test.YtbbanicjlfabgaaI
import Derived.Test.YtbbanicjlfabgaaP
namespace Go.Proofs.Ytbbanicjlfabgaa
set_option linter.unusedVariables false
set_option linter.unusedSimpArgs false
open Go.RowKit

structure SK (a b : List (BitVec 8)) (va vb vab : Value) (w : World) (g : Nat) (wr : World) : Prop where
  below : Below w.heap.size w wr
  row : wr.heap[g]? = some (.cells (tabOf word) 24 (0, 0))
  sa : SliceAt wr va a
  sb : SliceAt wr vb b
  sab : SliceAt wr vab (a ++ b)
def SKept (a b : List (BitVec 8)) (va vb vab : Value) (w : World) (g : Nat) (wr : World) : Prop := SK a b va vb vab w g wr
section
variable {a b : List (BitVec 8)} {va vb vab : Value} {w wr w1 : World} {g : Nat}
theorem SK.next (h : SK a b va vb vab w g wr) (hb : Below wr.heap.size wr w1) : SK a b va vb vab w g w1 :=
  ⟨h.below.trans (hb.mono h.below.size), by rw [hb.block _ (Array.getElem?_eq_some_iff.1 h.row).1]; exact h.row, h.sa.below hb, h.sb.below hb, h.sab.below hb⟩
theorem SKept.both (h : SK a b va vb vab w g wr) : SKept a b va vb vab w g wr ∧ wr.rangeAt g 0 tabL := ⟨h, row_range h.row⟩
theorem SKept.next (h : SKept a b va vb vab w g wr ∧ wr.rangeAt g 0 tabL) (hb : Below wr.heap.size wr w1) : SKept a b va vb vab w g w1 ∧ w1.rangeAt g 0 tabL := SKept.both (SK.next h.1 hb)
theorem SKept.drew (h : SK a b va vb vab w g wr) : SKept a b va vb vab w g wr.drew ∧ wr.drew.rangeAt g 0 tabL := SKept.both (h.next ⟨rfl, rfl, rfl, Nat.le_refl _, fun _ _ => rfl⟩)
theorem SKept.sa (h : SKept a b va vb vab w g wr ∧ wr.rangeAt g 0 tabL) : SliceAt wr va a := SK.sa h.1
theorem SKept.sb (h : SKept a b va vb vab w g wr ∧ wr.rangeAt g 0 tabL) : SliceAt wr vb b := SK.sb h.1
theorem SKept.sab (h : SKept a b va vb vab w g wr ∧ wr.rangeAt g 0 tabL) : SliceAt wr vab (a ++ b) := SK.sab h.1
theorem SKept.below (h : SKept a b va vb vab w g wr ∧ wr.rangeAt g 0 tabL) : Below w.heap.size w wr := SK.below h.1
end
/-- 'append([]byte{}, ..)': the first of two appends, and the second. -/
theorem own_below {w0 wr w1 : World} {base : Nat} {v : Value} (h : Below w0.heap.size w0 wr) (hg : wr.grownBy w1 v.ownBlock) (hb : w0.heap.size ≤ base) (hv : ∀ k, v.ownBlock = some k → base ≤ k) : Below w0.heap.size w0 w1 :=
  h.grown hg h.size (fun k hk => Nat.le_trans hb (hv k hk))
theorem own_block {w : World} {base e n : Nat} {v : Value} {xs : List Value} (h : w.ownsRow base e 1 v n xs) : ∀ k, v.ownBlock = some k → base ≤ k := by
  intro k hk
  rcases h.2 with ⟨rfl, _⟩ | ⟨g, cap, cur, rfl, hb, _⟩
  · simp [Value.ownBlock] at hk
  · simp [Value.ownBlock] at hk; omega
/-- What the appends leave: everything below the new row as it was. -/
theorem grown_below2 {wr w1 : World} {base : Nat} {v : Value} (hg : wr.grownBy w1 v.ownBlock) (hb : base ≤ wr.heap.size) (hv : ∀ k, v.ownBlock = some k → base ≤ k) : Below base wr w1 :=
  (Below.refl base wr).grown hg hb hv
theorem SliceAt.below_at {w w' : World} {v : Value} {bs : List (BitVec 8)} {B : Nat} (h : SliceAt w v bs) (hB : w.heap.size ≤ B) {w1 : World} (h1 : Below w.heap.size w w1) (hb : Below B w1 w') : SliceAt w' v bs :=
  h.below (h1.trans (hb.mono hB))

set_option maxRecDepth 100000 in
set_option maxHeartbeats 4000000 in
theorem sums_any (va vb : Value) (a b : List (BitVec 8)) (w : World) (hva : SliceAt w va a) (hvb : SliceAt w vb b) (hma : a.length ≤ 1048576) (hmb : b.length ≤ 1048576) :
    Calls Try.prog 4 #[va, vb] w fun e w' => e = .returned (.bool true) ∧ Below w.heap.size w w' := by
  have HV := Lib.hid hva
  have HW := Lib.hid hvb
  have hz := zero24
  have hmab : (a ++ b).length ≤ 140737488351232 := by rw [List.length_append]; omega
  have hma : a.length ≤ 140737488351232 := by omega
  have hmb : b.length ≤ 140737488351232 := by omega
  clear hva hvb
  go_enter Try.func4, Try.ntmps4
  go_wp2_with (first
    | (go_at_call 11; refine (table_word _).mono ?_; rintro e w1 ⟨rfl, hb1⟩
       have HA := Lib.hid (AI.start hb1)
       clear hb1)
    | (refine wpList_store_row rfl 24 _ _ rfl w1.heap.size (tabOf word) rfl rfl 24 (zs 256) (Go.heap_alloc_new _ _) (size24.trans (by rw [tabOf_size])) (by simp [zs, tabOf_size]) (tabOf_one _) ?_
       generalize (w1.alloc (Obj.cells (zs 256) 24)).setRow w1.heap.size (tabOf word) = wA at *
       generalize w1.heap.size = g at *
       clear w1)
    | (at_builtin; refine wpList_append_bytes rfl (.tmp 8) (.tmp 9) rfl wA.heap.size _ (.slice (some ⟨wA.heap.size, 0, none⟩) 0 0) va rfl rfl [] a (own_empty wA _ _ rfl (Nat.le_refl _)) ((HV.out.below HA.out.below).below ((Below.refl _ _).alloc (Nat.le_refl _) _)) (by simp; omega) (by simp) ?_
       intro va2 wB hown hgr
       have HO := Lib.hid hown
       have HB : Hid (Below wA.heap.size wA wB) := (grown_below2 hgr (by simp) (fun k hk => by simp [Value.ownBlock] at hk; omega) : Below wA.heap.size (wA.alloc (.cells #[] 5)) wB) |> fun h => ((Below.refl wA.heap.size wA).alloc (Nat.le_refl _) _).trans h
       clear hown hgr)
    | (at_builtin; refine wpList_append_bytes rfl (.tmp 10) (.tmp 11) rfl wA.heap.size _ va2 vb rfl rfl a b (by simpa using HO.out) ((HW.out.below HA.out.below).below HB.out) (by omega) HB.out.size ?_
       intro vab wC hown hgr
       have HO2 := Lib.hid hown
       have HC : Hid (Below wA.heap.size wA wC) := HB.out.trans (grown_below2 hgr HB.out.size (own_block HO.out))
       clear hown hgr))
  have HK : Hid (SK a b va vb vab w g wC) :=
    ⟨HA.out.below.trans (HC.out.mono HA.out.below.size), by rw [HC.out.block _ HA.out.lt]; exact HA.out.row, (HV.out.below HA.out.below).below HC.out, (HW.out.below HA.out.below).below HC.out, (OwnB.of_row HO2.out).sliceAt⟩
  clear hz HA HO HO2 HB HC HV HW
  have hsL := sizeL
  have huL := Try.underlying24
  refine wp_region_noPanic ?_
  refine wp_region_held_drew (S := fun w' => SKept a b va vb vab w g w' ∧ w'.rangeAt g 0 tabL) (by kernel_rfl) ?_ (fun hHeld => ?_)
  · exact SKept.drew HK.out
  refine wpAnyH_ready (rs := [0]) (by kernel_rfl) (by simp) ?_
  refine AllReadyH.cons (o := { dst := some 13, op := Op.call { callee := Callee.value (Operand.func 10), args := #[], argTypes := #[] }, type := 4, pos := "law.go:23", after := #[], guard := none }) rfl (fun K hK => ?_) ?_
  · go_simp
    refine (alive_any _).mono ?_
    rintro e w1 ⟨rfl, hb1⟩
    have hS1 := SKept.next (by assumption) hb1
    clear hb1
    (try go_wp2_with fail)
    refine hK.out _ _ ?_ (fun hHeld => ?_)
    · (first | exact hS1 | assumption)
    clear hK K
    (try simp only [Act.put, List.setIfInBounds_toArray, List.set_cons_zero, List.set_cons_succ])
    refine wpAnyH_take (i := 1) (oi := { dst := some 14, op := Op.move (Operand.tmp 13), type := 4, pos := "law.go:23", after := #[{ on := 0, ground := Ground.data }, { on := 0, ground := Ground.chain }], guard := none }) (v := ?_) rfl (by kernel_rfl) (by kernel_rfl) (by kernel_rfl) (fun _ _ _ h => h) (Or.inl ⟨by rfl, ?_⟩) (by assumption) ?_
    rotate_left
    · (intro w9 hS9; (try dsimp only at hS9); go_simp); all_goals (with_reducible rfl)
    (try simp only [Act.put, List.setIfInBounds_toArray, List.set_cons_zero, List.set_cons_succ])
    refine wpAnyH_take (i := 2) (oi := { dst := some 15, op := Op.load 24 (Operand.tmp 5), type := 24, pos := "law.go:23", after := #[{ on := 1, ground := Ground.guard }], guard := some (1, true) }) rfl (by kernel_rfl) (by kernel_rfl) (by kernel_rfl) (fun _ _ _ h => h) (yieldsIf_load_mid (by rfl) 24 _ rfl g 0 rfl tabL _ (fun _ h => h.2) huL rfl hsL) (by assumption) ?_
    (try simp only [Act.put, List.setIfInBounds_toArray, List.set_cons_zero, List.set_cons_succ])
    refine wpAnyH_take (i := 3) (oi := { dst := some 16, op := Op.move (Operand.tmp 0), type := 28, pos := "law.go:23", after := #[{ on := 1, ground := Ground.guard }], guard := some (1, true) }) (v := ?_) rfl (by kernel_rfl) (by kernel_rfl) (by kernel_rfl) (fun _ _ _ h => h) (Or.inl ⟨by rfl, ?_⟩) (by assumption) ?_
    rotate_left
    · (intro w9 hS9; (try dsimp only at hS9); go_simp); all_goals (with_reducible rfl)
    (try simp only [Act.put, List.setIfInBounds_toArray, List.set_cons_zero, List.set_cons_succ])
    refine wpAnyH_take (i := 5) (oi := { dst := some 18, op := Op.move (Operand.tmp 0), type := 28, pos := "law.go:23", after := #[{ on := 1, ground := Ground.guard }], guard := some (1, true) }) (v := ?_) rfl (by kernel_rfl) (by kernel_rfl) (by kernel_rfl) (fun _ _ _ h => h) (Or.inl ⟨by rfl, ?_⟩) (by assumption) ?_
    rotate_left
    · (intro w9 hS9; (try dsimp only at hS9); go_simp); all_goals (with_reducible rfl)
    (try simp only [Act.put, List.setIfInBounds_toArray, List.set_cons_zero, List.set_cons_succ])
    refine wpAnyH_ready (rs := [4]) (by kernel_rfl) (by simp) ?_
    refine AllReadyH.cons (o := { dst := some 17, op := Op.call { callee := Callee.value (Operand.func 13), args := #[Operand.tmp 15, Operand.tmp 16], argTypes := #[24, 28] }, type := 23, pos := "law.go:23", after := #[{ on := 2, ground := Ground.data }, { on := 3, ground := Ground.data }, { on := 1, ground := Ground.chain }, { on := 1, ground := Ground.guard }], guard := some (1, true) }) rfl (fun K hK => ?_) ?_
    · go_simp
      refine (sumL_any va a _ (SKept.sa (by assumption)) hma).mono ?_
      rintro e w1 ⟨rfl, hb1⟩
      have hS1 := SKept.next (by assumption) hb1
      clear hb1
      (try go_wp2_with fail)
      refine hK.out _ _ ?_ (fun hHeld => ?_)
      · (first | exact hS1 | assumption)
      clear hK K
      (try simp only [Act.put, List.setIfInBounds_toArray, List.set_cons_zero, List.set_cons_succ])
      refine wpAnyH_ready (rs := [6]) (by kernel_rfl) (by simp) ?_
      refine AllReadyH.cons (o := { dst := some 19, op := Op.call { callee := Callee.value (Operand.func 14), args := #[Operand.tmp 18], argTypes := #[28] }, type := 23, pos := "law.go:23", after := #[{ on := 5, ground := Ground.data }, { on := 4, ground := Ground.chain }, { on := 1, ground := Ground.guard }], guard := some (1, true) }) rfl (fun K hK => ?_) ?_
      · go_simp
        refine (refsum_any va a _ (SKept.sa (by assumption)) hma).mono ?_
        rintro e w1 ⟨rfl, rfl⟩
        (try go_wp2_with fail)
        refine hK.out _ _ ?_ (fun hHeld => ?_)
        · (first | exact hS1 | assumption)
        clear hK K
        (try simp only [Act.put, List.setIfInBounds_toArray, List.set_cons_zero, List.set_cons_succ])
        refine wpAnyH_take (i := 7) (oi := { dst := some 20, op := Op.binOp BinOp.eql 23 (Operand.tmp 17) (Operand.tmp 19) 23, type := 4, pos := "law.go:23", after := #[{ on := 4, ground := Ground.data }, { on := 6, ground := Ground.data }, { on := 1, ground := Ground.guard }], guard := some (1, true) }) (v := ?_) rfl (by kernel_rfl) (by kernel_rfl) (by kernel_rfl) (fun _ _ _ h => h) (Or.inl ⟨by rfl, ?_⟩) (by assumption) ?_
        rotate_left
        · (intro w9 hS9; (try dsimp only at hS9); go_simp); all_goals (with_reducible rfl)
        (try simp only [Act.put, List.setIfInBounds_toArray, List.set_cons_zero, List.set_cons_succ])
        refine wpAnyH_take (i := 8) (oi := { dst := some 21, op := Op.pick (Operand.tmp 14) (Operand.tmp 20) (Operand.const (Value.bool false)), type := 4, pos := "law.go:23", after := #[{ on := 1, ground := Ground.data }, { on := 7, ground := Ground.data }], guard := none }) (v := ?_) rfl (by kernel_rfl) (by kernel_rfl) (by kernel_rfl) (fun _ _ _ h => h) (Or.inl ⟨by rfl, ?_⟩) (by assumption) ?_
        rotate_left
        · (intro w9 hS9; (try dsimp only at hS9); go_simp); all_goals (with_reducible rfl)
        (try simp only [Act.put, List.setIfInBounds_toArray, List.set_cons_zero, List.set_cons_succ])
        refine wpAnyH_take (i := 9) (oi := { dst := some 22, op := Op.move (Operand.tmp 21), type := 4, pos := "law.go:23", after := #[{ on := 8, ground := Ground.data }, { on := 6, ground := Ground.chain }], guard := none }) (v := ?_) rfl (by kernel_rfl) (by kernel_rfl) (by kernel_rfl) (fun _ _ _ h => h) (Or.inl ⟨by rfl, ?_⟩) (by assumption) ?_
        rotate_left
        · (intro w9 hS9; (try dsimp only at hS9); go_simp); all_goals (with_reducible rfl)
        (try simp only [Act.put, List.setIfInBounds_toArray, List.set_cons_zero, List.set_cons_succ])
        refine wpAnyH_take (i := 10) (oi := { dst := some 23, op := Op.load 24 (Operand.tmp 5), type := 24, pos := "law.go:23", after := #[{ on := 9, ground := Ground.guard }], guard := some (9, true) }) rfl (by kernel_rfl) (by kernel_rfl) (by kernel_rfl) (fun _ _ _ h => h) (yieldsIf_load_mid (by rfl) 24 _ rfl g 0 rfl tabL _ (fun _ h => h.2) huL rfl hsL) (by assumption) ?_
        (try simp only [Act.put, List.setIfInBounds_toArray, List.set_cons_zero, List.set_cons_succ])
        refine wpAnyH_take (i := 11) (oi := { dst := some 24, op := Op.move (Operand.tmp 0), type := 28, pos := "law.go:23", after := #[{ on := 9, ground := Ground.guard }], guard := some (9, true) }) (v := ?_) rfl (by kernel_rfl) (by kernel_rfl) (by kernel_rfl) (fun _ _ _ h => h) (Or.inl ⟨by rfl, ?_⟩) (by assumption) ?_
        rotate_left
        · (intro w9 hS9; (try dsimp only at hS9); go_simp); all_goals (with_reducible rfl)
        (try simp only [Act.put, List.setIfInBounds_toArray, List.set_cons_zero, List.set_cons_succ])
        refine wpAnyH_take (i := 13) (oi := { dst := some 26, op := Op.move (Operand.tmp 1), type := 28, pos := "law.go:23", after := #[{ on := 9, ground := Ground.guard }], guard := some (9, true) }) (v := ?_) rfl (by kernel_rfl) (by kernel_rfl) (by kernel_rfl) (fun _ _ _ h => h) (Or.inl ⟨by rfl, ?_⟩) (by assumption) ?_
        rotate_left
        · (intro w9 hS9; (try dsimp only at hS9); go_simp); all_goals (with_reducible rfl)
        (try simp only [Act.put, List.setIfInBounds_toArray, List.set_cons_zero, List.set_cons_succ])
        refine wpAnyH_take (i := 15) (oi := { dst := some 28, op := Op.move (Operand.tmp 6), type := 28, pos := "law.go:23", after := #[{ on := 9, ground := Ground.guard }], guard := some (9, true) }) (v := ?_) rfl (by kernel_rfl) (by kernel_rfl) (by kernel_rfl) (fun _ _ _ h => h) (Or.inl ⟨by rfl, ?_⟩) (by assumption) ?_
        rotate_left
        · (intro w9 hS9; (try dsimp only at hS9); go_simp); all_goals (with_reducible rfl)
        (try simp only [Act.put, List.setIfInBounds_toArray, List.set_cons_zero, List.set_cons_succ])
        refine wpAnyH_ready (rs := [12]) (by kernel_rfl) (by simp) ?_
        refine AllReadyH.cons (o := { dst := some 25, op := Op.call { callee := Callee.value (Operand.func 14), args := #[Operand.tmp 24], argTypes := #[28] }, type := 23, pos := "law.go:23", after := #[{ on := 11, ground := Ground.data }, { on := 9, ground := Ground.chain }, { on := 9, ground := Ground.guard }], guard := some (9, true) }) rfl (fun K hK => ?_) ?_
        · go_simp
          refine (refsum_any va a _ (SKept.sa (by assumption)) hma).mono ?_
          rintro e w1 ⟨rfl, rfl⟩
          (try go_wp2_with fail)
          refine hK.out _ _ ?_ (fun hHeld => ?_)
          · (first | exact hS1 | assumption)
          clear hK K
          (try simp only [Act.put, List.setIfInBounds_toArray, List.set_cons_zero, List.set_cons_succ])
          refine wpAnyH_ready (rs := [14]) (by kernel_rfl) (by simp) ?_
          refine AllReadyH.cons (o := { dst := some 27, op := Op.call { callee := Callee.value (Operand.func 15), args := #[Operand.tmp 23, Operand.tmp 25, Operand.tmp 26], argTypes := #[24, 23, 28] }, type := 23, pos := "law.go:23", after := #[{ on := 10, ground := Ground.data }, { on := 12, ground := Ground.data }, { on := 13, ground := Ground.data }, { on := 12, ground := Ground.chain }, { on := 9, ground := Ground.guard }], guard := some (9, true) }) rfl (fun K hK => ?_) ?_
          · go_simp
            refine (moreL_any a vb b _ (SKept.sb (by assumption)) hmb).mono ?_
            rintro e w1 ⟨rfl, hb1⟩
            have hS1 := SKept.next (by assumption) hb1
            clear hb1
            (try go_wp2_with fail)
            refine hK.out _ _ ?_ (fun hHeld => ?_)
            · (first | exact hS1 | assumption)
            clear hK K
            (try simp only [Act.put, List.setIfInBounds_toArray, List.set_cons_zero, List.set_cons_succ])
            refine wpAnyH_ready (rs := [16]) (by kernel_rfl) (by simp) ?_
            refine AllReadyH.cons (o := { dst := some 29, op := Op.call { callee := Callee.value (Operand.func 14), args := #[Operand.tmp 28], argTypes := #[28] }, type := 23, pos := "law.go:23", after := #[{ on := 15, ground := Ground.data }, { on := 14, ground := Ground.chain }, { on := 9, ground := Ground.guard }], guard := some (9, true) }) rfl (fun K hK => ?_) ?_
            · go_simp
              refine (refsum_any vab (a ++ b) _ (SKept.sab (by assumption)) hmab).mono ?_
              rintro e w1 ⟨rfl, rfl⟩
              (try go_wp2_with fail)
              refine hK.out _ _ ?_ (fun hHeld => ?_)
              · (first | exact hS1 | assumption)
              clear hK K
              (try simp only [Act.put, List.setIfInBounds_toArray, List.set_cons_zero, List.set_cons_succ])
              refine wpAnyH_take (i := 17) (oi := { dst := some 30, op := Op.binOp BinOp.eql 23 (Operand.tmp 27) (Operand.tmp 29) 23, type := 4, pos := "law.go:23", after := #[{ on := 14, ground := Ground.data }, { on := 16, ground := Ground.data }, { on := 9, ground := Ground.guard }], guard := some (9, true) }) (v := ?_) rfl (by kernel_rfl) (by kernel_rfl) (by kernel_rfl) (fun _ _ _ h => h) (Or.inl ⟨by rfl, ?_⟩) (by assumption) ?_
              rotate_left
              · (intro w9 hS9; (try dsimp only at hS9); go_simp); all_goals (with_reducible rfl)
              (try simp only [Act.put, List.setIfInBounds_toArray, List.set_cons_zero, List.set_cons_succ])
              refine wpAnyH_take (i := 18) (oi := { dst := some 31, op := Op.pick (Operand.tmp 22) (Operand.tmp 30) (Operand.const (Value.bool false)), type := 4, pos := "law.go:23", after := #[{ on := 9, ground := Ground.data }, { on := 17, ground := Ground.data }], guard := none }) (v := ?_) rfl (by kernel_rfl) (by kernel_rfl) (by kernel_rfl) (fun _ _ _ h => h) (Or.inl ⟨by rfl, ?_⟩) (by assumption) ?_
              rotate_left
              · (intro w9 hS9; (try dsimp only at hS9); go_simp); all_goals (with_reducible rfl)
              (try simp only [Act.put, List.setIfInBounds_toArray, List.set_cons_zero, List.set_cons_succ])
              refine wpAnyH_take (i := 19) (oi := { dst := some 4, op := Op.assign (Operand.tmp 31), type := 4, pos := "law.go:23", after := #[{ on := 18, ground := Ground.data }, { on := 16, ground := Ground.chain }, { on := 0, ground := Ground.phase }, { on := 1, ground := Ground.phase }, { on := 2, ground := Ground.phase }, { on := 3, ground := Ground.phase }, { on := 4, ground := Ground.phase }, { on := 5, ground := Ground.phase }, { on := 6, ground := Ground.phase }, { on := 7, ground := Ground.phase }, { on := 8, ground := Ground.phase }, { on := 9, ground := Ground.phase }, { on := 10, ground := Ground.phase }, { on := 11, ground := Ground.phase }, { on := 12, ground := Ground.phase }, { on := 13, ground := Ground.phase }, { on := 14, ground := Ground.phase }, { on := 15, ground := Ground.phase }, { on := 16, ground := Ground.phase }, { on := 17, ground := Ground.phase }, { on := 18, ground := Ground.phase }], guard := none }) (v := ?_) rfl (by kernel_rfl) (by kernel_rfl) (by kernel_rfl) (fun _ _ _ h => h) (Or.inl ⟨by rfl, ?_⟩) (by assumption) ?_
              rotate_left
              · (intro w9 hS9; (try dsimp only at hS9); go_simp); all_goals (with_reducible rfl)
              (try simp only [Act.put, List.setIfInBounds_toArray, List.set_cons_zero, List.set_cons_succ])
              refine wpAnyH_done (by kernel_rfl) (NoPanic.normal ?_) _
              go_wp2_with fail
              go_ret
              exact ⟨by simp, SKept.below (by assumption)⟩
            exact AllReadyH.nil
          exact AllReadyH.nil
        exact AllReadyH.nil
      exact AllReadyH.nil
    exact AllReadyH.nil
  exact AllReadyH.nil

end Go.Proofs.Ytbbanicjlfabgaa
