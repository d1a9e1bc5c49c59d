import Derived.Test.YtbbanicjlfabgaaI
import Derived.Test.YtbbanicjlfabgaaQ
namespace Go.Proofs.Ytbbanicjlfabgaa
set_option linter.unusedVariables false
set_option linter.unusedSimpArgs false
open Go.RowKit

theorem xorL_length (a b : List (BitVec 8)) (n : Nat) : (xorL a b n).length = n := by simp [xorL]
theorem sumP_any (v : Value) (bs : List (BitVec 8)) (p : BitVec 32) (w : World) (hv : SliceAt w v bs) (hm : bs.length ≤ 140737488351232) (hp : refSum bs = p) :
    Calls Try.prog 13 #[.agg tabL.toArray, v] w fun e w' => e = .returned (u32 p) ∧ Below w.heap.size w w' := hp ▸ sumL_any v bs w hv hm
theorem make_below (n : Nat) (w : World) : Below w.heap.size w (w.alloc (.cells (zb n) 5)) := (Below.refl _ _).alloc (Nat.le_refl _) _
theorem make_at (n : Nat) (w : World) : SliceAt (w.alloc (.cells (zb n) 5)) (.slice (some ⟨w.heap.size, 0, none⟩) n n) (List.replicate n 0#8) := by
  have h := sliceAt_row (w := w.alloc (.cells (zb n) 5)) (t := 5) (fr := (0, 0)) (List.replicate n 0#8) n (by rw [← zb_map]; exact Go.heap_alloc_new _ _) (by simp)
  simpa using h

/-- The world in the loop: k bytes are done. -/
structure EI (a b : List (BitVec 8)) (w : World) (g gb n k : Nat) (wr : World) : Prop where
  below : Below w.heap.size w wr
  ge : w.heap.size ≤ g
  ge2 : w.heap.size ≤ gb
  ne : g ≠ gb
  row : wr.heap[g]? = some (.cells (tabOf word) 24 (0, 0))
  bo : wr.heap[gb]? = some (.cells (xorK a b n k) 5 (0, 0))
theorem EI.store {a b : List (BitVec 8)} {w wr : World} {g gb n k : Nat} (h : EI a b w g gb n k wr) : EI a b w g gb n (k + 1) (wr.setCell ⟨gb, k, none⟩ (u8 (a.getD k 0#8 ^^^ b.getD k 0#8))) :=
  ⟨h.below.setCell h.ge2 _, h.ge, h.ge2, h.ne, by rw [heap_setCell_other _ _ _ _ h.ne]; exact h.row, by rw [← xorK_set]; exact heap_setCell_same _ _ _ _ _ _ h.bo⟩
theorem EI.drew {a b : List (BitVec 8)} {w wr : World} {g gb n k : Nat} (h : EI a b w g gb n k wr) : EI a b w g gb n k wr.drew := ⟨h.below.drew, h.ge, h.ge2, h.ne, h.row, h.bo⟩
theorem EI.start {a b : List (BitVec 8)} {w w1 : World} {g n : Nat} (h : AI w w1 g) : EI a b w g w1.heap.size n 0 (w1.alloc (.cells (zb n) 5)) :=
  ⟨h.below.alloc h.below.size _, h.ge, h.below.size, Nat.ne_of_lt h.lt, by rw [heap_alloc_old _ _ h.lt]; exact h.row, by rw [xorK_zero]; exact Go.heap_alloc_new _ _⟩

structure EK (a b : List (BitVec 8)) (va vb : Value) (w : World) (g gb n : Nat) (wr : World) : Prop where
  below : Below w.heap.size w wr
  row : wr.heap[g]? = some (.cells (tabOf word) 24 (0, 0))
  sa : SliceAt wr va a
  sb : SliceAt wr vb b
  sx : SliceAt wr (.slice (some ⟨gb, 0, none⟩) n n) (xorL a b n)
def EKept (a b : List (BitVec 8)) (va vb : Value) (s : BitVec 32) (w : World) (g gb n : Nat) (wr : World) : Prop := EK a b va vb w g gb n wr
section
variable {a b : List (BitVec 8)} {va vb : Value} {s : BitVec 32} {w wr w1 : World} {g gb n : Nat}
theorem EKept.both (h : EK a b va vb w g gb n wr) : EKept a b va vb s w g gb n wr ∧ wr.rangeAt g 0 tabL := ⟨h, row_range h.row⟩
theorem EK.next (h : EK a b va vb w g gb n wr) (hb : Below wr.heap.size wr w1) : EK a b va vb w g gb n w1 :=
  ⟨h.below.trans (hb.mono h.below.size), by rw [hb.block _ (Array.getElem?_eq_some_iff.1 h.row).1]; exact h.row, h.sa.below hb, h.sb.below hb, h.sx.below hb⟩
theorem EKept.next (h : EKept a b va vb s w g gb n wr ∧ wr.rangeAt g 0 tabL) (hb : Below wr.heap.size wr w1) : EKept a b va vb s w g gb n w1 ∧ w1.rangeAt g 0 tabL := EKept.both (EK.next h.1 hb)
theorem EKept.drew (h : EK a b va vb w g gb n wr) : EKept a b va vb s w g gb n wr.drew ∧ wr.drew.rangeAt g 0 tabL := EKept.both (h.next ⟨rfl, rfl, rfl, Nat.le_refl _, fun _ _ => rfl⟩)
theorem EKept.sa (h : EKept a b va vb s w g gb n wr ∧ wr.rangeAt g 0 tabL) : SliceAt wr va a := EK.sa h.1
theorem EKept.sb (h : EKept a b va vb s w g gb n wr ∧ wr.rangeAt g 0 tabL) : SliceAt wr vb b := EK.sb h.1
theorem EKept.sx (h : EKept a b va vb s w g gb n wr ∧ wr.rangeAt g 0 tabL) : SliceAt wr (.slice (some ⟨gb, 0, none⟩) n n) (xorL a b n) := EK.sx h.1
theorem EKept.below (h : EKept a b va vb s w g gb n wr ∧ wr.rangeAt g 0 tabL) : Below w.heap.size w wr := EK.below h.1
theorem EKept.made (h : EKept a b va vb s w g gb n wr ∧ wr.rangeAt g 0 tabL) : SliceAt (wr.alloc (.cells (zb n) 5)) (.slice (some ⟨wr.heap.size, 0, none⟩) n n) (List.replicate n 0#8) := make_at n wr
theorem EI.out (h : EI a b w g gb n n wr) (ha : SliceAt w va a) (hb : SliceAt w vb b) : EK a b va vb w g gb n wr := by
  have hx := h.bo
  rw [xorK_all] at hx
  have hs := sliceAt_row (xorL a b n) n hx (by rw [xorL_length]; exact Nat.le_refl _)
  rw [xorL_length] at hs
  exact ⟨h.below, h.row, ha.below h.below, hb.below h.below, hs⟩
end

set_option maxRecDepth 100000 in
set_option maxHeartbeats 4000000 in
theorem even_b (va vb : Value) (a b : List (BitVec 8)) (w : World) (hva : SliceAt w va a) (hvb : SliceAt w vb b) (hma : a.length ≤ 140737488351232) (hmb : b.length ≤ 140737488351232) (hlt : b.length < a.length) :
    Calls Try.prog 8 #[va, vb] w fun e w' => e = .returned (.bool true) ∧ Below w.heap.size w w' := by
  have hna : b.length ≤ a.length := by omega
  have hnb : b.length ≤ b.length := by omega
  have HV := Lib.hid hva
  have HW := Lib.hid hvb
  have hroomA := hva.room
  have hroomB := hvb.room
  obtain ⟨aa, capa, rfl, hca⟩ := hva.form
  obtain ⟨ab, capb, rfl, hcb⟩ := hvb.form
  have hra := hroomA _ _ _ rfl
  have hrb := hroomB _ _ _ rfl
  have kA : (b.length : Int) ≤ (capa : Int) := by omega
  have kB : (b.length : Int) ≤ (capb : Int) := by omega
  have kC : (b.length : Int) ≤ (a.length : Int) := by omega
  have kD : (b.length : Int) ≤ (b.length : Int) := by omega
  have hz := zero24
  have hmk := make28 b.length (by omega)
  obtain ⟨p, HP2⟩ : ∃ p, Hid (refSum (a.take (b.length)) = p) := ⟨_, rfl⟩
  obtain ⟨q, HP3⟩ : ∃ q, Hid (refSum (b.take (b.length)) = q) := ⟨_, rfl⟩
  obtain ⟨z, HP4⟩ : ∃ z, Hid (refSum (List.replicate (b.length) 0#8) = z) := ⟨_, rfl⟩
  obtain ⟨pq, hpq⟩ : ∃ pq, pq = p ^^^ q := ⟨_, rfl⟩
  obtain ⟨s, hs⟩ : ∃ s, s = pq ^^^ z := ⟨_, rfl⟩
  have HP1 : Hid (refSum (xorL a b (b.length)) = s) := by
    show _ = _
    rw [even_law a b _ hna hnb, HP2.out, HP3.out, HP4.out, hs, hpq]
  have hx1 := bits_xor32 p q
  have hx2 := bits_xor32 pq z
  rw [← hpq] at hx1
  rw [← hs] at hx2
  clear hva hvb hroomA hroomB hpq hs
  go_enter Try.func8, Try.ntmps8
  go_wp2_with (first
    | (go_at_call 11; refine (table_word _).mono ?_; rintro e w1 ⟨rfl, hb1⟩
       have HA := Lib.hid (AI.start hb1)
       clear hb1)
    | (refine wpList_store_row rfl 24 _ _ rfl w1.heap.size (tabOf word) rfl rfl 24 (zs 256) (Go.heap_alloc_new _ _) (size24.trans (by rw [tabOf_size])) (by simp [zs, tabOf_size]) (tabOf_one _) ?_
       generalize (w1.alloc (Obj.cells (zs 256) 24)).setRow w1.heap.size (tabOf word) = wA at *
       generalize w1.heap.size = g at *
       clear w1))
  obtain ⟨gb, hgb⟩ : ∃ gb, gb = wA.heap.size := ⟨_, rfl⟩
  have HE : Hid (EI a b w g gb (b.length) 0 (wA.alloc (.cells (zb (b.length)) 5))) := by rw [hgb]; exact EI.start HA.out
  rw [← hgb]
  clear hgb HA hz
  generalize wA.alloc (.cells (zb (b.length)) 5) = wB at *
  go_loopw [8] (fun i wr => ∃ k : Nat, k ≤ b.length ∧ i = .int .i64 k ∧ Hid (EI a b w g gb (b.length) k wr)) (fun i _ => ((b.length : Int) - intOf i).toNat)
  case atStart => exact ⟨0, by omega, rfl, HE⟩
  case round =>
    clear HE
    obtain ⟨k, hk, rfl, HI⟩ := hrel
    by_cases hkn : k < b.length
    · obtain ⟨ba, oa, rfl, hcA⟩ := hca (by omega)
      obtain ⟨bb, ob, rfl, hcB⟩ := hcb (by omega)
      have cA := hcA k (by omega)
      have cB := hcB k (by omega)
      have lA : ba < w.heap.size := World.block_lt_of_cell? w _ cA
      have lB : bb < w.heap.size := World.block_lt_of_cell? w _ cB
      have dA : wr.drew.cell? ⟨ba, oa + k, none⟩ = some (u8 a[k]) := by rw [HI.out.drew.below.cell lA]; exact cA
      have dB : wr.drew.cell? ⟨bb, ob + k, none⟩ = some (u8 b[k]) := by rw [HI.out.drew.below.cell lB]; exact cB
      have dX : wr.drew.cell? ⟨gb, k, none⟩ = some (xorF a b k k) := by rw [cell_of_row _ _ _ _ _ _ HI.out.drew.bo]; exact xorK_get? a b _ k k hkn
      have fX : wr.drew.frozen? ⟨gb, k, none⟩ = false := frozen_of_row _ _ _ _ _ HI.out.drew.bo
      have HS := Lib.hid HI.out.drew.store
      have e1 : a.getD k 0#8 = a[k] := by rw [List.getD_eq_getElem?_getD, List.getElem?_eq_getElem (by omega)]; rfl
      have e2 : b.getD k 0#8 = b[k] := by rw [List.getD_eq_getElem?_getD, List.getElem?_eq_getElem (by omega)]; rfl
      rw [e1, e2] at HS
      have hx := bits_xor8 a[k] b[k]
      generalize a[k] = ca at *
      generalize b[k] = cb at *
      obtain ⟨cc, hcc⟩ : ∃ cc, cc = ca ^^^ cb := ⟨_, rfl⟩
      rw [← hcc] at hx HS
      have k0 : (0 : Int) ≤ (k : Int) := by omega
      have k1 : (k : Int) < (a.length : Int) := by omega
      have k2 : (k : Int) < (b.length : Int) := by omega
      have k3 : (k : Int) < (b.length : Int) := by omega
      have nA : gb ≠ ba := by have := HI.out.ge2; omega
      have nB : gb ≠ bb := by have := HI.out.ge2; omega
      have HF : Hid (∀ v, (wr.drew.setCell ⟨gb, k, none⟩ v).cell? ⟨ba, oa + k, none⟩ = some (u8 ca) ∧ (wr.drew.setCell ⟨gb, k, none⟩ v).cell? ⟨bb, ob + k, none⟩ = some (u8 cb)) :=
        fun v => ⟨by rw [World.cell?_setCell_far _ _ _ _ nA]; exact dA, by rw [World.cell?_setCell_far _ _ _ _ nB]; exact dB⟩
      clear hca hcb hcA hcB cA cB e1 e2 hcc hx1 hx2
      go_wp2
      go_region_held3 (fun w' => w'.cell? ⟨ba, oa + k, none⟩ = some (u8 ca) ∧ w'.cell? ⟨bb, ob + k, none⟩ = some (u8 cb))
        (first | exact ⟨dA, dB⟩ | exact HF.out _)
        (fail)
      all_goals
        go_wp2
        go_roundw
        case rel => exact ⟨k + 1, by omega, by go_num, HS⟩
        case measure => simp [intOf]; omega
    · obtain rfl : k = b.length := by omega
      have HK := Lib.hid (HI.out.out HV.out HW.out)
      clear hca hcb HI HV HW
      go_wp2_with fail
      have hsL := sizeL
      have huL := Try.underlying24
      refine wp_region_noPanic ?_
      refine wp_region_held_drew (S := fun w' => EKept a b (.slice aa a.length capa) (.slice ab b.length capb) s w g gb b.length w' ∧ w'.rangeAt g 0 tabL) (by kernel_rfl) ?_ (fun hHeld => ?_)
      · exact EKept.drew HK.out
      refine wpAnyH_ready (rs := [0]) (by kernel_rfl) (by simp) ?_
      refine AllReadyH.cons (o := { dst := some 37, op := Op.call { callee := Callee.value (Operand.func 10), args := #[], argTypes := #[] }, type := 4, pos := "outright.go:28", after := #[], guard := none }) rfl (fun K hK => ?_) ?_
      · go_simp
        refine (alive_any _).mono ?_
        rintro e w1 ⟨rfl, hb1⟩
        have hS1 := EKept.next (by assumption) hb1
        (try have hM := hM.below hb1)
        clear hb1
        (try go_wp2_with fail)
        refine hK.out _ _ ?_ (fun hHeld => ?_)
        · exact hS1
        clear hK K
        (try simp only [Act.put, List.setIfInBounds_toArray, List.set_cons_zero, List.set_cons_succ])
        refine wpAnyH_take (i := 1) (oi := { dst := some 38, op := Op.move (Operand.tmp 37), type := 4, pos := "outright.go:28", after := #[{ on := 0, ground := Ground.data }, { on := 0, ground := Ground.chain }], guard := none }) (v := ?_) rfl (by kernel_rfl) (by kernel_rfl) (by kernel_rfl) (fun _ _ _ h => h) (Or.inl ⟨by rfl, ?_⟩) (by assumption) ?_
        rotate_left
        · (intro w9 hS9; (try dsimp only at hS9); go_simp); all_goals (with_reducible rfl)
        (try simp only [Act.put, List.setIfInBounds_toArray, List.set_cons_zero, List.set_cons_succ])
        refine wpAnyH_take (i := 2) (oi := { dst := some 39, op := Op.load 24 (Operand.tmp 5), type := 24, pos := "outright.go:28", after := #[{ on := 1, ground := Ground.guard }], guard := some (1, true) }) rfl (by kernel_rfl) (by kernel_rfl) (by kernel_rfl) (fun _ _ _ h => h) (yieldsIf_load_mid (by rfl) 24 _ rfl g 0 rfl tabL _ (fun _ h => h.2) huL rfl hsL) (by assumption) ?_
        (try simp only [Act.put, List.setIfInBounds_toArray, List.set_cons_zero, List.set_cons_succ])
        refine wpAnyH_take (i := 3) (oi := { dst := some 40, op := Op.move (Operand.tmp 7), type := 28, pos := "outright.go:28", after := #[{ on := 1, ground := Ground.guard }], guard := some (1, true) }) (v := ?_) rfl (by kernel_rfl) (by kernel_rfl) (by kernel_rfl) (fun _ _ _ h => h) (Or.inl ⟨by rfl, ?_⟩) (by assumption) ?_
        rotate_left
        · (intro w9 hS9; (try dsimp only at hS9); go_simp); all_goals (with_reducible rfl)
        (try simp only [Act.put, List.setIfInBounds_toArray, List.set_cons_zero, List.set_cons_succ])
        refine wpAnyH_take (i := 5) (oi := { dst := some 42, op := Op.load 24 (Operand.tmp 5), type := 24, pos := "outright.go:28", after := #[{ on := 1, ground := Ground.guard }], guard := some (1, true) }) rfl (by kernel_rfl) (by kernel_rfl) (by kernel_rfl) (fun _ _ _ h => h) (yieldsIf_load_mid (by rfl) 24 _ rfl g 0 rfl tabL _ (fun _ h => h.2) huL rfl hsL) (by assumption) ?_
        (try simp only [Act.put, List.setIfInBounds_toArray, List.set_cons_zero, List.set_cons_succ])
        refine wpAnyH_take (i := 6) (oi := { dst := some 43, op := Op.move (Operand.tmp 0), type := 28, pos := "outright.go:28", after := #[{ on := 1, ground := Ground.guard }], guard := some (1, true) }) (v := ?_) rfl (by kernel_rfl) (by kernel_rfl) (by kernel_rfl) (fun _ _ _ h => h) (Or.inl ⟨by rfl, ?_⟩) (by assumption) ?_
        rotate_left
        · (intro w9 hS9; (try dsimp only at hS9); go_simp); all_goals (with_reducible rfl)
        (try simp only [Act.put, List.setIfInBounds_toArray, List.set_cons_zero, List.set_cons_succ])
        refine wpAnyH_take (i := 7) (oi := { dst := some 44, op := Op.move (Operand.tmp 6), type := 3, pos := "outright.go:28", after := #[{ on := 1, ground := Ground.guard }], guard := some (1, true) }) (v := ?_) rfl (by kernel_rfl) (by kernel_rfl) (by kernel_rfl) (fun _ _ _ h => h) (Or.inl ⟨by rfl, ?_⟩) (by assumption) ?_
        rotate_left
        · (intro w9 hS9; (try dsimp only at hS9); go_simp); all_goals (with_reducible rfl)
        (try simp only [Act.put, List.setIfInBounds_toArray, List.set_cons_zero, List.set_cons_succ])
        refine wpAnyH_take (i := 8) (oi := { dst := some 45, op := Op.slice 28 (Operand.tmp 43) none (some (Operand.tmp 44)) none, type := 28, pos := "outright.go:28", after := #[{ on := 6, ground := Ground.data }, { on := 7, ground := Ground.data }, { on := 1, ground := Ground.guard }], guard := some (1, true) }) (v := ?_) rfl (by kernel_rfl) (by kernel_rfl) (by kernel_rfl) (fun _ _ _ h => h) (Or.inl ⟨by rfl, ?_⟩) (by assumption) ?_
        rotate_left
        · (intro w9 hS9; (try dsimp only at hS9); go_simp); all_goals (with_reducible rfl)
        (try simp only [Act.put, List.setIfInBounds_toArray, List.set_cons_zero, List.set_cons_succ])
        refine wpAnyH_take (i := 10) (oi := { dst := some 47, op := Op.load 24 (Operand.tmp 5), type := 24, pos := "outright.go:28", after := #[{ on := 1, ground := Ground.guard }], guard := some (1, true) }) rfl (by kernel_rfl) (by kernel_rfl) (by kernel_rfl) (fun _ _ _ h => h) (yieldsIf_load_mid (by rfl) 24 _ rfl g 0 rfl tabL _ (fun _ h => h.2) huL rfl hsL) (by assumption) ?_
        (try simp only [Act.put, List.setIfInBounds_toArray, List.set_cons_zero, List.set_cons_succ])
        refine wpAnyH_take (i := 11) (oi := { dst := some 48, op := Op.move (Operand.tmp 1), type := 28, pos := "outright.go:28", after := #[{ on := 1, ground := Ground.guard }], guard := some (1, true) }) (v := ?_) rfl (by kernel_rfl) (by kernel_rfl) (by kernel_rfl) (fun _ _ _ h => h) (Or.inl ⟨by rfl, ?_⟩) (by assumption) ?_
        rotate_left
        · (intro w9 hS9; (try dsimp only at hS9); go_simp); all_goals (with_reducible rfl)
        (try simp only [Act.put, List.setIfInBounds_toArray, List.set_cons_zero, List.set_cons_succ])
        refine wpAnyH_take (i := 12) (oi := { dst := some 49, op := Op.move (Operand.tmp 6), type := 3, pos := "outright.go:28", after := #[{ on := 1, ground := Ground.guard }], guard := some (1, true) }) (v := ?_) rfl (by kernel_rfl) (by kernel_rfl) (by kernel_rfl) (fun _ _ _ h => h) (Or.inl ⟨by rfl, ?_⟩) (by assumption) ?_
        rotate_left
        · (intro w9 hS9; (try dsimp only at hS9); go_simp); all_goals (with_reducible rfl)
        (try simp only [Act.put, List.setIfInBounds_toArray, List.set_cons_zero, List.set_cons_succ])
        refine wpAnyH_take (i := 13) (oi := { dst := some 50, op := Op.slice 28 (Operand.tmp 48) none (some (Operand.tmp 49)) none, type := 28, pos := "outright.go:28", after := #[{ on := 11, ground := Ground.data }, { on := 12, ground := Ground.data }, { on := 1, ground := Ground.guard }], guard := some (1, true) }) (v := ?_) rfl (by kernel_rfl) (by kernel_rfl) (by kernel_rfl) (fun _ _ _ h => h) (Or.inl ⟨by rfl, ?_⟩) (by assumption) ?_
        rotate_left
        · (intro w9 hS9; (try dsimp only at hS9); go_simp); all_goals (with_reducible rfl)
        (try simp only [Act.put, List.setIfInBounds_toArray, List.set_cons_zero, List.set_cons_succ])
        refine wpAnyH_take (i := 16) (oi := { dst := some 53, op := Op.load 24 (Operand.tmp 5), type := 24, pos := "outright.go:28", after := #[{ on := 1, ground := Ground.guard }], guard := some (1, true) }) rfl (by kernel_rfl) (by kernel_rfl) (by kernel_rfl) (fun _ _ _ h => h) (yieldsIf_load_mid (by rfl) 24 _ rfl g 0 rfl tabL _ (fun _ h => h.2) huL rfl hsL) (by assumption) ?_
        (try simp only [Act.put, List.setIfInBounds_toArray, List.set_cons_zero, List.set_cons_succ])
        refine wpAnyH_take (i := 17) (oi := { dst := some 54, op := Op.move (Operand.tmp 6), type := 3, pos := "outright.go:28", after := #[{ on := 1, ground := Ground.guard }], guard := some (1, true) }) (v := ?_) rfl (by kernel_rfl) (by kernel_rfl) (by kernel_rfl) (fun _ _ _ h => h) (Or.inl ⟨by rfl, ?_⟩) (by assumption) ?_
        rotate_left
        · (intro w9 hS9; (try dsimp only at hS9); go_simp); all_goals (with_reducible rfl)
        (try simp only [Act.put, List.setIfInBounds_toArray, List.set_cons_zero, List.set_cons_succ])
        refine wpAnyH_ready (rs := [4, 18]) (by kernel_rfl) (by simp) ?_
        refine AllReadyH.cons (o := { dst := some 41, op := Op.call { callee := Callee.value (Operand.func 13), args := #[Operand.tmp 39, Operand.tmp 40], argTypes := #[24, 28] }, type := 23, pos := "outright.go:28", after := #[{ on := 2, ground := Ground.data }, { on := 3, ground := Ground.data }, { on := 1, ground := Ground.chain }, { on := 1, ground := Ground.guard }], guard := some (1, true) }) rfl (fun K hK => ?_) ?_
        · go_simp
          refine (sumP_any _ _ s _ (EKept.sx (by assumption)) (by rw [xorL_length]; omega) HP1.out).mono ?_
          rintro e w1 ⟨rfl, hb1⟩
          have hS1 := EKept.next (by assumption) hb1
          (try have hM := hM.below hb1)
          clear hb1
          (try go_wp2_with fail)
          refine hK.out _ _ ?_ (fun hHeld => ?_)
          · exact hS1
          clear hK K
          (try simp only [Act.put, List.setIfInBounds_toArray, List.set_cons_zero, List.set_cons_succ])
          refine wpAnyH_ready (rs := [9, 18]) (by kernel_rfl) (by simp) ?_
          refine AllReadyH.cons (o := { dst := some 46, op := Op.call { callee := Callee.value (Operand.func 13), args := #[Operand.tmp 42, Operand.tmp 45], argTypes := #[24, 28] }, type := 23, pos := "outright.go:28", after := #[{ on := 5, ground := Ground.data }, { on := 8, ground := Ground.data }, { on := 4, ground := Ground.chain }, { on := 1, ground := Ground.guard }], guard := some (1, true) }) rfl (fun K hK => ?_) ?_
          · go_simp
            refine (sumP_any _ _ p _ (SliceAt.take (EKept.sa (by assumption)) b.length hna) (by rw [List.length_take]; omega) HP2.out).mono ?_
            rintro e w1 ⟨rfl, hb1⟩
            have hS1 := EKept.next (by assumption) hb1
            (try have hM := hM.below hb1)
            clear hb1
            (try go_wp2_with fail)
            refine hK.out _ _ ?_ (fun hHeld => ?_)
            · exact hS1
            clear hK K
            (try simp only [Act.put, List.setIfInBounds_toArray, List.set_cons_zero, List.set_cons_succ])
            refine wpAnyH_ready (rs := [14, 18]) (by kernel_rfl) (by simp) ?_
            refine AllReadyH.cons (o := { dst := some 51, op := Op.call { callee := Callee.value (Operand.func 13), args := #[Operand.tmp 47, Operand.tmp 50], argTypes := #[24, 28] }, type := 23, pos := "outright.go:28", after := #[{ on := 10, ground := Ground.data }, { on := 13, ground := Ground.data }, { on := 9, ground := Ground.chain }, { on := 1, ground := Ground.guard }], guard := some (1, true) }) rfl (fun K hK => ?_) ?_
            · go_simp
              refine (sumP_any _ _ q _ (SliceAt.take (EKept.sb (by assumption)) b.length hnb) (by rw [List.length_take]; omega) HP3.out).mono ?_
              rintro e w1 ⟨rfl, hb1⟩
              have hS1 := EKept.next (by assumption) hb1
              (try have hM := hM.below hb1)
              clear hb1
              (try go_wp2_with fail)
              refine hK.out _ _ ?_ (fun hHeld => ?_)
              · exact hS1
              clear hK K
              (try simp only [Act.put, List.setIfInBounds_toArray, List.set_cons_zero, List.set_cons_succ])
              refine wpAnyH_take (i := 15) (oi := { dst := some 52, op := Op.binOp BinOp.xor 23 (Operand.tmp 46) (Operand.tmp 51) 23, type := 23, pos := "outright.go:28", after := #[{ on := 9, ground := Ground.data }, { on := 14, ground := Ground.data }, { on := 1, ground := Ground.guard }], guard := some (1, true) }) (v := ?_) rfl (by kernel_rfl) (by kernel_rfl) (by kernel_rfl) (fun _ _ _ h => h) (Or.inl ⟨by rfl, ?_⟩) (by assumption) ?_
              rotate_left
              · (intro w9 hS9; (try dsimp only at hS9); go_simp); all_goals (with_reducible rfl)
              (try simp only [Act.put, List.setIfInBounds_toArray, List.set_cons_zero, List.set_cons_succ])
              refine wpAnyH_ready (rs := [18]) (by kernel_rfl) (by simp) ?_
              refine AllReadyH.cons (o := { dst := some 55, op := Op.makeSlice 28 (Operand.tmp 54) (Operand.tmp 54), type := 28, pos := "outright.go:28", after := #[{ on := 17, ground := Ground.data }, { on := 17, ground := Ground.data }, { on := 1, ground := Ground.guard }], guard := some (1, true) }) rfl (fun K hK => ?_) ?_
              · go_simp
                have hM := EKept.made (by assumption)
                have hS1 := EKept.next (by assumption) (make_below b.length _)
                (try go_wp2_with fail)
                refine hK.out _ _ ?_ (fun hHeld => ?_)
                · exact hS1
                clear hK K
                (try simp only [Act.put, List.setIfInBounds_toArray, List.set_cons_zero, List.set_cons_succ])
                refine wpAnyH_ready (rs := [19]) (by kernel_rfl) (by simp) ?_
                refine AllReadyH.cons (o := { dst := some 56, op := Op.call { callee := Callee.value (Operand.func 13), args := #[Operand.tmp 53, Operand.tmp 55], argTypes := #[24, 28] }, type := 23, pos := "outright.go:28", after := #[{ on := 16, ground := Ground.data }, { on := 18, ground := Ground.data }, { on := 14, ground := Ground.chain }, { on := 1, ground := Ground.guard }], guard := some (1, true) }) rfl (fun K hK => ?_) ?_
                · go_simp
                  refine (sumP_any _ _ z _ hM (by rw [List.length_replicate]; omega) HP4.out).mono ?_
                  rintro e w1 ⟨rfl, hb1⟩
                  have hS1 := EKept.next (by assumption) hb1
                  clear hb1
                  (try go_wp2_with fail)
                  refine hK.out _ _ ?_ (fun hHeld => ?_)
                  · exact hS1
                  clear hK K
                  (try simp only [Act.put, List.setIfInBounds_toArray, List.set_cons_zero, List.set_cons_succ])
                  refine wpAnyH_take (i := 20) (oi := { dst := some 57, op := Op.binOp BinOp.xor 23 (Operand.tmp 52) (Operand.tmp 56) 23, type := 23, pos := "outright.go:28", after := #[{ on := 15, ground := Ground.data }, { on := 19, ground := Ground.data }, { on := 1, ground := Ground.guard }], guard := some (1, true) }) (v := ?_) rfl (by kernel_rfl) (by kernel_rfl) (by kernel_rfl) (fun _ _ _ h => h) (Or.inl ⟨by rfl, ?_⟩) (by assumption) ?_
                  rotate_left
                  · (intro w9 hS9; (try dsimp only at hS9); go_simp); all_goals (with_reducible rfl)
                  (try simp only [Act.put, List.setIfInBounds_toArray, List.set_cons_zero, List.set_cons_succ])
                  refine wpAnyH_take (i := 21) (oi := { dst := some 58, op := Op.binOp BinOp.eql 23 (Operand.tmp 41) (Operand.tmp 57) 23, type := 4, pos := "outright.go:28", after := #[{ on := 4, ground := Ground.data }, { on := 20, ground := Ground.data }, { on := 1, ground := Ground.guard }], guard := some (1, true) }) (v := ?_) rfl (by kernel_rfl) (by kernel_rfl) (by kernel_rfl) (fun _ _ _ h => h) (Or.inl ⟨by rfl, ?_⟩) (by assumption) ?_
                  rotate_left
                  · (intro w9 hS9; (try dsimp only at hS9); go_simp); all_goals (with_reducible rfl)
                  (try simp only [Act.put, List.setIfInBounds_toArray, List.set_cons_zero, List.set_cons_succ])
                  refine wpAnyH_take (i := 22) (oi := { dst := some 59, op := Op.pick (Operand.tmp 38) (Operand.tmp 58) (Operand.const (Value.bool false)), type := 4, pos := "outright.go:28", after := #[{ on := 1, ground := Ground.data }, { on := 21, ground := Ground.data }], guard := none }) (v := ?_) rfl (by kernel_rfl) (by kernel_rfl) (by kernel_rfl) (fun _ _ _ h => h) (Or.inl ⟨by rfl, ?_⟩) (by assumption) ?_
                  rotate_left
                  · (intro w9 hS9; (try dsimp only at hS9); go_simp); all_goals (with_reducible rfl)
                  (try simp only [Act.put, List.setIfInBounds_toArray, List.set_cons_zero, List.set_cons_succ])
                  refine wpAnyH_take (i := 23) (oi := { dst := some 4, op := Op.assign (Operand.tmp 59), type := 4, pos := "outright.go:28", after := #[{ on := 22, ground := Ground.data }, { on := 19, ground := Ground.chain }, { on := 0, ground := Ground.phase }, { on := 1, ground := Ground.phase }, { on := 2, ground := Ground.phase }, { on := 3, ground := Ground.phase }, { on := 4, ground := Ground.phase }, { on := 5, ground := Ground.phase }, { on := 6, ground := Ground.phase }, { on := 7, ground := Ground.phase }, { on := 8, ground := Ground.phase }, { on := 9, ground := Ground.phase }, { on := 10, ground := Ground.phase }, { on := 11, ground := Ground.phase }, { on := 12, ground := Ground.phase }, { on := 13, ground := Ground.phase }, { on := 14, ground := Ground.phase }, { on := 15, ground := Ground.phase }, { on := 16, ground := Ground.phase }, { on := 17, ground := Ground.phase }, { on := 18, ground := Ground.phase }, { on := 19, ground := Ground.phase }, { on := 20, ground := Ground.phase }, { on := 21, ground := Ground.phase }, { on := 22, ground := Ground.phase }], guard := none }) (v := ?_) rfl (by kernel_rfl) (by kernel_rfl) (by kernel_rfl) (fun _ _ _ h => h) (Or.inl ⟨by rfl, ?_⟩) (by assumption) ?_
                  rotate_left
                  · (intro w9 hS9; (try dsimp only at hS9); go_simp); all_goals (with_reducible rfl)
                  (try simp only [Act.put, List.setIfInBounds_toArray, List.set_cons_zero, List.set_cons_succ])
                  refine wpAnyH_done (by kernel_rfl) (NoPanic.normal ?_) _
                  go_wp2_with fail
                  go_ret
                  exact ⟨rfl, EKept.below (by assumption)⟩
                exact AllReadyH.nil
              exact AllReadyH.nil
            refine AllReadyH.cons (o := { dst := some 55, op := Op.makeSlice 28 (Operand.tmp 54) (Operand.tmp 54), type := 28, pos := "outright.go:28", after := #[{ on := 17, ground := Ground.data }, { on := 17, ground := Ground.data }, { on := 1, ground := Ground.guard }], guard := some (1, true) }) rfl (fun K hK => ?_) ?_
            · go_simp
              have hM := EKept.made (by assumption)
              have hS1 := EKept.next (by assumption) (make_below b.length _)
              (try go_wp2_with fail)
              refine hK.out _ _ ?_ (fun hHeld => ?_)
              · exact hS1
              clear hK K
              (try simp only [Act.put, List.setIfInBounds_toArray, List.set_cons_zero, List.set_cons_succ])
              refine wpAnyH_ready (rs := [14]) (by kernel_rfl) (by simp) ?_
              refine AllReadyH.cons (o := { dst := some 51, op := Op.call { callee := Callee.value (Operand.func 13), args := #[Operand.tmp 47, Operand.tmp 50], argTypes := #[24, 28] }, type := 23, pos := "outright.go:28", after := #[{ on := 10, ground := Ground.data }, { on := 13, ground := Ground.data }, { on := 9, ground := Ground.chain }, { on := 1, ground := Ground.guard }], guard := some (1, true) }) rfl (fun K hK => ?_) ?_
              · go_simp
                refine (sumP_any _ _ q _ (SliceAt.take (EKept.sb (by assumption)) b.length hnb) (by rw [List.length_take]; omega) HP3.out).mono ?_
                rintro e w1 ⟨rfl, hb1⟩
                have hS1 := EKept.next (by assumption) hb1
                (try have hM := hM.below hb1)
                clear hb1
                (try go_wp2_with fail)
                refine hK.out _ _ ?_ (fun hHeld => ?_)
                · exact hS1
                clear hK K
                (try simp only [Act.put, List.setIfInBounds_toArray, List.set_cons_zero, List.set_cons_succ])
                refine wpAnyH_take (i := 15) (oi := { dst := some 52, op := Op.binOp BinOp.xor 23 (Operand.tmp 46) (Operand.tmp 51) 23, type := 23, pos := "outright.go:28", after := #[{ on := 9, ground := Ground.data }, { on := 14, ground := Ground.data }, { on := 1, ground := Ground.guard }], guard := some (1, true) }) (v := ?_) rfl (by kernel_rfl) (by kernel_rfl) (by kernel_rfl) (fun _ _ _ h => h) (Or.inl ⟨by rfl, ?_⟩) (by assumption) ?_
                rotate_left
                · (intro w9 hS9; (try dsimp only at hS9); go_simp); all_goals (with_reducible rfl)
                (try simp only [Act.put, List.setIfInBounds_toArray, List.set_cons_zero, List.set_cons_succ])
                refine wpAnyH_ready (rs := [19]) (by kernel_rfl) (by simp) ?_
                refine AllReadyH.cons (o := { dst := some 56, op := Op.call { callee := Callee.value (Operand.func 13), args := #[Operand.tmp 53, Operand.tmp 55], argTypes := #[24, 28] }, type := 23, pos := "outright.go:28", after := #[{ on := 16, ground := Ground.data }, { on := 18, ground := Ground.data }, { on := 14, ground := Ground.chain }, { on := 1, ground := Ground.guard }], guard := some (1, true) }) rfl (fun K hK => ?_) ?_
                · go_simp
                  refine (sumP_any _ _ z _ hM (by rw [List.length_replicate]; omega) HP4.out).mono ?_
                  rintro e w1 ⟨rfl, hb1⟩
                  have hS1 := EKept.next (by assumption) hb1
                  clear hb1
                  (try go_wp2_with fail)
                  refine hK.out _ _ ?_ (fun hHeld => ?_)
                  · exact hS1
                  clear hK K
                  (try simp only [Act.put, List.setIfInBounds_toArray, List.set_cons_zero, List.set_cons_succ])
                  refine wpAnyH_take (i := 20) (oi := { dst := some 57, op := Op.binOp BinOp.xor 23 (Operand.tmp 52) (Operand.tmp 56) 23, type := 23, pos := "outright.go:28", after := #[{ on := 15, ground := Ground.data }, { on := 19, ground := Ground.data }, { on := 1, ground := Ground.guard }], guard := some (1, true) }) (v := ?_) rfl (by kernel_rfl) (by kernel_rfl) (by kernel_rfl) (fun _ _ _ h => h) (Or.inl ⟨by rfl, ?_⟩) (by assumption) ?_
                  rotate_left
                  · (intro w9 hS9; (try dsimp only at hS9); go_simp); all_goals (with_reducible rfl)
                  (try simp only [Act.put, List.setIfInBounds_toArray, List.set_cons_zero, List.set_cons_succ])
                  refine wpAnyH_take (i := 21) (oi := { dst := some 58, op := Op.binOp BinOp.eql 23 (Operand.tmp 41) (Operand.tmp 57) 23, type := 4, pos := "outright.go:28", after := #[{ on := 4, ground := Ground.data }, { on := 20, ground := Ground.data }, { on := 1, ground := Ground.guard }], guard := some (1, true) }) (v := ?_) rfl (by kernel_rfl) (by kernel_rfl) (by kernel_rfl) (fun _ _ _ h => h) (Or.inl ⟨by rfl, ?_⟩) (by assumption) ?_
                  rotate_left
                  · (intro w9 hS9; (try dsimp only at hS9); go_simp); all_goals (with_reducible rfl)
                  (try simp only [Act.put, List.setIfInBounds_toArray, List.set_cons_zero, List.set_cons_succ])
                  refine wpAnyH_take (i := 22) (oi := { dst := some 59, op := Op.pick (Operand.tmp 38) (Operand.tmp 58) (Operand.const (Value.bool false)), type := 4, pos := "outright.go:28", after := #[{ on := 1, ground := Ground.data }, { on := 21, ground := Ground.data }], guard := none }) (v := ?_) rfl (by kernel_rfl) (by kernel_rfl) (by kernel_rfl) (fun _ _ _ h => h) (Or.inl ⟨by rfl, ?_⟩) (by assumption) ?_
                  rotate_left
                  · (intro w9 hS9; (try dsimp only at hS9); go_simp); all_goals (with_reducible rfl)
                  (try simp only [Act.put, List.setIfInBounds_toArray, List.set_cons_zero, List.set_cons_succ])
                  refine wpAnyH_take (i := 23) (oi := { dst := some 4, op := Op.assign (Operand.tmp 59), type := 4, pos := "outright.go:28", after := #[{ on := 22, ground := Ground.data }, { on := 19, ground := Ground.chain }, { on := 0, ground := Ground.phase }, { on := 1, ground := Ground.phase }, { on := 2, ground := Ground.phase }, { on := 3, ground := Ground.phase }, { on := 4, ground := Ground.phase }, { on := 5, ground := Ground.phase }, { on := 6, ground := Ground.phase }, { on := 7, ground := Ground.phase }, { on := 8, ground := Ground.phase }, { on := 9, ground := Ground.phase }, { on := 10, ground := Ground.phase }, { on := 11, ground := Ground.phase }, { on := 12, ground := Ground.phase }, { on := 13, ground := Ground.phase }, { on := 14, ground := Ground.phase }, { on := 15, ground := Ground.phase }, { on := 16, ground := Ground.phase }, { on := 17, ground := Ground.phase }, { on := 18, ground := Ground.phase }, { on := 19, ground := Ground.phase }, { on := 20, ground := Ground.phase }, { on := 21, ground := Ground.phase }, { on := 22, ground := Ground.phase }], guard := none }) (v := ?_) rfl (by kernel_rfl) (by kernel_rfl) (by kernel_rfl) (fun _ _ _ h => h) (Or.inl ⟨by rfl, ?_⟩) (by assumption) ?_
                  rotate_left
                  · (intro w9 hS9; (try dsimp only at hS9); go_simp); all_goals (with_reducible rfl)
                  (try simp only [Act.put, List.setIfInBounds_toArray, List.set_cons_zero, List.set_cons_succ])
                  refine wpAnyH_done (by kernel_rfl) (NoPanic.normal ?_) _
                  go_wp2_with fail
                  go_ret
                  exact ⟨rfl, EKept.below (by assumption)⟩
                exact AllReadyH.nil
              exact AllReadyH.nil
            exact AllReadyH.nil
          refine AllReadyH.cons (o := { dst := some 55, op := Op.makeSlice 28 (Operand.tmp 54) (Operand.tmp 54), type := 28, pos := "outright.go:28", after := #[{ on := 17, ground := Ground.data }, { on := 17, ground := Ground.data }, { on := 1, ground := Ground.guard }], guard := some (1, true) }) rfl (fun K hK => ?_) ?_
          · go_simp
            have hM := EKept.made (by assumption)
            have hS1 := EKept.next (by assumption) (make_below b.length _)
            (try go_wp2_with fail)
            refine hK.out _ _ ?_ (fun hHeld => ?_)
            · exact hS1
            clear hK K
            (try simp only [Act.put, List.setIfInBounds_toArray, List.set_cons_zero, List.set_cons_succ])
            refine wpAnyH_ready (rs := [9]) (by kernel_rfl) (by simp) ?_
            refine AllReadyH.cons (o := { dst := some 46, op := Op.call { callee := Callee.value (Operand.func 13), args := #[Operand.tmp 42, Operand.tmp 45], argTypes := #[24, 28] }, type := 23, pos := "outright.go:28", after := #[{ on := 5, ground := Ground.data }, { on := 8, ground := Ground.data }, { on := 4, ground := Ground.chain }, { on := 1, ground := Ground.guard }], guard := some (1, true) }) rfl (fun K hK => ?_) ?_
            · go_simp
              refine (sumP_any _ _ p _ (SliceAt.take (EKept.sa (by assumption)) b.length hna) (by rw [List.length_take]; omega) HP2.out).mono ?_
              rintro e w1 ⟨rfl, hb1⟩
              have hS1 := EKept.next (by assumption) hb1
              (try have hM := hM.below hb1)
              clear hb1
              (try go_wp2_with fail)
              refine hK.out _ _ ?_ (fun hHeld => ?_)
              · exact hS1
              clear hK K
              (try simp only [Act.put, List.setIfInBounds_toArray, List.set_cons_zero, List.set_cons_succ])
              refine wpAnyH_ready (rs := [14]) (by kernel_rfl) (by simp) ?_
              refine AllReadyH.cons (o := { dst := some 51, op := Op.call { callee := Callee.value (Operand.func 13), args := #[Operand.tmp 47, Operand.tmp 50], argTypes := #[24, 28] }, type := 23, pos := "outright.go:28", after := #[{ on := 10, ground := Ground.data }, { on := 13, ground := Ground.data }, { on := 9, ground := Ground.chain }, { on := 1, ground := Ground.guard }], guard := some (1, true) }) rfl (fun K hK => ?_) ?_
              · go_simp
                refine (sumP_any _ _ q _ (SliceAt.take (EKept.sb (by assumption)) b.length hnb) (by rw [List.length_take]; omega) HP3.out).mono ?_
                rintro e w1 ⟨rfl, hb1⟩
                have hS1 := EKept.next (by assumption) hb1
                (try have hM := hM.below hb1)
                clear hb1
                (try go_wp2_with fail)
                refine hK.out _ _ ?_ (fun hHeld => ?_)
                · exact hS1
                clear hK K
                (try simp only [Act.put, List.setIfInBounds_toArray, List.set_cons_zero, List.set_cons_succ])
                refine wpAnyH_take (i := 15) (oi := { dst := some 52, op := Op.binOp BinOp.xor 23 (Operand.tmp 46) (Operand.tmp 51) 23, type := 23, pos := "outright.go:28", after := #[{ on := 9, ground := Ground.data }, { on := 14, ground := Ground.data }, { on := 1, ground := Ground.guard }], guard := some (1, true) }) (v := ?_) rfl (by kernel_rfl) (by kernel_rfl) (by kernel_rfl) (fun _ _ _ h => h) (Or.inl ⟨by rfl, ?_⟩) (by assumption) ?_
                rotate_left
                · (intro w9 hS9; (try dsimp only at hS9); go_simp); all_goals (with_reducible rfl)
                (try simp only [Act.put, List.setIfInBounds_toArray, List.set_cons_zero, List.set_cons_succ])
                refine wpAnyH_ready (rs := [19]) (by kernel_rfl) (by simp) ?_
                refine AllReadyH.cons (o := { dst := some 56, op := Op.call { callee := Callee.value (Operand.func 13), args := #[Operand.tmp 53, Operand.tmp 55], argTypes := #[24, 28] }, type := 23, pos := "outright.go:28", after := #[{ on := 16, ground := Ground.data }, { on := 18, ground := Ground.data }, { on := 14, ground := Ground.chain }, { on := 1, ground := Ground.guard }], guard := some (1, true) }) rfl (fun K hK => ?_) ?_
                · go_simp
                  refine (sumP_any _ _ z _ hM (by rw [List.length_replicate]; omega) HP4.out).mono ?_
                  rintro e w1 ⟨rfl, hb1⟩
                  have hS1 := EKept.next (by assumption) hb1
                  clear hb1
                  (try go_wp2_with fail)
                  refine hK.out _ _ ?_ (fun hHeld => ?_)
                  · exact hS1
                  clear hK K
                  (try simp only [Act.put, List.setIfInBounds_toArray, List.set_cons_zero, List.set_cons_succ])
                  refine wpAnyH_take (i := 20) (oi := { dst := some 57, op := Op.binOp BinOp.xor 23 (Operand.tmp 52) (Operand.tmp 56) 23, type := 23, pos := "outright.go:28", after := #[{ on := 15, ground := Ground.data }, { on := 19, ground := Ground.data }, { on := 1, ground := Ground.guard }], guard := some (1, true) }) (v := ?_) rfl (by kernel_rfl) (by kernel_rfl) (by kernel_rfl) (fun _ _ _ h => h) (Or.inl ⟨by rfl, ?_⟩) (by assumption) ?_
                  rotate_left
                  · (intro w9 hS9; (try dsimp only at hS9); go_simp); all_goals (with_reducible rfl)
                  (try simp only [Act.put, List.setIfInBounds_toArray, List.set_cons_zero, List.set_cons_succ])
                  refine wpAnyH_take (i := 21) (oi := { dst := some 58, op := Op.binOp BinOp.eql 23 (Operand.tmp 41) (Operand.tmp 57) 23, type := 4, pos := "outright.go:28", after := #[{ on := 4, ground := Ground.data }, { on := 20, ground := Ground.data }, { on := 1, ground := Ground.guard }], guard := some (1, true) }) (v := ?_) rfl (by kernel_rfl) (by kernel_rfl) (by kernel_rfl) (fun _ _ _ h => h) (Or.inl ⟨by rfl, ?_⟩) (by assumption) ?_
                  rotate_left
                  · (intro w9 hS9; (try dsimp only at hS9); go_simp); all_goals (with_reducible rfl)
                  (try simp only [Act.put, List.setIfInBounds_toArray, List.set_cons_zero, List.set_cons_succ])
                  refine wpAnyH_take (i := 22) (oi := { dst := some 59, op := Op.pick (Operand.tmp 38) (Operand.tmp 58) (Operand.const (Value.bool false)), type := 4, pos := "outright.go:28", after := #[{ on := 1, ground := Ground.data }, { on := 21, ground := Ground.data }], guard := none }) (v := ?_) rfl (by kernel_rfl) (by kernel_rfl) (by kernel_rfl) (fun _ _ _ h => h) (Or.inl ⟨by rfl, ?_⟩) (by assumption) ?_
                  rotate_left
                  · (intro w9 hS9; (try dsimp only at hS9); go_simp); all_goals (with_reducible rfl)
                  (try simp only [Act.put, List.setIfInBounds_toArray, List.set_cons_zero, List.set_cons_succ])
                  refine wpAnyH_take (i := 23) (oi := { dst := some 4, op := Op.assign (Operand.tmp 59), type := 4, pos := "outright.go:28", after := #[{ on := 22, ground := Ground.data }, { on := 19, ground := Ground.chain }, { on := 0, ground := Ground.phase }, { on := 1, ground := Ground.phase }, { on := 2, ground := Ground.phase }, { on := 3, ground := Ground.phase }, { on := 4, ground := Ground.phase }, { on := 5, ground := Ground.phase }, { on := 6, ground := Ground.phase }, { on := 7, ground := Ground.phase }, { on := 8, ground := Ground.phase }, { on := 9, ground := Ground.phase }, { on := 10, ground := Ground.phase }, { on := 11, ground := Ground.phase }, { on := 12, ground := Ground.phase }, { on := 13, ground := Ground.phase }, { on := 14, ground := Ground.phase }, { on := 15, ground := Ground.phase }, { on := 16, ground := Ground.phase }, { on := 17, ground := Ground.phase }, { on := 18, ground := Ground.phase }, { on := 19, ground := Ground.phase }, { on := 20, ground := Ground.phase }, { on := 21, ground := Ground.phase }, { on := 22, ground := Ground.phase }], guard := none }) (v := ?_) rfl (by kernel_rfl) (by kernel_rfl) (by kernel_rfl) (fun _ _ _ h => h) (Or.inl ⟨by rfl, ?_⟩) (by assumption) ?_
                  rotate_left
                  · (intro w9 hS9; (try dsimp only at hS9); go_simp); all_goals (with_reducible rfl)
                  (try simp only [Act.put, List.setIfInBounds_toArray, List.set_cons_zero, List.set_cons_succ])
                  refine wpAnyH_done (by kernel_rfl) (NoPanic.normal ?_) _
                  go_wp2_with fail
                  go_ret
                  exact ⟨rfl, EKept.below (by assumption)⟩
                exact AllReadyH.nil
              exact AllReadyH.nil
            exact AllReadyH.nil
          exact AllReadyH.nil
        refine AllReadyH.cons (o := { dst := some 55, op := Op.makeSlice 28 (Operand.tmp 54) (Operand.tmp 54), type := 28, pos := "outright.go:28", after := #[{ on := 17, ground := Ground.data }, { on := 17, ground := Ground.data }, { on := 1, ground := Ground.guard }], guard := some (1, true) }) rfl (fun K hK => ?_) ?_
        · go_simp
          have hM := EKept.made (by assumption)
          have hS1 := EKept.next (by assumption) (make_below b.length _)
          (try go_wp2_with fail)
          refine hK.out _ _ ?_ (fun hHeld => ?_)
          · exact hS1
          clear hK K
          (try simp only [Act.put, List.setIfInBounds_toArray, List.set_cons_zero, List.set_cons_succ])
          refine wpAnyH_ready (rs := [4]) (by kernel_rfl) (by simp) ?_
          refine AllReadyH.cons (o := { dst := some 41, op := Op.call { callee := Callee.value (Operand.func 13), args := #[Operand.tmp 39, Operand.tmp 40], argTypes := #[24, 28] }, type := 23, pos := "outright.go:28", after := #[{ on := 2, ground := Ground.data }, { on := 3, ground := Ground.data }, { on := 1, ground := Ground.chain }, { on := 1, ground := Ground.guard }], guard := some (1, true) }) rfl (fun K hK => ?_) ?_
          · go_simp
            refine (sumP_any _ _ s _ (EKept.sx (by assumption)) (by rw [xorL_length]; omega) HP1.out).mono ?_
            rintro e w1 ⟨rfl, hb1⟩
            have hS1 := EKept.next (by assumption) hb1
            (try have hM := hM.below hb1)
            clear hb1
            (try go_wp2_with fail)
            refine hK.out _ _ ?_ (fun hHeld => ?_)
            · exact hS1
            clear hK K
            (try simp only [Act.put, List.setIfInBounds_toArray, List.set_cons_zero, List.set_cons_succ])
            refine wpAnyH_ready (rs := [9]) (by kernel_rfl) (by simp) ?_
            refine AllReadyH.cons (o := { dst := some 46, op := Op.call { callee := Callee.value (Operand.func 13), args := #[Operand.tmp 42, Operand.tmp 45], argTypes := #[24, 28] }, type := 23, pos := "outright.go:28", after := #[{ on := 5, ground := Ground.data }, { on := 8, ground := Ground.data }, { on := 4, ground := Ground.chain }, { on := 1, ground := Ground.guard }], guard := some (1, true) }) rfl (fun K hK => ?_) ?_
            · go_simp
              refine (sumP_any _ _ p _ (SliceAt.take (EKept.sa (by assumption)) b.length hna) (by rw [List.length_take]; omega) HP2.out).mono ?_
              rintro e w1 ⟨rfl, hb1⟩
              have hS1 := EKept.next (by assumption) hb1
              (try have hM := hM.below hb1)
              clear hb1
              (try go_wp2_with fail)
              refine hK.out _ _ ?_ (fun hHeld => ?_)
              · exact hS1
              clear hK K
              (try simp only [Act.put, List.setIfInBounds_toArray, List.set_cons_zero, List.set_cons_succ])
              refine wpAnyH_ready (rs := [14]) (by kernel_rfl) (by simp) ?_
              refine AllReadyH.cons (o := { dst := some 51, op := Op.call { callee := Callee.value (Operand.func 13), args := #[Operand.tmp 47, Operand.tmp 50], argTypes := #[24, 28] }, type := 23, pos := "outright.go:28", after := #[{ on := 10, ground := Ground.data }, { on := 13, ground := Ground.data }, { on := 9, ground := Ground.chain }, { on := 1, ground := Ground.guard }], guard := some (1, true) }) rfl (fun K hK => ?_) ?_
              · go_simp
                refine (sumP_any _ _ q _ (SliceAt.take (EKept.sb (by assumption)) b.length hnb) (by rw [List.length_take]; omega) HP3.out).mono ?_
                rintro e w1 ⟨rfl, hb1⟩
                have hS1 := EKept.next (by assumption) hb1
                (try have hM := hM.below hb1)
                clear hb1
                (try go_wp2_with fail)
                refine hK.out _ _ ?_ (fun hHeld => ?_)
                · exact hS1
                clear hK K
                (try simp only [Act.put, List.setIfInBounds_toArray, List.set_cons_zero, List.set_cons_succ])
                refine wpAnyH_take (i := 15) (oi := { dst := some 52, op := Op.binOp BinOp.xor 23 (Operand.tmp 46) (Operand.tmp 51) 23, type := 23, pos := "outright.go:28", after := #[{ on := 9, ground := Ground.data }, { on := 14, ground := Ground.data }, { on := 1, ground := Ground.guard }], guard := some (1, true) }) (v := ?_) rfl (by kernel_rfl) (by kernel_rfl) (by kernel_rfl) (fun _ _ _ h => h) (Or.inl ⟨by rfl, ?_⟩) (by assumption) ?_
                rotate_left
                · (intro w9 hS9; (try dsimp only at hS9); go_simp); all_goals (with_reducible rfl)
                (try simp only [Act.put, List.setIfInBounds_toArray, List.set_cons_zero, List.set_cons_succ])
                refine wpAnyH_ready (rs := [19]) (by kernel_rfl) (by simp) ?_
                refine AllReadyH.cons (o := { dst := some 56, op := Op.call { callee := Callee.value (Operand.func 13), args := #[Operand.tmp 53, Operand.tmp 55], argTypes := #[24, 28] }, type := 23, pos := "outright.go:28", after := #[{ on := 16, ground := Ground.data }, { on := 18, ground := Ground.data }, { on := 14, ground := Ground.chain }, { on := 1, ground := Ground.guard }], guard := some (1, true) }) rfl (fun K hK => ?_) ?_
                · go_simp
                  refine (sumP_any _ _ z _ hM (by rw [List.length_replicate]; omega) HP4.out).mono ?_
                  rintro e w1 ⟨rfl, hb1⟩
                  have hS1 := EKept.next (by assumption) hb1
                  clear hb1
                  (try go_wp2_with fail)
                  refine hK.out _ _ ?_ (fun hHeld => ?_)
                  · exact hS1
                  clear hK K
                  (try simp only [Act.put, List.setIfInBounds_toArray, List.set_cons_zero, List.set_cons_succ])
                  refine wpAnyH_take (i := 20) (oi := { dst := some 57, op := Op.binOp BinOp.xor 23 (Operand.tmp 52) (Operand.tmp 56) 23, type := 23, pos := "outright.go:28", after := #[{ on := 15, ground := Ground.data }, { on := 19, ground := Ground.data }, { on := 1, ground := Ground.guard }], guard := some (1, true) }) (v := ?_) rfl (by kernel_rfl) (by kernel_rfl) (by kernel_rfl) (fun _ _ _ h => h) (Or.inl ⟨by rfl, ?_⟩) (by assumption) ?_
                  rotate_left
                  · (intro w9 hS9; (try dsimp only at hS9); go_simp); all_goals (with_reducible rfl)
                  (try simp only [Act.put, List.setIfInBounds_toArray, List.set_cons_zero, List.set_cons_succ])
                  refine wpAnyH_take (i := 21) (oi := { dst := some 58, op := Op.binOp BinOp.eql 23 (Operand.tmp 41) (Operand.tmp 57) 23, type := 4, pos := "outright.go:28", after := #[{ on := 4, ground := Ground.data }, { on := 20, ground := Ground.data }, { on := 1, ground := Ground.guard }], guard := some (1, true) }) (v := ?_) rfl (by kernel_rfl) (by kernel_rfl) (by kernel_rfl) (fun _ _ _ h => h) (Or.inl ⟨by rfl, ?_⟩) (by assumption) ?_
                  rotate_left
                  · (intro w9 hS9; (try dsimp only at hS9); go_simp); all_goals (with_reducible rfl)
                  (try simp only [Act.put, List.setIfInBounds_toArray, List.set_cons_zero, List.set_cons_succ])
                  refine wpAnyH_take (i := 22) (oi := { dst := some 59, op := Op.pick (Operand.tmp 38) (Operand.tmp 58) (Operand.const (Value.bool false)), type := 4, pos := "outright.go:28", after := #[{ on := 1, ground := Ground.data }, { on := 21, ground := Ground.data }], guard := none }) (v := ?_) rfl (by kernel_rfl) (by kernel_rfl) (by kernel_rfl) (fun _ _ _ h => h) (Or.inl ⟨by rfl, ?_⟩) (by assumption) ?_
                  rotate_left
                  · (intro w9 hS9; (try dsimp only at hS9); go_simp); all_goals (with_reducible rfl)
                  (try simp only [Act.put, List.setIfInBounds_toArray, List.set_cons_zero, List.set_cons_succ])
                  refine wpAnyH_take (i := 23) (oi := { dst := some 4, op := Op.assign (Operand.tmp 59), type := 4, pos := "outright.go:28", after := #[{ on := 22, ground := Ground.data }, { on := 19, ground := Ground.chain }, { on := 0, ground := Ground.phase }, { on := 1, ground := Ground.phase }, { on := 2, ground := Ground.phase }, { on := 3, ground := Ground.phase }, { on := 4, ground := Ground.phase }, { on := 5, ground := Ground.phase }, { on := 6, ground := Ground.phase }, { on := 7, ground := Ground.phase }, { on := 8, ground := Ground.phase }, { on := 9, ground := Ground.phase }, { on := 10, ground := Ground.phase }, { on := 11, ground := Ground.phase }, { on := 12, ground := Ground.phase }, { on := 13, ground := Ground.phase }, { on := 14, ground := Ground.phase }, { on := 15, ground := Ground.phase }, { on := 16, ground := Ground.phase }, { on := 17, ground := Ground.phase }, { on := 18, ground := Ground.phase }, { on := 19, ground := Ground.phase }, { on := 20, ground := Ground.phase }, { on := 21, ground := Ground.phase }, { on := 22, ground := Ground.phase }], guard := none }) (v := ?_) rfl (by kernel_rfl) (by kernel_rfl) (by kernel_rfl) (fun _ _ _ h => h) (Or.inl ⟨by rfl, ?_⟩) (by assumption) ?_
                  rotate_left
                  · (intro w9 hS9; (try dsimp only at hS9); go_simp); all_goals (with_reducible rfl)
                  (try simp only [Act.put, List.setIfInBounds_toArray, List.set_cons_zero, List.set_cons_succ])
                  refine wpAnyH_done (by kernel_rfl) (NoPanic.normal ?_) _
                  go_wp2_with fail
                  go_ret
                  exact ⟨rfl, EKept.below (by assumption)⟩
                exact AllReadyH.nil
              exact AllReadyH.nil
            exact AllReadyH.nil
          exact AllReadyH.nil
        exact AllReadyH.nil
      exact AllReadyH.nil

set_option maxRecDepth 100000 in
set_option maxHeartbeats 4000000 in
theorem even_a (va vb : Value) (a b : List (BitVec 8)) (w : World) (hva : SliceAt w va a) (hvb : SliceAt w vb b) (hma : a.length ≤ 140737488351232) (hmb : b.length ≤ 140737488351232) (hlt : ¬ b.length < a.length) :
    Calls Try.prog 8 #[va, vb] w fun e w' => e = .returned (.bool true) ∧ Below w.heap.size w w' := by
  have hna : a.length ≤ a.length := by omega
  have hnb : a.length ≤ b.length := by omega
  have HV := Lib.hid hva
  have HW := Lib.hid hvb
  have hroomA := hva.room
  have hroomB := hvb.room
  obtain ⟨aa, capa, rfl, hca⟩ := hva.form
  obtain ⟨ab, capb, rfl, hcb⟩ := hvb.form
  have hra := hroomA _ _ _ rfl
  have hrb := hroomB _ _ _ rfl
  have kA : (a.length : Int) ≤ (capa : Int) := by omega
  have kB : (a.length : Int) ≤ (capb : Int) := by omega
  have kC : (a.length : Int) ≤ (a.length : Int) := by omega
  have kD : (a.length : Int) ≤ (b.length : Int) := by omega
  have hz := zero24
  have hmk := make28 a.length (by omega)
  obtain ⟨p, HP2⟩ : ∃ p, Hid (refSum (a.take (a.length)) = p) := ⟨_, rfl⟩
  obtain ⟨q, HP3⟩ : ∃ q, Hid (refSum (b.take (a.length)) = q) := ⟨_, rfl⟩
  obtain ⟨z, HP4⟩ : ∃ z, Hid (refSum (List.replicate (a.length) 0#8) = z) := ⟨_, rfl⟩
  obtain ⟨pq, hpq⟩ : ∃ pq, pq = p ^^^ q := ⟨_, rfl⟩
  obtain ⟨s, hs⟩ : ∃ s, s = pq ^^^ z := ⟨_, rfl⟩
  have HP1 : Hid (refSum (xorL a b (a.length)) = s) := by
    show _ = _
    rw [even_law a b _ hna hnb, HP2.out, HP3.out, HP4.out, hs, hpq]
  have hx1 := bits_xor32 p q
  have hx2 := bits_xor32 pq z
  rw [← hpq] at hx1
  rw [← hs] at hx2
  clear hva hvb hroomA hroomB hpq hs
  go_enter Try.func8, Try.ntmps8
  go_wp2_with (first
    | (go_at_call 11; refine (table_word _).mono ?_; rintro e w1 ⟨rfl, hb1⟩
       have HA := Lib.hid (AI.start hb1)
       clear hb1)
    | (refine wpList_store_row rfl 24 _ _ rfl w1.heap.size (tabOf word) rfl rfl 24 (zs 256) (Go.heap_alloc_new _ _) (size24.trans (by rw [tabOf_size])) (by simp [zs, tabOf_size]) (tabOf_one _) ?_
       generalize (w1.alloc (Obj.cells (zs 256) 24)).setRow w1.heap.size (tabOf word) = wA at *
       generalize w1.heap.size = g at *
       clear w1))
  obtain ⟨gb, hgb⟩ : ∃ gb, gb = wA.heap.size := ⟨_, rfl⟩
  have HE : Hid (EI a b w g gb (a.length) 0 (wA.alloc (.cells (zb (a.length)) 5))) := by rw [hgb]; exact EI.start HA.out
  rw [← hgb]
  clear hgb HA hz
  generalize wA.alloc (.cells (zb (a.length)) 5) = wB at *
  go_loopw [8] (fun i wr => ∃ k : Nat, k ≤ a.length ∧ i = .int .i64 k ∧ Hid (EI a b w g gb (a.length) k wr)) (fun i _ => ((a.length : Int) - intOf i).toNat)
  case atStart => exact ⟨0, by omega, rfl, HE⟩
  case round =>
    clear HE
    obtain ⟨k, hk, rfl, HI⟩ := hrel
    by_cases hkn : k < a.length
    · obtain ⟨ba, oa, rfl, hcA⟩ := hca (by omega)
      obtain ⟨bb, ob, rfl, hcB⟩ := hcb (by omega)
      have cA := hcA k (by omega)
      have cB := hcB k (by omega)
      have lA : ba < w.heap.size := World.block_lt_of_cell? w _ cA
      have lB : bb < w.heap.size := World.block_lt_of_cell? w _ cB
      have dA : wr.drew.cell? ⟨ba, oa + k, none⟩ = some (u8 a[k]) := by rw [HI.out.drew.below.cell lA]; exact cA
      have dB : wr.drew.cell? ⟨bb, ob + k, none⟩ = some (u8 b[k]) := by rw [HI.out.drew.below.cell lB]; exact cB
      have dX : wr.drew.cell? ⟨gb, k, none⟩ = some (xorF a b k k) := by rw [cell_of_row _ _ _ _ _ _ HI.out.drew.bo]; exact xorK_get? a b _ k k hkn
      have fX : wr.drew.frozen? ⟨gb, k, none⟩ = false := frozen_of_row _ _ _ _ _ HI.out.drew.bo
      have HS := Lib.hid HI.out.drew.store
      have e1 : a.getD k 0#8 = a[k] := by rw [List.getD_eq_getElem?_getD, List.getElem?_eq_getElem (by omega)]; rfl
      have e2 : b.getD k 0#8 = b[k] := by rw [List.getD_eq_getElem?_getD, List.getElem?_eq_getElem (by omega)]; rfl
      rw [e1, e2] at HS
      have hx := bits_xor8 a[k] b[k]
      generalize a[k] = ca at *
      generalize b[k] = cb at *
      obtain ⟨cc, hcc⟩ : ∃ cc, cc = ca ^^^ cb := ⟨_, rfl⟩
      rw [← hcc] at hx HS
      have k0 : (0 : Int) ≤ (k : Int) := by omega
      have k1 : (k : Int) < (a.length : Int) := by omega
      have k2 : (k : Int) < (b.length : Int) := by omega
      have k3 : (k : Int) < (a.length : Int) := by omega
      have nA : gb ≠ ba := by have := HI.out.ge2; omega
      have nB : gb ≠ bb := by have := HI.out.ge2; omega
      have HF : Hid (∀ v, (wr.drew.setCell ⟨gb, k, none⟩ v).cell? ⟨ba, oa + k, none⟩ = some (u8 ca) ∧ (wr.drew.setCell ⟨gb, k, none⟩ v).cell? ⟨bb, ob + k, none⟩ = some (u8 cb)) :=
        fun v => ⟨by rw [World.cell?_setCell_far _ _ _ _ nA]; exact dA, by rw [World.cell?_setCell_far _ _ _ _ nB]; exact dB⟩
      clear hca hcb hcA hcB cA cB e1 e2 hcc hx1 hx2
      go_wp2
      go_region_held3 (fun w' => w'.cell? ⟨ba, oa + k, none⟩ = some (u8 ca) ∧ w'.cell? ⟨bb, ob + k, none⟩ = some (u8 cb))
        (first | exact ⟨dA, dB⟩ | exact HF.out _)
        (fail)
      all_goals
        go_wp2
        go_roundw
        case rel => exact ⟨k + 1, by omega, by go_num, HS⟩
        case measure => simp [intOf]; omega
    · obtain rfl : k = a.length := by omega
      have HK := Lib.hid (HI.out.out HV.out HW.out)
      clear hca hcb HI HV HW
      go_wp2_with fail
      have hsL := sizeL
      have huL := Try.underlying24
      refine wp_region_noPanic ?_
      refine wp_region_held_drew (S := fun w' => EKept a b (.slice aa a.length capa) (.slice ab b.length capb) s w g gb a.length w' ∧ w'.rangeAt g 0 tabL) (by kernel_rfl) ?_ (fun hHeld => ?_)
      · exact EKept.drew HK.out
      refine wpAnyH_ready (rs := [0]) (by kernel_rfl) (by simp) ?_
      refine AllReadyH.cons (o := { dst := some 37, op := Op.call { callee := Callee.value (Operand.func 10), args := #[], argTypes := #[] }, type := 4, pos := "outright.go:28", after := #[], guard := none }) rfl (fun K hK => ?_) ?_
      · go_simp
        refine (alive_any _).mono ?_
        rintro e w1 ⟨rfl, hb1⟩
        have hS1 := EKept.next (by assumption) hb1
        (try have hM := hM.below hb1)
        clear hb1
        (try go_wp2_with fail)
        refine hK.out _ _ ?_ (fun hHeld => ?_)
        · exact hS1
        clear hK K
        (try simp only [Act.put, List.setIfInBounds_toArray, List.set_cons_zero, List.set_cons_succ])
        refine wpAnyH_take (i := 1) (oi := { dst := some 38, op := Op.move (Operand.tmp 37), type := 4, pos := "outright.go:28", after := #[{ on := 0, ground := Ground.data }, { on := 0, ground := Ground.chain }], guard := none }) (v := ?_) rfl (by kernel_rfl) (by kernel_rfl) (by kernel_rfl) (fun _ _ _ h => h) (Or.inl ⟨by rfl, ?_⟩) (by assumption) ?_
        rotate_left
        · (intro w9 hS9; (try dsimp only at hS9); go_simp); all_goals (with_reducible rfl)
        (try simp only [Act.put, List.setIfInBounds_toArray, List.set_cons_zero, List.set_cons_succ])
        refine wpAnyH_take (i := 2) (oi := { dst := some 39, op := Op.load 24 (Operand.tmp 5), type := 24, pos := "outright.go:28", after := #[{ on := 1, ground := Ground.guard }], guard := some (1, true) }) rfl (by kernel_rfl) (by kernel_rfl) (by kernel_rfl) (fun _ _ _ h => h) (yieldsIf_load_mid (by rfl) 24 _ rfl g 0 rfl tabL _ (fun _ h => h.2) huL rfl hsL) (by assumption) ?_
        (try simp only [Act.put, List.setIfInBounds_toArray, List.set_cons_zero, List.set_cons_succ])
        refine wpAnyH_take (i := 3) (oi := { dst := some 40, op := Op.move (Operand.tmp 7), type := 28, pos := "outright.go:28", after := #[{ on := 1, ground := Ground.guard }], guard := some (1, true) }) (v := ?_) rfl (by kernel_rfl) (by kernel_rfl) (by kernel_rfl) (fun _ _ _ h => h) (Or.inl ⟨by rfl, ?_⟩) (by assumption) ?_
        rotate_left
        · (intro w9 hS9; (try dsimp only at hS9); go_simp); all_goals (with_reducible rfl)
        (try simp only [Act.put, List.setIfInBounds_toArray, List.set_cons_zero, List.set_cons_succ])
        refine wpAnyH_take (i := 5) (oi := { dst := some 42, op := Op.load 24 (Operand.tmp 5), type := 24, pos := "outright.go:28", after := #[{ on := 1, ground := Ground.guard }], guard := some (1, true) }) rfl (by kernel_rfl) (by kernel_rfl) (by kernel_rfl) (fun _ _ _ h => h) (yieldsIf_load_mid (by rfl) 24 _ rfl g 0 rfl tabL _ (fun _ h => h.2) huL rfl hsL) (by assumption) ?_
        (try simp only [Act.put, List.setIfInBounds_toArray, List.set_cons_zero, List.set_cons_succ])
        refine wpAnyH_take (i := 6) (oi := { dst := some 43, op := Op.move (Operand.tmp 0), type := 28, pos := "outright.go:28", after := #[{ on := 1, ground := Ground.guard }], guard := some (1, true) }) (v := ?_) rfl (by kernel_rfl) (by kernel_rfl) (by kernel_rfl) (fun _ _ _ h => h) (Or.inl ⟨by rfl, ?_⟩) (by assumption) ?_
        rotate_left
        · (intro w9 hS9; (try dsimp only at hS9); go_simp); all_goals (with_reducible rfl)
        (try simp only [Act.put, List.setIfInBounds_toArray, List.set_cons_zero, List.set_cons_succ])
        refine wpAnyH_take (i := 7) (oi := { dst := some 44, op := Op.move (Operand.tmp 6), type := 3, pos := "outright.go:28", after := #[{ on := 1, ground := Ground.guard }], guard := some (1, true) }) (v := ?_) rfl (by kernel_rfl) (by kernel_rfl) (by kernel_rfl) (fun _ _ _ h => h) (Or.inl ⟨by rfl, ?_⟩) (by assumption) ?_
        rotate_left
        · (intro w9 hS9; (try dsimp only at hS9); go_simp); all_goals (with_reducible rfl)
        (try simp only [Act.put, List.setIfInBounds_toArray, List.set_cons_zero, List.set_cons_succ])
        refine wpAnyH_take (i := 8) (oi := { dst := some 45, op := Op.slice 28 (Operand.tmp 43) none (some (Operand.tmp 44)) none, type := 28, pos := "outright.go:28", after := #[{ on := 6, ground := Ground.data }, { on := 7, ground := Ground.data }, { on := 1, ground := Ground.guard }], guard := some (1, true) }) (v := ?_) rfl (by kernel_rfl) (by kernel_rfl) (by kernel_rfl) (fun _ _ _ h => h) (Or.inl ⟨by rfl, ?_⟩) (by assumption) ?_
        rotate_left
        · (intro w9 hS9; (try dsimp only at hS9); go_simp); all_goals (with_reducible rfl)
        (try simp only [Act.put, List.setIfInBounds_toArray, List.set_cons_zero, List.set_cons_succ])
        refine wpAnyH_take (i := 10) (oi := { dst := some 47, op := Op.load 24 (Operand.tmp 5), type := 24, pos := "outright.go:28", after := #[{ on := 1, ground := Ground.guard }], guard := some (1, true) }) rfl (by kernel_rfl) (by kernel_rfl) (by kernel_rfl) (fun _ _ _ h => h) (yieldsIf_load_mid (by rfl) 24 _ rfl g 0 rfl tabL _ (fun _ h => h.2) huL rfl hsL) (by assumption) ?_
        (try simp only [Act.put, List.setIfInBounds_toArray, List.set_cons_zero, List.set_cons_succ])
        refine wpAnyH_take (i := 11) (oi := { dst := some 48, op := Op.move (Operand.tmp 1), type := 28, pos := "outright.go:28", after := #[{ on := 1, ground := Ground.guard }], guard := some (1, true) }) (v := ?_) rfl (by kernel_rfl) (by kernel_rfl) (by kernel_rfl) (fun _ _ _ h => h) (Or.inl ⟨by rfl, ?_⟩) (by assumption) ?_
        rotate_left
        · (intro w9 hS9; (try dsimp only at hS9); go_simp); all_goals (with_reducible rfl)
        (try simp only [Act.put, List.setIfInBounds_toArray, List.set_cons_zero, List.set_cons_succ])
        refine wpAnyH_take (i := 12) (oi := { dst := some 49, op := Op.move (Operand.tmp 6), type := 3, pos := "outright.go:28", after := #[{ on := 1, ground := Ground.guard }], guard := some (1, true) }) (v := ?_) rfl (by kernel_rfl) (by kernel_rfl) (by kernel_rfl) (fun _ _ _ h => h) (Or.inl ⟨by rfl, ?_⟩) (by assumption) ?_
        rotate_left
        · (intro w9 hS9; (try dsimp only at hS9); go_simp); all_goals (with_reducible rfl)
        (try simp only [Act.put, List.setIfInBounds_toArray, List.set_cons_zero, List.set_cons_succ])
        refine wpAnyH_take (i := 13) (oi := { dst := some 50, op := Op.slice 28 (Operand.tmp 48) none (some (Operand.tmp 49)) none, type := 28, pos := "outright.go:28", after := #[{ on := 11, ground := Ground.data }, { on := 12, ground := Ground.data }, { on := 1, ground := Ground.guard }], guard := some (1, true) }) (v := ?_) rfl (by kernel_rfl) (by kernel_rfl) (by kernel_rfl) (fun _ _ _ h => h) (Or.inl ⟨by rfl, ?_⟩) (by assumption) ?_
        rotate_left
        · (intro w9 hS9; (try dsimp only at hS9); go_simp); all_goals (with_reducible rfl)
        (try simp only [Act.put, List.setIfInBounds_toArray, List.set_cons_zero, List.set_cons_succ])
        refine wpAnyH_take (i := 16) (oi := { dst := some 53, op := Op.load 24 (Operand.tmp 5), type := 24, pos := "outright.go:28", after := #[{ on := 1, ground := Ground.guard }], guard := some (1, true) }) rfl (by kernel_rfl) (by kernel_rfl) (by kernel_rfl) (fun _ _ _ h => h) (yieldsIf_load_mid (by rfl) 24 _ rfl g 0 rfl tabL _ (fun _ h => h.2) huL rfl hsL) (by assumption) ?_
        (try simp only [Act.put, List.setIfInBounds_toArray, List.set_cons_zero, List.set_cons_succ])
        refine wpAnyH_take (i := 17) (oi := { dst := some 54, op := Op.move (Operand.tmp 6), type := 3, pos := "outright.go:28", after := #[{ on := 1, ground := Ground.guard }], guard := some (1, true) }) (v := ?_) rfl (by kernel_rfl) (by kernel_rfl) (by kernel_rfl) (fun _ _ _ h => h) (Or.inl ⟨by rfl, ?_⟩) (by assumption) ?_
        rotate_left
        · (intro w9 hS9; (try dsimp only at hS9); go_simp); all_goals (with_reducible rfl)
        (try simp only [Act.put, List.setIfInBounds_toArray, List.set_cons_zero, List.set_cons_succ])
        refine wpAnyH_ready (rs := [4, 18]) (by kernel_rfl) (by simp) ?_
        refine AllReadyH.cons (o := { dst := some 41, op := Op.call { callee := Callee.value (Operand.func 13), args := #[Operand.tmp 39, Operand.tmp 40], argTypes := #[24, 28] }, type := 23, pos := "outright.go:28", after := #[{ on := 2, ground := Ground.data }, { on := 3, ground := Ground.data }, { on := 1, ground := Ground.chain }, { on := 1, ground := Ground.guard }], guard := some (1, true) }) rfl (fun K hK => ?_) ?_
        · go_simp
          refine (sumP_any _ _ s _ (EKept.sx (by assumption)) (by rw [xorL_length]; omega) HP1.out).mono ?_
          rintro e w1 ⟨rfl, hb1⟩
          have hS1 := EKept.next (by assumption) hb1
          (try have hM := hM.below hb1)
          clear hb1
          (try go_wp2_with fail)
          refine hK.out _ _ ?_ (fun hHeld => ?_)
          · exact hS1
          clear hK K
          (try simp only [Act.put, List.setIfInBounds_toArray, List.set_cons_zero, List.set_cons_succ])
          refine wpAnyH_ready (rs := [9, 18]) (by kernel_rfl) (by simp) ?_
          refine AllReadyH.cons (o := { dst := some 46, op := Op.call { callee := Callee.value (Operand.func 13), args := #[Operand.tmp 42, Operand.tmp 45], argTypes := #[24, 28] }, type := 23, pos := "outright.go:28", after := #[{ on := 5, ground := Ground.data }, { on := 8, ground := Ground.data }, { on := 4, ground := Ground.chain }, { on := 1, ground := Ground.guard }], guard := some (1, true) }) rfl (fun K hK => ?_) ?_
          · go_simp
            refine (sumP_any _ _ p _ (SliceAt.take (EKept.sa (by assumption)) a.length hna) (by rw [List.length_take]; omega) HP2.out).mono ?_
            rintro e w1 ⟨rfl, hb1⟩
            have hS1 := EKept.next (by assumption) hb1
            (try have hM := hM.below hb1)
            clear hb1
            (try go_wp2_with fail)
            refine hK.out _ _ ?_ (fun hHeld => ?_)
            · exact hS1
            clear hK K
            (try simp only [Act.put, List.setIfInBounds_toArray, List.set_cons_zero, List.set_cons_succ])
            refine wpAnyH_ready (rs := [14, 18]) (by kernel_rfl) (by simp) ?_
            refine AllReadyH.cons (o := { dst := some 51, op := Op.call { callee := Callee.value (Operand.func 13), args := #[Operand.tmp 47, Operand.tmp 50], argTypes := #[24, 28] }, type := 23, pos := "outright.go:28", after := #[{ on := 10, ground := Ground.data }, { on := 13, ground := Ground.data }, { on := 9, ground := Ground.chain }, { on := 1, ground := Ground.guard }], guard := some (1, true) }) rfl (fun K hK => ?_) ?_
            · go_simp
              refine (sumP_any _ _ q _ (SliceAt.take (EKept.sb (by assumption)) a.length hnb) (by rw [List.length_take]; omega) HP3.out).mono ?_
              rintro e w1 ⟨rfl, hb1⟩
              have hS1 := EKept.next (by assumption) hb1
              (try have hM := hM.below hb1)
              clear hb1
              (try go_wp2_with fail)
              refine hK.out _ _ ?_ (fun hHeld => ?_)
              · exact hS1
              clear hK K
              (try simp only [Act.put, List.setIfInBounds_toArray, List.set_cons_zero, List.set_cons_succ])
              refine wpAnyH_take (i := 15) (oi := { dst := some 52, op := Op.binOp BinOp.xor 23 (Operand.tmp 46) (Operand.tmp 51) 23, type := 23, pos := "outright.go:28", after := #[{ on := 9, ground := Ground.data }, { on := 14, ground := Ground.data }, { on := 1, ground := Ground.guard }], guard := some (1, true) }) (v := ?_) rfl (by kernel_rfl) (by kernel_rfl) (by kernel_rfl) (fun _ _ _ h => h) (Or.inl ⟨by rfl, ?_⟩) (by assumption) ?_
              rotate_left
              · (intro w9 hS9; (try dsimp only at hS9); go_simp); all_goals (with_reducible rfl)
              (try simp only [Act.put, List.setIfInBounds_toArray, List.set_cons_zero, List.set_cons_succ])
              refine wpAnyH_ready (rs := [18]) (by kernel_rfl) (by simp) ?_
              refine AllReadyH.cons (o := { dst := some 55, op := Op.makeSlice 28 (Operand.tmp 54) (Operand.tmp 54), type := 28, pos := "outright.go:28", after := #[{ on := 17, ground := Ground.data }, { on := 17, ground := Ground.data }, { on := 1, ground := Ground.guard }], guard := some (1, true) }) rfl (fun K hK => ?_) ?_
              · go_simp
                have hM := EKept.made (by assumption)
                have hS1 := EKept.next (by assumption) (make_below a.length _)
                (try go_wp2_with fail)
                refine hK.out _ _ ?_ (fun hHeld => ?_)
                · exact hS1
                clear hK K
                (try simp only [Act.put, List.setIfInBounds_toArray, List.set_cons_zero, List.set_cons_succ])
                refine wpAnyH_ready (rs := [19]) (by kernel_rfl) (by simp) ?_
                refine AllReadyH.cons (o := { dst := some 56, op := Op.call { callee := Callee.value (Operand.func 13), args := #[Operand.tmp 53, Operand.tmp 55], argTypes := #[24, 28] }, type := 23, pos := "outright.go:28", after := #[{ on := 16, ground := Ground.data }, { on := 18, ground := Ground.data }, { on := 14, ground := Ground.chain }, { on := 1, ground := Ground.guard }], guard := some (1, true) }) rfl (fun K hK => ?_) ?_
                · go_simp
                  refine (sumP_any _ _ z _ hM (by rw [List.length_replicate]; omega) HP4.out).mono ?_
                  rintro e w1 ⟨rfl, hb1⟩
                  have hS1 := EKept.next (by assumption) hb1
                  clear hb1
                  (try go_wp2_with fail)
                  refine hK.out _ _ ?_ (fun hHeld => ?_)
                  · exact hS1
                  clear hK K
                  (try simp only [Act.put, List.setIfInBounds_toArray, List.set_cons_zero, List.set_cons_succ])
                  refine wpAnyH_take (i := 20) (oi := { dst := some 57, op := Op.binOp BinOp.xor 23 (Operand.tmp 52) (Operand.tmp 56) 23, type := 23, pos := "outright.go:28", after := #[{ on := 15, ground := Ground.data }, { on := 19, ground := Ground.data }, { on := 1, ground := Ground.guard }], guard := some (1, true) }) (v := ?_) rfl (by kernel_rfl) (by kernel_rfl) (by kernel_rfl) (fun _ _ _ h => h) (Or.inl ⟨by rfl, ?_⟩) (by assumption) ?_
                  rotate_left
                  · (intro w9 hS9; (try dsimp only at hS9); go_simp); all_goals (with_reducible rfl)
                  (try simp only [Act.put, List.setIfInBounds_toArray, List.set_cons_zero, List.set_cons_succ])
                  refine wpAnyH_take (i := 21) (oi := { dst := some 58, op := Op.binOp BinOp.eql 23 (Operand.tmp 41) (Operand.tmp 57) 23, type := 4, pos := "outright.go:28", after := #[{ on := 4, ground := Ground.data }, { on := 20, ground := Ground.data }, { on := 1, ground := Ground.guard }], guard := some (1, true) }) (v := ?_) rfl (by kernel_rfl) (by kernel_rfl) (by kernel_rfl) (fun _ _ _ h => h) (Or.inl ⟨by rfl, ?_⟩) (by assumption) ?_
                  rotate_left
                  · (intro w9 hS9; (try dsimp only at hS9); go_simp); all_goals (with_reducible rfl)
                  (try simp only [Act.put, List.setIfInBounds_toArray, List.set_cons_zero, List.set_cons_succ])
                  refine wpAnyH_take (i := 22) (oi := { dst := some 59, op := Op.pick (Operand.tmp 38) (Operand.tmp 58) (Operand.const (Value.bool false)), type := 4, pos := "outright.go:28", after := #[{ on := 1, ground := Ground.data }, { on := 21, ground := Ground.data }], guard := none }) (v := ?_) rfl (by kernel_rfl) (by kernel_rfl) (by kernel_rfl) (fun _ _ _ h => h) (Or.inl ⟨by rfl, ?_⟩) (by assumption) ?_
                  rotate_left
                  · (intro w9 hS9; (try dsimp only at hS9); go_simp); all_goals (with_reducible rfl)
                  (try simp only [Act.put, List.setIfInBounds_toArray, List.set_cons_zero, List.set_cons_succ])
                  refine wpAnyH_take (i := 23) (oi := { dst := some 4, op := Op.assign (Operand.tmp 59), type := 4, pos := "outright.go:28", after := #[{ on := 22, ground := Ground.data }, { on := 19, ground := Ground.chain }, { on := 0, ground := Ground.phase }, { on := 1, ground := Ground.phase }, { on := 2, ground := Ground.phase }, { on := 3, ground := Ground.phase }, { on := 4, ground := Ground.phase }, { on := 5, ground := Ground.phase }, { on := 6, ground := Ground.phase }, { on := 7, ground := Ground.phase }, { on := 8, ground := Ground.phase }, { on := 9, ground := Ground.phase }, { on := 10, ground := Ground.phase }, { on := 11, ground := Ground.phase }, { on := 12, ground := Ground.phase }, { on := 13, ground := Ground.phase }, { on := 14, ground := Ground.phase }, { on := 15, ground := Ground.phase }, { on := 16, ground := Ground.phase }, { on := 17, ground := Ground.phase }, { on := 18, ground := Ground.phase }, { on := 19, ground := Ground.phase }, { on := 20, ground := Ground.phase }, { on := 21, ground := Ground.phase }, { on := 22, ground := Ground.phase }], guard := none }) (v := ?_) rfl (by kernel_rfl) (by kernel_rfl) (by kernel_rfl) (fun _ _ _ h => h) (Or.inl ⟨by rfl, ?_⟩) (by assumption) ?_
                  rotate_left
                  · (intro w9 hS9; (try dsimp only at hS9); go_simp); all_goals (with_reducible rfl)
                  (try simp only [Act.put, List.setIfInBounds_toArray, List.set_cons_zero, List.set_cons_succ])
                  refine wpAnyH_done (by kernel_rfl) (NoPanic.normal ?_) _
                  go_wp2_with fail
                  go_ret
                  exact ⟨rfl, EKept.below (by assumption)⟩
                exact AllReadyH.nil
              exact AllReadyH.nil
            refine AllReadyH.cons (o := { dst := some 55, op := Op.makeSlice 28 (Operand.tmp 54) (Operand.tmp 54), type := 28, pos := "outright.go:28", after := #[{ on := 17, ground := Ground.data }, { on := 17, ground := Ground.data }, { on := 1, ground := Ground.guard }], guard := some (1, true) }) rfl (fun K hK => ?_) ?_
            · go_simp
              have hM := EKept.made (by assumption)
              have hS1 := EKept.next (by assumption) (make_below a.length _)
              (try go_wp2_with fail)
              refine hK.out _ _ ?_ (fun hHeld => ?_)
              · exact hS1
              clear hK K
              (try simp only [Act.put, List.setIfInBounds_toArray, List.set_cons_zero, List.set_cons_succ])
              refine wpAnyH_ready (rs := [14]) (by kernel_rfl) (by simp) ?_
              refine AllReadyH.cons (o := { dst := some 51, op := Op.call { callee := Callee.value (Operand.func 13), args := #[Operand.tmp 47, Operand.tmp 50], argTypes := #[24, 28] }, type := 23, pos := "outright.go:28", after := #[{ on := 10, ground := Ground.data }, { on := 13, ground := Ground.data }, { on := 9, ground := Ground.chain }, { on := 1, ground := Ground.guard }], guard := some (1, true) }) rfl (fun K hK => ?_) ?_
              · go_simp
                refine (sumP_any _ _ q _ (SliceAt.take (EKept.sb (by assumption)) a.length hnb) (by rw [List.length_take]; omega) HP3.out).mono ?_
                rintro e w1 ⟨rfl, hb1⟩
                have hS1 := EKept.next (by assumption) hb1
                (try have hM := hM.below hb1)
                clear hb1
                (try go_wp2_with fail)
                refine hK.out _ _ ?_ (fun hHeld => ?_)
                · exact hS1
                clear hK K
                (try simp only [Act.put, List.setIfInBounds_toArray, List.set_cons_zero, List.set_cons_succ])
                refine wpAnyH_take (i := 15) (oi := { dst := some 52, op := Op.binOp BinOp.xor 23 (Operand.tmp 46) (Operand.tmp 51) 23, type := 23, pos := "outright.go:28", after := #[{ on := 9, ground := Ground.data }, { on := 14, ground := Ground.data }, { on := 1, ground := Ground.guard }], guard := some (1, true) }) (v := ?_) rfl (by kernel_rfl) (by kernel_rfl) (by kernel_rfl) (fun _ _ _ h => h) (Or.inl ⟨by rfl, ?_⟩) (by assumption) ?_
                rotate_left
                · (intro w9 hS9; (try dsimp only at hS9); go_simp); all_goals (with_reducible rfl)
                (try simp only [Act.put, List.setIfInBounds_toArray, List.set_cons_zero, List.set_cons_succ])
                refine wpAnyH_ready (rs := [19]) (by kernel_rfl) (by simp) ?_
                refine AllReadyH.cons (o := { dst := some 56, op := Op.call { callee := Callee.value (Operand.func 13), args := #[Operand.tmp 53, Operand.tmp 55], argTypes := #[24, 28] }, type := 23, pos := "outright.go:28", after := #[{ on := 16, ground := Ground.data }, { on := 18, ground := Ground.data }, { on := 14, ground := Ground.chain }, { on := 1, ground := Ground.guard }], guard := some (1, true) }) rfl (fun K hK => ?_) ?_
                · go_simp
                  refine (sumP_any _ _ z _ hM (by rw [List.length_replicate]; omega) HP4.out).mono ?_
                  rintro e w1 ⟨rfl, hb1⟩
                  have hS1 := EKept.next (by assumption) hb1
                  clear hb1
                  (try go_wp2_with fail)
                  refine hK.out _ _ ?_ (fun hHeld => ?_)
                  · exact hS1
                  clear hK K
                  (try simp only [Act.put, List.setIfInBounds_toArray, List.set_cons_zero, List.set_cons_succ])
                  refine wpAnyH_take (i := 20) (oi := { dst := some 57, op := Op.binOp BinOp.xor 23 (Operand.tmp 52) (Operand.tmp 56) 23, type := 23, pos := "outright.go:28", after := #[{ on := 15, ground := Ground.data }, { on := 19, ground := Ground.data }, { on := 1, ground := Ground.guard }], guard := some (1, true) }) (v := ?_) rfl (by kernel_rfl) (by kernel_rfl) (by kernel_rfl) (fun _ _ _ h => h) (Or.inl ⟨by rfl, ?_⟩) (by assumption) ?_
                  rotate_left
                  · (intro w9 hS9; (try dsimp only at hS9); go_simp); all_goals (with_reducible rfl)
                  (try simp only [Act.put, List.setIfInBounds_toArray, List.set_cons_zero, List.set_cons_succ])
                  refine wpAnyH_take (i := 21) (oi := { dst := some 58, op := Op.binOp BinOp.eql 23 (Operand.tmp 41) (Operand.tmp 57) 23, type := 4, pos := "outright.go:28", after := #[{ on := 4, ground := Ground.data }, { on := 20, ground := Ground.data }, { on := 1, ground := Ground.guard }], guard := some (1, true) }) (v := ?_) rfl (by kernel_rfl) (by kernel_rfl) (by kernel_rfl) (fun _ _ _ h => h) (Or.inl ⟨by rfl, ?_⟩) (by assumption) ?_
                  rotate_left
                  · (intro w9 hS9; (try dsimp only at hS9); go_simp); all_goals (with_reducible rfl)
                  (try simp only [Act.put, List.setIfInBounds_toArray, List.set_cons_zero, List.set_cons_succ])
                  refine wpAnyH_take (i := 22) (oi := { dst := some 59, op := Op.pick (Operand.tmp 38) (Operand.tmp 58) (Operand.const (Value.bool false)), type := 4, pos := "outright.go:28", after := #[{ on := 1, ground := Ground.data }, { on := 21, ground := Ground.data }], guard := none }) (v := ?_) rfl (by kernel_rfl) (by kernel_rfl) (by kernel_rfl) (fun _ _ _ h => h) (Or.inl ⟨by rfl, ?_⟩) (by assumption) ?_
                  rotate_left
                  · (intro w9 hS9; (try dsimp only at hS9); go_simp); all_goals (with_reducible rfl)
                  (try simp only [Act.put, List.setIfInBounds_toArray, List.set_cons_zero, List.set_cons_succ])
                  refine wpAnyH_take (i := 23) (oi := { dst := some 4, op := Op.assign (Operand.tmp 59), type := 4, pos := "outright.go:28", after := #[{ on := 22, ground := Ground.data }, { on := 19, ground := Ground.chain }, { on := 0, ground := Ground.phase }, { on := 1, ground := Ground.phase }, { on := 2, ground := Ground.phase }, { on := 3, ground := Ground.phase }, { on := 4, ground := Ground.phase }, { on := 5, ground := Ground.phase }, { on := 6, ground := Ground.phase }, { on := 7, ground := Ground.phase }, { on := 8, ground := Ground.phase }, { on := 9, ground := Ground.phase }, { on := 10, ground := Ground.phase }, { on := 11, ground := Ground.phase }, { on := 12, ground := Ground.phase }, { on := 13, ground := Ground.phase }, { on := 14, ground := Ground.phase }, { on := 15, ground := Ground.phase }, { on := 16, ground := Ground.phase }, { on := 17, ground := Ground.phase }, { on := 18, ground := Ground.phase }, { on := 19, ground := Ground.phase }, { on := 20, ground := Ground.phase }, { on := 21, ground := Ground.phase }, { on := 22, ground := Ground.phase }], guard := none }) (v := ?_) rfl (by kernel_rfl) (by kernel_rfl) (by kernel_rfl) (fun _ _ _ h => h) (Or.inl ⟨by rfl, ?_⟩) (by assumption) ?_
                  rotate_left
                  · (intro w9 hS9; (try dsimp only at hS9); go_simp); all_goals (with_reducible rfl)
                  (try simp only [Act.put, List.setIfInBounds_toArray, List.set_cons_zero, List.set_cons_succ])
                  refine wpAnyH_done (by kernel_rfl) (NoPanic.normal ?_) _
                  go_wp2_with fail
                  go_ret
                  exact ⟨rfl, EKept.below (by assumption)⟩
                exact AllReadyH.nil
              exact AllReadyH.nil
            exact AllReadyH.nil
          refine AllReadyH.cons (o := { dst := some 55, op := Op.makeSlice 28 (Operand.tmp 54) (Operand.tmp 54), type := 28, pos := "outright.go:28", after := #[{ on := 17, ground := Ground.data }, { on := 17, ground := Ground.data }, { on := 1, ground := Ground.guard }], guard := some (1, true) }) rfl (fun K hK => ?_) ?_
          · go_simp
            have hM := EKept.made (by assumption)
            have hS1 := EKept.next (by assumption) (make_below a.length _)
            (try go_wp2_with fail)
            refine hK.out _ _ ?_ (fun hHeld => ?_)
            · exact hS1
            clear hK K
            (try simp only [Act.put, List.setIfInBounds_toArray, List.set_cons_zero, List.set_cons_succ])
            refine wpAnyH_ready (rs := [9]) (by kernel_rfl) (by simp) ?_
            refine AllReadyH.cons (o := { dst := some 46, op := Op.call { callee := Callee.value (Operand.func 13), args := #[Operand.tmp 42, Operand.tmp 45], argTypes := #[24, 28] }, type := 23, pos := "outright.go:28", after := #[{ on := 5, ground := Ground.data }, { on := 8, ground := Ground.data }, { on := 4, ground := Ground.chain }, { on := 1, ground := Ground.guard }], guard := some (1, true) }) rfl (fun K hK => ?_) ?_
            · go_simp
              refine (sumP_any _ _ p _ (SliceAt.take (EKept.sa (by assumption)) a.length hna) (by rw [List.length_take]; omega) HP2.out).mono ?_
              rintro e w1 ⟨rfl, hb1⟩
              have hS1 := EKept.next (by assumption) hb1
              (try have hM := hM.below hb1)
              clear hb1
              (try go_wp2_with fail)
              refine hK.out _ _ ?_ (fun hHeld => ?_)
              · exact hS1
              clear hK K
              (try simp only [Act.put, List.setIfInBounds_toArray, List.set_cons_zero, List.set_cons_succ])
              refine wpAnyH_ready (rs := [14]) (by kernel_rfl) (by simp) ?_
              refine AllReadyH.cons (o := { dst := some 51, op := Op.call { callee := Callee.value (Operand.func 13), args := #[Operand.tmp 47, Operand.tmp 50], argTypes := #[24, 28] }, type := 23, pos := "outright.go:28", after := #[{ on := 10, ground := Ground.data }, { on := 13, ground := Ground.data }, { on := 9, ground := Ground.chain }, { on := 1, ground := Ground.guard }], guard := some (1, true) }) rfl (fun K hK => ?_) ?_
              · go_simp
                refine (sumP_any _ _ q _ (SliceAt.take (EKept.sb (by assumption)) a.length hnb) (by rw [List.length_take]; omega) HP3.out).mono ?_
                rintro e w1 ⟨rfl, hb1⟩
                have hS1 := EKept.next (by assumption) hb1
                (try have hM := hM.below hb1)
                clear hb1
                (try go_wp2_with fail)
                refine hK.out _ _ ?_ (fun hHeld => ?_)
                · exact hS1
                clear hK K
                (try simp only [Act.put, List.setIfInBounds_toArray, List.set_cons_zero, List.set_cons_succ])
                refine wpAnyH_take (i := 15) (oi := { dst := some 52, op := Op.binOp BinOp.xor 23 (Operand.tmp 46) (Operand.tmp 51) 23, type := 23, pos := "outright.go:28", after := #[{ on := 9, ground := Ground.data }, { on := 14, ground := Ground.data }, { on := 1, ground := Ground.guard }], guard := some (1, true) }) (v := ?_) rfl (by kernel_rfl) (by kernel_rfl) (by kernel_rfl) (fun _ _ _ h => h) (Or.inl ⟨by rfl, ?_⟩) (by assumption) ?_
                rotate_left
                · (intro w9 hS9; (try dsimp only at hS9); go_simp); all_goals (with_reducible rfl)
                (try simp only [Act.put, List.setIfInBounds_toArray, List.set_cons_zero, List.set_cons_succ])
                refine wpAnyH_ready (rs := [19]) (by kernel_rfl) (by simp) ?_
                refine AllReadyH.cons (o := { dst := some 56, op := Op.call { callee := Callee.value (Operand.func 13), args := #[Operand.tmp 53, Operand.tmp 55], argTypes := #[24, 28] }, type := 23, pos := "outright.go:28", after := #[{ on := 16, ground := Ground.data }, { on := 18, ground := Ground.data }, { on := 14, ground := Ground.chain }, { on := 1, ground := Ground.guard }], guard := some (1, true) }) rfl (fun K hK => ?_) ?_
                · go_simp
                  refine (sumP_any _ _ z _ hM (by rw [List.length_replicate]; omega) HP4.out).mono ?_
                  rintro e w1 ⟨rfl, hb1⟩
                  have hS1 := EKept.next (by assumption) hb1
                  clear hb1
                  (try go_wp2_with fail)
                  refine hK.out _ _ ?_ (fun hHeld => ?_)
                  · exact hS1
                  clear hK K
                  (try simp only [Act.put, List.setIfInBounds_toArray, List.set_cons_zero, List.set_cons_succ])
                  refine wpAnyH_take (i := 20) (oi := { dst := some 57, op := Op.binOp BinOp.xor 23 (Operand.tmp 52) (Operand.tmp 56) 23, type := 23, pos := "outright.go:28", after := #[{ on := 15, ground := Ground.data }, { on := 19, ground := Ground.data }, { on := 1, ground := Ground.guard }], guard := some (1, true) }) (v := ?_) rfl (by kernel_rfl) (by kernel_rfl) (by kernel_rfl) (fun _ _ _ h => h) (Or.inl ⟨by rfl, ?_⟩) (by assumption) ?_
                  rotate_left
                  · (intro w9 hS9; (try dsimp only at hS9); go_simp); all_goals (with_reducible rfl)
                  (try simp only [Act.put, List.setIfInBounds_toArray, List.set_cons_zero, List.set_cons_succ])
                  refine wpAnyH_take (i := 21) (oi := { dst := some 58, op := Op.binOp BinOp.eql 23 (Operand.tmp 41) (Operand.tmp 57) 23, type := 4, pos := "outright.go:28", after := #[{ on := 4, ground := Ground.data }, { on := 20, ground := Ground.data }, { on := 1, ground := Ground.guard }], guard := some (1, true) }) (v := ?_) rfl (by kernel_rfl) (by kernel_rfl) (by kernel_rfl) (fun _ _ _ h => h) (Or.inl ⟨by rfl, ?_⟩) (by assumption) ?_
                  rotate_left
                  · (intro w9 hS9; (try dsimp only at hS9); go_simp); all_goals (with_reducible rfl)
                  (try simp only [Act.put, List.setIfInBounds_toArray, List.set_cons_zero, List.set_cons_succ])
                  refine wpAnyH_take (i := 22) (oi := { dst := some 59, op := Op.pick (Operand.tmp 38) (Operand.tmp 58) (Operand.const (Value.bool false)), type := 4, pos := "outright.go:28", after := #[{ on := 1, ground := Ground.data }, { on := 21, ground := Ground.data }], guard := none }) (v := ?_) rfl (by kernel_rfl) (by kernel_rfl) (by kernel_rfl) (fun _ _ _ h => h) (Or.inl ⟨by rfl, ?_⟩) (by assumption) ?_
                  rotate_left
                  · (intro w9 hS9; (try dsimp only at hS9); go_simp); all_goals (with_reducible rfl)
                  (try simp only [Act.put, List.setIfInBounds_toArray, List.set_cons_zero, List.set_cons_succ])
                  refine wpAnyH_take (i := 23) (oi := { dst := some 4, op := Op.assign (Operand.tmp 59), type := 4, pos := "outright.go:28", after := #[{ on := 22, ground := Ground.data }, { on := 19, ground := Ground.chain }, { on := 0, ground := Ground.phase }, { on := 1, ground := Ground.phase }, { on := 2, ground := Ground.phase }, { on := 3, ground := Ground.phase }, { on := 4, ground := Ground.phase }, { on := 5, ground := Ground.phase }, { on := 6, ground := Ground.phase }, { on := 7, ground := Ground.phase }, { on := 8, ground := Ground.phase }, { on := 9, ground := Ground.phase }, { on := 10, ground := Ground.phase }, { on := 11, ground := Ground.phase }, { on := 12, ground := Ground.phase }, { on := 13, ground := Ground.phase }, { on := 14, ground := Ground.phase }, { on := 15, ground := Ground.phase }, { on := 16, ground := Ground.phase }, { on := 17, ground := Ground.phase }, { on := 18, ground := Ground.phase }, { on := 19, ground := Ground.phase }, { on := 20, ground := Ground.phase }, { on := 21, ground := Ground.phase }, { on := 22, ground := Ground.phase }], guard := none }) (v := ?_) rfl (by kernel_rfl) (by kernel_rfl) (by kernel_rfl) (fun _ _ _ h => h) (Or.inl ⟨by rfl, ?_⟩) (by assumption) ?_
                  rotate_left
                  · (intro w9 hS9; (try dsimp only at hS9); go_simp); all_goals (with_reducible rfl)
                  (try simp only [Act.put, List.setIfInBounds_toArray, List.set_cons_zero, List.set_cons_succ])
                  refine wpAnyH_done (by kernel_rfl) (NoPanic.normal ?_) _
                  go_wp2_with fail
                  go_ret
                  exact ⟨rfl, EKept.below (by assumption)⟩
                exact AllReadyH.nil
              exact AllReadyH.nil
            exact AllReadyH.nil
          exact AllReadyH.nil
        refine AllReadyH.cons (o := { dst := some 55, op := Op.makeSlice 28 (Operand.tmp 54) (Operand.tmp 54), type := 28, pos := "outright.go:28", after := #[{ on := 17, ground := Ground.data }, { on := 17, ground := Ground.data }, { on := 1, ground := Ground.guard }], guard := some (1, true) }) rfl (fun K hK => ?_) ?_
        · go_simp
          have hM := EKept.made (by assumption)
          have hS1 := EKept.next (by assumption) (make_below a.length _)
          (try go_wp2_with fail)
          refine hK.out _ _ ?_ (fun hHeld => ?_)
          · exact hS1
          clear hK K
          (try simp only [Act.put, List.setIfInBounds_toArray, List.set_cons_zero, List.set_cons_succ])
          refine wpAnyH_ready (rs := [4]) (by kernel_rfl) (by simp) ?_
          refine AllReadyH.cons (o := { dst := some 41, op := Op.call { callee := Callee.value (Operand.func 13), args := #[Operand.tmp 39, Operand.tmp 40], argTypes := #[24, 28] }, type := 23, pos := "outright.go:28", after := #[{ on := 2, ground := Ground.data }, { on := 3, ground := Ground.data }, { on := 1, ground := Ground.chain }, { on := 1, ground := Ground.guard }], guard := some (1, true) }) rfl (fun K hK => ?_) ?_
          · go_simp
            refine (sumP_any _ _ s _ (EKept.sx (by assumption)) (by rw [xorL_length]; omega) HP1.out).mono ?_
            rintro e w1 ⟨rfl, hb1⟩
            have hS1 := EKept.next (by assumption) hb1
            (try have hM := hM.below hb1)
            clear hb1
            (try go_wp2_with fail)
            refine hK.out _ _ ?_ (fun hHeld => ?_)
            · exact hS1
            clear hK K
            (try simp only [Act.put, List.setIfInBounds_toArray, List.set_cons_zero, List.set_cons_succ])
            refine wpAnyH_ready (rs := [9]) (by kernel_rfl) (by simp) ?_
            refine AllReadyH.cons (o := { dst := some 46, op := Op.call { callee := Callee.value (Operand.func 13), args := #[Operand.tmp 42, Operand.tmp 45], argTypes := #[24, 28] }, type := 23, pos := "outright.go:28", after := #[{ on := 5, ground := Ground.data }, { on := 8, ground := Ground.data }, { on := 4, ground := Ground.chain }, { on := 1, ground := Ground.guard }], guard := some (1, true) }) rfl (fun K hK => ?_) ?_
            · go_simp
              refine (sumP_any _ _ p _ (SliceAt.take (EKept.sa (by assumption)) a.length hna) (by rw [List.length_take]; omega) HP2.out).mono ?_
              rintro e w1 ⟨rfl, hb1⟩
              have hS1 := EKept.next (by assumption) hb1
              (try have hM := hM.below hb1)
              clear hb1
              (try go_wp2_with fail)
              refine hK.out _ _ ?_ (fun hHeld => ?_)
              · exact hS1
              clear hK K
              (try simp only [Act.put, List.setIfInBounds_toArray, List.set_cons_zero, List.set_cons_succ])
              refine wpAnyH_ready (rs := [14]) (by kernel_rfl) (by simp) ?_
              refine AllReadyH.cons (o := { dst := some 51, op := Op.call { callee := Callee.value (Operand.func 13), args := #[Operand.tmp 47, Operand.tmp 50], argTypes := #[24, 28] }, type := 23, pos := "outright.go:28", after := #[{ on := 10, ground := Ground.data }, { on := 13, ground := Ground.data }, { on := 9, ground := Ground.chain }, { on := 1, ground := Ground.guard }], guard := some (1, true) }) rfl (fun K hK => ?_) ?_
              · go_simp
                refine (sumP_any _ _ q _ (SliceAt.take (EKept.sb (by assumption)) a.length hnb) (by rw [List.length_take]; omega) HP3.out).mono ?_
                rintro e w1 ⟨rfl, hb1⟩
                have hS1 := EKept.next (by assumption) hb1
                (try have hM := hM.below hb1)
                clear hb1
                (try go_wp2_with fail)
                refine hK.out _ _ ?_ (fun hHeld => ?_)
                · exact hS1
                clear hK K
                (try simp only [Act.put, List.setIfInBounds_toArray, List.set_cons_zero, List.set_cons_succ])
                refine wpAnyH_take (i := 15) (oi := { dst := some 52, op := Op.binOp BinOp.xor 23 (Operand.tmp 46) (Operand.tmp 51) 23, type := 23, pos := "outright.go:28", after := #[{ on := 9, ground := Ground.data }, { on := 14, ground := Ground.data }, { on := 1, ground := Ground.guard }], guard := some (1, true) }) (v := ?_) rfl (by kernel_rfl) (by kernel_rfl) (by kernel_rfl) (fun _ _ _ h => h) (Or.inl ⟨by rfl, ?_⟩) (by assumption) ?_
                rotate_left
                · (intro w9 hS9; (try dsimp only at hS9); go_simp); all_goals (with_reducible rfl)
                (try simp only [Act.put, List.setIfInBounds_toArray, List.set_cons_zero, List.set_cons_succ])
                refine wpAnyH_ready (rs := [19]) (by kernel_rfl) (by simp) ?_
                refine AllReadyH.cons (o := { dst := some 56, op := Op.call { callee := Callee.value (Operand.func 13), args := #[Operand.tmp 53, Operand.tmp 55], argTypes := #[24, 28] }, type := 23, pos := "outright.go:28", after := #[{ on := 16, ground := Ground.data }, { on := 18, ground := Ground.data }, { on := 14, ground := Ground.chain }, { on := 1, ground := Ground.guard }], guard := some (1, true) }) rfl (fun K hK => ?_) ?_
                · go_simp
                  refine (sumP_any _ _ z _ hM (by rw [List.length_replicate]; omega) HP4.out).mono ?_
                  rintro e w1 ⟨rfl, hb1⟩
                  have hS1 := EKept.next (by assumption) hb1
                  clear hb1
                  (try go_wp2_with fail)
                  refine hK.out _ _ ?_ (fun hHeld => ?_)
                  · exact hS1
                  clear hK K
                  (try simp only [Act.put, List.setIfInBounds_toArray, List.set_cons_zero, List.set_cons_succ])
                  refine wpAnyH_take (i := 20) (oi := { dst := some 57, op := Op.binOp BinOp.xor 23 (Operand.tmp 52) (Operand.tmp 56) 23, type := 23, pos := "outright.go:28", after := #[{ on := 15, ground := Ground.data }, { on := 19, ground := Ground.data }, { on := 1, ground := Ground.guard }], guard := some (1, true) }) (v := ?_) rfl (by kernel_rfl) (by kernel_rfl) (by kernel_rfl) (fun _ _ _ h => h) (Or.inl ⟨by rfl, ?_⟩) (by assumption) ?_
                  rotate_left
                  · (intro w9 hS9; (try dsimp only at hS9); go_simp); all_goals (with_reducible rfl)
                  (try simp only [Act.put, List.setIfInBounds_toArray, List.set_cons_zero, List.set_cons_succ])
                  refine wpAnyH_take (i := 21) (oi := { dst := some 58, op := Op.binOp BinOp.eql 23 (Operand.tmp 41) (Operand.tmp 57) 23, type := 4, pos := "outright.go:28", after := #[{ on := 4, ground := Ground.data }, { on := 20, ground := Ground.data }, { on := 1, ground := Ground.guard }], guard := some (1, true) }) (v := ?_) rfl (by kernel_rfl) (by kernel_rfl) (by kernel_rfl) (fun _ _ _ h => h) (Or.inl ⟨by rfl, ?_⟩) (by assumption) ?_
                  rotate_left
                  · (intro w9 hS9; (try dsimp only at hS9); go_simp); all_goals (with_reducible rfl)
                  (try simp only [Act.put, List.setIfInBounds_toArray, List.set_cons_zero, List.set_cons_succ])
                  refine wpAnyH_take (i := 22) (oi := { dst := some 59, op := Op.pick (Operand.tmp 38) (Operand.tmp 58) (Operand.const (Value.bool false)), type := 4, pos := "outright.go:28", after := #[{ on := 1, ground := Ground.data }, { on := 21, ground := Ground.data }], guard := none }) (v := ?_) rfl (by kernel_rfl) (by kernel_rfl) (by kernel_rfl) (fun _ _ _ h => h) (Or.inl ⟨by rfl, ?_⟩) (by assumption) ?_
                  rotate_left
                  · (intro w9 hS9; (try dsimp only at hS9); go_simp); all_goals (with_reducible rfl)
                  (try simp only [Act.put, List.setIfInBounds_toArray, List.set_cons_zero, List.set_cons_succ])
                  refine wpAnyH_take (i := 23) (oi := { dst := some 4, op := Op.assign (Operand.tmp 59), type := 4, pos := "outright.go:28", after := #[{ on := 22, ground := Ground.data }, { on := 19, ground := Ground.chain }, { on := 0, ground := Ground.phase }, { on := 1, ground := Ground.phase }, { on := 2, ground := Ground.phase }, { on := 3, ground := Ground.phase }, { on := 4, ground := Ground.phase }, { on := 5, ground := Ground.phase }, { on := 6, ground := Ground.phase }, { on := 7, ground := Ground.phase }, { on := 8, ground := Ground.phase }, { on := 9, ground := Ground.phase }, { on := 10, ground := Ground.phase }, { on := 11, ground := Ground.phase }, { on := 12, ground := Ground.phase }, { on := 13, ground := Ground.phase }, { on := 14, ground := Ground.phase }, { on := 15, ground := Ground.phase }, { on := 16, ground := Ground.phase }, { on := 17, ground := Ground.phase }, { on := 18, ground := Ground.phase }, { on := 19, ground := Ground.phase }, { on := 20, ground := Ground.phase }, { on := 21, ground := Ground.phase }, { on := 22, ground := Ground.phase }], guard := none }) (v := ?_) rfl (by kernel_rfl) (by kernel_rfl) (by kernel_rfl) (fun _ _ _ h => h) (Or.inl ⟨by rfl, ?_⟩) (by assumption) ?_
                  rotate_left
                  · (intro w9 hS9; (try dsimp only at hS9); go_simp); all_goals (with_reducible rfl)
                  (try simp only [Act.put, List.setIfInBounds_toArray, List.set_cons_zero, List.set_cons_succ])
                  refine wpAnyH_done (by kernel_rfl) (NoPanic.normal ?_) _
                  go_wp2_with fail
                  go_ret
                  exact ⟨rfl, EKept.below (by assumption)⟩
                exact AllReadyH.nil
              exact AllReadyH.nil
            exact AllReadyH.nil
          exact AllReadyH.nil
        exact AllReadyH.nil
      exact AllReadyH.nil

theorem even_any (va vb : Value) (a b : List (BitVec 8)) (w : World) (hva : SliceAt w va a) (hvb : SliceAt w vb b) (hma : a.length ≤ 140737488351232) (hmb : b.length ≤ 140737488351232) :
    Calls Try.prog 8 #[va, vb] w fun e w' => e = .returned (.bool true) ∧ Below w.heap.size w w' := by
  by_cases h : b.length < a.length
  · exact even_b va vb a b w hva hvb hma hmb h
  · exact even_a va vb a b w hva hvb hma hmb h

end Go.Proofs.Ytbbanicjlfabgaa
