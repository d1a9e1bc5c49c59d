import Derived.Test.YtbbanicjlfabgaaH
namespace Go.Proofs.Ytbbanicjlfabgaa
set_option linter.unusedVariables false
set_option linter.unusedSimpArgs false
open Go.RowKit

def tabL : List Value := (List.range 256).map fun i => u32 (word i)
theorem tabL_eq : tabL.toArray = tabOf word := rfl
theorem tabL_length : tabL.length = 256 := by simp [tabL]
theorem sizeL : (Try.prog.info? 24).map (·.size) = some tabL.length := size24.trans (by rw [tabL_length])
theorem OI.range {v : Value} {bs : List (BitVec 8)} {w wr : World} {g : Nat} (h : OI word v bs w wr g) : wr.rangeAt g 0 tabL := row_range h.row
/-- What a law's region keeps. -/
def Kept (v : Value) (bs : List (BitVec 8)) (w : World) (g : Nat) (wr : World) : Prop := OI word v bs w wr g
theorem Kept.both {v : Value} {bs : List (BitVec 8)} {w wr : World} {g : Nat} (h : OI word v bs w wr g) : Kept v bs w g wr ∧ wr.rangeAt g 0 tabL := ⟨h, h.range⟩
theorem Kept.next {v : Value} {bs : List (BitVec 8)} {w wr w1 : World} {g : Nat} (h : Kept v bs w g wr ∧ wr.rangeAt g 0 tabL) (hb : Below wr.heap.size wr w1) : Kept v bs w g w1 ∧ w1.rangeAt g 0 tabL :=
  Kept.both (OI.next h.1 hb)
theorem Kept.oi {v : Value} {bs : List (BitVec 8)} {w wr : World} {g : Nat} (h : Kept v bs w g wr ∧ wr.rangeAt g 0 tabL) : OI word v bs w wr g := h.1
theorem Kept.drew {v : Value} {bs : List (BitVec 8)} {w wr : World} {g : Nat} (h : OI word v bs w wr g) : Kept v bs w g wr.drew ∧ wr.drew.rangeAt g 0 tabL := Kept.both (h.next ⟨rfl, rfl, rfl, Nat.le_refl _, fun _ _ => rfl⟩)
theorem sumL_any (v : Value) (bs : List (BitVec 8)) (w : World) (hv : SliceAt w v bs) (hm : bs.length ≤ 140737488351232) :
    Calls Try.prog 13 #[.agg tabL.toArray, v] w fun e w' => e = .returned (u32 (refSum bs)) ∧ Below w.heap.size w w' := sumW_any v bs w hv hm
theorem moreL_any (a : List (BitVec 8)) (v : Value) (bs : List (BitVec 8)) (w : World) (hv : SliceAt w v bs) (hm : bs.length ≤ 140737488351232) :
    Calls Try.prog 15 #[.agg tabL.toArray, u32 (refSum a), v] w fun e w' => e = .returned (u32 (refSum (a ++ bs))) ∧ Below w.heap.size w w' := moreW_any a v bs w hv hm
theorem joinL_any (a b : List (BitVec 8)) (n : Int) (hn : n = b.length) (hm : b.length ≤ 65535) (w : World) :
    Calls Try.prog 16 #[u32 (refSum a), u32 (refSum b), .int .i64 n] w fun e w' => e = .returned (u32 (refSum (a ++ b))) ∧ Below w.heap.size w w' := by
  subst hn
  rw [← refSum_append]; exact join_any _ _ _ hm w
theorem SliceAt.take {w : World} {a : Option Addr} {n cap : Nat} {bs : List (BitVec 8)} (h : SliceAt w (.slice a n cap) bs) (k : Nat) (hk : k ≤ bs.length) : SliceAt w (.slice a k cap) (bs.take k) := by
  obtain ⟨a', cap', he, hc⟩ := h.form
  simp only [Value.slice.injEq] at he
  obtain ⟨rfl, rfl, rfl⟩ := he
  refine ⟨⟨a, cap, by rw [List.length_take, Nat.min_eq_left hk], fun h0 => ?_⟩, fun a' n c e => by simp only [Value.slice.injEq] at e; have := h.room a _ cap rfl; omega⟩
  rw [List.length_take, Nat.min_eq_left hk] at h0
  obtain ⟨b, off, rfl, hcell⟩ := hc (by omega)
  refine ⟨b, off, rfl, fun i hi => ?_⟩
  rw [List.length_take, Nat.min_eq_left hk] at hi
  rw [List.getElem_take]; exact hcell i (by omega)

theorem slice_drop (a : Option Addr) (n cap k : Nat) (hk : k ≤ n) (hn : n ≤ cap) :
    ∃ a2, (∀ w, (Instr.slice 28 (.slice a n cap) (some (.int .i64 k)) none none).run Try.prog w = .ok (.slice a2 (n - k) (cap - k)) w) ∧
      ∀ w bs, bs.length = n → SliceAt w (.slice a n cap) bs → SliceAt w (.slice a2 (n - k) (cap - k)) (bs.drop k) := by
  refine ⟨if cap = k then a else a.map (·.add (k * 1)), fun w => ?_, fun w bs hlen h => ?_⟩
  · have h1 : (0 : Int) ≤ k ∧ (k : Int) ≤ n := by omega
    simp [Instr.slice, run_underlying Try.underlying28, Instr.sliceBounds, Instr.sliceBound, asIntOf, go_sem, hk]
  · subst hlen
    obtain ⟨a', cap', he, hc⟩ := h.form
    simp only [Value.slice.injEq] at he
    obtain ⟨rfl, _, rfl⟩ := he
    refine ⟨⟨_, _, by rw [List.length_drop], fun h0 => ?_⟩, fun a' n c e => by simp only [Value.slice.injEq] at e; omega⟩
    rw [List.length_drop] at h0
    obtain ⟨b, off, rfl, hcell⟩ := hc (by omega)
    have hadd : (⟨b, off, none⟩ : Addr).add (k * 1) = ⟨b, off + k, none⟩ := by
      rw [Nat.mul_one]; unfold Addr.add; split <;> simp_all
    refine ⟨b, off + k, by rw [if_neg (by omega), Option.map_some, hadd], fun i hi => ?_⟩
    rw [List.length_drop] at hi
    rw [List.getElem_drop, Nat.add_assoc]
    exact hcell (k + i) (by omega)

set_option maxRecDepth 100000 in
set_option maxHeartbeats 2000000 in
theorem goes_in (v : Value) (bs : List (BitVec 8)) (k : Nat) (w : World) (hv : SliceAt w v bs) (hm : bs.length ≤ 65535) (hk : k ≤ bs.length) :
    Calls Try.prog 7 #[v, .int .i64 k] w fun e w' => e = .returned (.bool true) ∧ Below w.heap.size w w' := by
  have hroom := hv.room
  obtain ⟨a, cap, rfl, hcells⟩ := hv.form
  have hcap := hroom _ _ _ rfl
  obtain ⟨a2, hd1, hd2⟩ := slice_drop a bs.length cap k hk hcap
  have HD : Hid (∀ w, SliceAt w (.slice a bs.length cap) bs → SliceAt w (.slice a2 (bs.length - k) (cap - k)) (bs.drop k)) := fun w h => hd2 w bs rfl h
  have HV := Lib.hid hv
  have hz := zero24
  have k0 : (0 : Int) ≤ (k : Int) := by omega
  have k1 : (k : Int) ≤ (bs.length : Int) := by omega
  have k2 : (bs.length : Int) ≤ 65535 := by omega
  have k3 : (k : Int) ≤ (cap : Int) := by omega
  clear hv hcells hd2 hroom
  go_enter Try.func7, Try.ntmps7
  go_wp2_with (first
    | (go_at_call 11; refine (table_word _).mono ?_; rintro e w1 ⟨rfl, hb1⟩
       have HA : Hid (OI word (.slice a bs.length cap) bs w ((w1.alloc (.cells (zs 256) 24)).setRow w1.heap.size (tabOf word)) w1.heap.size) :=
         ⟨below_setRow (hb1.alloc hb1.size _) _ _ hb1.size, setRow_heap _ _ _ _ _ _ (Go.heap_alloc_new _ _), (HV.out.below hb1).below (below_setRow ((Below.refl _ _).alloc (Nat.le_refl _) _) _ _ (Nat.le_refl _))⟩
       clear hb1)
    | (refine wpList_store_row rfl 24 _ _ rfl w1.heap.size (tabOf word) rfl rfl 24 (zs 256) (Go.heap_alloc_new _ _) (size24.trans (by rw [tabOf_size])) (by simp [zs, tabOf_size]) (tabOf_one _) ?_
       generalize (w1.alloc (Obj.cells (zs 256) 24)).setRow w1.heap.size (tabOf word) = wA at *
       generalize w1.heap.size = g at *
       clear w1))
  have hsL := sizeL
  have huL := Try.underlying24
  have hwr : IntKind.i64.wrap ((bs.length : Int) - (k : Int)) = (bs.length : Int) - (k : Int) := by rw [IntKind.wrap_i64]; omega
  refine wp_region_noPanic ?_
  refine wp_region_held_drew (S := fun w' => Kept (.slice a bs.length cap) bs w g w' ∧ w'.rangeAt g 0 tabL) (by kernel_rfl) ?_ (fun hHeld => ?_)
  · exact Kept.drew HA.out
  refine wpAnyH_take (i := 0) (oi := { dst := some 23, op := Op.load 24 (Operand.tmp 5), type := 24, pos := "outright.go:13", after := #[], guard := none }) rfl (by kernel_rfl) (by kernel_rfl) (by kernel_rfl) (fun _ _ _ h => h) (yieldsIf_load_mid (by rfl) 24 _ rfl g 0 rfl tabL _ (fun _ h => h.2) huL rfl hsL) (by assumption) ?_
  (try simp only [Act.put, List.setIfInBounds_toArray, List.set_cons_zero, List.set_cons_succ])
  refine wpAnyH_take (i := 1) (oi := { dst := some 24, op := Op.move (Operand.tmp 0), type := 28, pos := "outright.go:13", after := #[], guard := none }) (v := ?_) rfl (by kernel_rfl) (by kernel_rfl) (by kernel_rfl) (fun _ _ _ h => h) (Or.inl ⟨by rfl, ?_⟩) (by assumption) ?_
  rotate_left
  · (intro w9 hS9; (try dsimp only at hS9); go_simp); all_goals (with_reducible rfl)
  (try simp only [Act.put, List.setIfInBounds_toArray, List.set_cons_zero, List.set_cons_succ])
  refine wpAnyH_take (i := 3) (oi := { dst := some 26, op := Op.load 24 (Operand.tmp 5), type := 24, pos := "outright.go:13", after := #[], guard := none }) rfl (by kernel_rfl) (by kernel_rfl) (by kernel_rfl) (fun _ _ _ h => h) (yieldsIf_load_mid (by rfl) 24 _ rfl g 0 rfl tabL _ (fun _ h => h.2) huL rfl hsL) (by assumption) ?_
  (try simp only [Act.put, List.setIfInBounds_toArray, List.set_cons_zero, List.set_cons_succ])
  refine wpAnyH_take (i := 4) (oi := { dst := some 27, op := Op.move (Operand.tmp 0), type := 28, pos := "outright.go:13", after := #[], guard := none }) (v := ?_) rfl (by kernel_rfl) (by kernel_rfl) (by kernel_rfl) (fun _ _ _ h => h) (Or.inl ⟨by rfl, ?_⟩) (by assumption) ?_
  rotate_left
  · (intro w9 hS9; (try dsimp only at hS9); go_simp); all_goals (with_reducible rfl)
  (try simp only [Act.put, List.setIfInBounds_toArray, List.set_cons_zero, List.set_cons_succ])
  refine wpAnyH_take (i := 5) (oi := { dst := some 28, op := Op.move (Operand.tmp 1), type := 3, pos := "outright.go:13", after := #[], guard := none }) (v := ?_) rfl (by kernel_rfl) (by kernel_rfl) (by kernel_rfl) (fun _ _ _ h => h) (Or.inl ⟨by rfl, ?_⟩) (by assumption) ?_
  rotate_left
  · (intro w9 hS9; (try dsimp only at hS9); go_simp); all_goals (with_reducible rfl)
  (try simp only [Act.put, List.setIfInBounds_toArray, List.set_cons_zero, List.set_cons_succ])
  refine wpAnyH_take (i := 6) (oi := { dst := some 29, op := Op.slice 28 (Operand.tmp 27) none (some (Operand.tmp 28)) none, type := 28, pos := "outright.go:13", after := #[{ on := 4, ground := Ground.data }, { on := 5, ground := Ground.data }], guard := none }) (v := ?_) rfl (by kernel_rfl) (by kernel_rfl) (by kernel_rfl) (fun _ _ _ h => h) (Or.inl ⟨by rfl, ?_⟩) (by assumption) ?_
  rotate_left
  · (intro w9 hS9; (try dsimp only at hS9); go_simp); all_goals (with_reducible rfl)
  (try simp only [Act.put, List.setIfInBounds_toArray, List.set_cons_zero, List.set_cons_succ])
  refine wpAnyH_ready (rs := [2]) (by kernel_rfl) (by simp) ?_
  refine AllReadyH.cons (o := { dst := some 25, op := Op.call { callee := Callee.value (Operand.func 13), args := #[Operand.tmp 23, Operand.tmp 24], argTypes := #[24, 28] }, type := 23, pos := "outright.go:13", after := #[{ on := 0, ground := Ground.data }, { on := 1, ground := Ground.data }], guard := none }) rfl (fun K hK => ?_) ?_
  · go_simp
    refine (sumL_any _ bs _ (OI.sl (Kept.oi (by assumption))) (by omega)).mono ?_
    rintro e w1 ⟨rfl, hb1⟩
    have hS1 := Kept.next (by assumption) hb1
    clear hb1
    (try go_wp2_with fail)
    refine hK.out _ _ ?_ (fun hHeld => ?_)
    · exact hS1
    clear hK K
    (try simp only [Act.put, List.setIfInBounds_toArray, List.set_cons_zero, List.set_cons_succ])
    refine wpAnyH_ready (rs := [7]) (by kernel_rfl) (by simp) ?_
    refine AllReadyH.cons (o := { dst := some 30, op := Op.call { callee := Callee.value (Operand.func 13), args := #[Operand.tmp 26, Operand.tmp 29], argTypes := #[24, 28] }, type := 23, pos := "outright.go:13", after := #[{ on := 3, ground := Ground.data }, { on := 6, ground := Ground.data }, { on := 2, ground := Ground.chain }], guard := none }) rfl (fun K hK => ?_) ?_
    · go_simp
      refine (sumL_any _ (bs.take k) _ (SliceAt.take (OI.sl (Kept.oi (by assumption))) k hk) (by rw [List.length_take]; omega)).mono ?_
      rintro e w1 ⟨rfl, hb1⟩
      have hS1 := Kept.next (by assumption) hb1
      clear hb1
      (try go_wp2_with fail)
      refine hK.out _ _ ?_ (fun hHeld => ?_)
      · exact hS1
      clear hK K
      (try simp only [Act.put, List.setIfInBounds_toArray, List.set_cons_zero, List.set_cons_succ])
      refine wpAnyH_take (i := 8) (oi := { dst := some 6, op := Op.assign (Operand.tmp 25), type := 23, pos := "outright.go:13", after := #[{ on := 2, ground := Ground.data }, { on := 7, ground := Ground.chain }, { on := 0, ground := Ground.phase }, { on := 1, ground := Ground.phase }, { on := 2, ground := Ground.phase }, { on := 3, ground := Ground.textOnly Departure.lateStores }, { on := 4, ground := Ground.textOnly Departure.lateStores }, { on := 5, ground := Ground.textOnly Departure.lateStores }, { on := 6, ground := Ground.textOnly Departure.lateStoresUnsure }, { on := 7, ground := Ground.textOnly Departure.lateStoresUnsure }], guard := none }) (v := ?_) rfl (by kernel_rfl) (by kernel_rfl) (by kernel_rfl) (fun _ _ _ h => h) (Or.inl ⟨by rfl, ?_⟩) (by assumption) ?_
      rotate_left
      · (intro w9 hS9; (try dsimp only at hS9); go_simp); all_goals (with_reducible rfl)
      (try simp only [Act.put, List.setIfInBounds_toArray, List.set_cons_zero, List.set_cons_succ])
      refine wpAnyH_take (i := 9) (oi := { dst := some 7, op := Op.assign (Operand.tmp 30), type := 23, pos := "outright.go:13", after := #[{ on := 7, ground := Ground.data }, { on := 8, ground := Ground.chain }, { on := 0, ground := Ground.phase }, { on := 1, ground := Ground.phase }, { on := 2, ground := Ground.phase }, { on := 3, ground := Ground.phase }, { on := 4, ground := Ground.phase }, { on := 5, ground := Ground.phase }, { on := 6, ground := Ground.phase }, { on := 7, ground := Ground.phase }, { on := 8, ground := Ground.phase }], guard := none }) (v := ?_) rfl (by kernel_rfl) (by kernel_rfl) (by kernel_rfl) (fun _ _ _ h => h) (Or.inl ⟨by rfl, ?_⟩) (by assumption) ?_
      rotate_left
      · (intro w9 hS9; (try dsimp only at hS9); go_simp); all_goals (with_reducible rfl)
      (try simp only [Act.put, List.setIfInBounds_toArray, List.set_cons_zero, List.set_cons_succ])
      refine wpAnyH_done (by kernel_rfl) (NoPanic.normal ?_) _
      go_wp2_with fail
      refine wp_region_noPanic ?_
      refine wp_region_held_drew (S := fun w' => Kept (.slice a bs.length cap) bs w g w' ∧ w'.rangeAt g 0 tabL) (by kernel_rfl) ?_ (fun hHeld => ?_)
      · exact Kept.drew (Kept.oi (by assumption))
      refine wpAnyH_ready (rs := [0]) (by kernel_rfl) (by simp) ?_
      refine AllReadyH.cons (o := { dst := some 31, op := Op.call { callee := Callee.value (Operand.func 10), args := #[], argTypes := #[] }, type := 4, pos := "outright.go:14", after := #[], guard := none }) rfl (fun K hK => ?_) ?_
      · go_simp
        refine (alive_any _).mono ?_
        rintro e w1 ⟨rfl, hb1⟩
        have hS1 := Kept.next (by assumption) hb1
        clear hb1
        (try go_wp2_with fail)
        refine hK.out _ _ ?_ (fun hHeld => ?_)
        · exact hS1
        clear hK K
        (try simp only [Act.put, List.setIfInBounds_toArray, List.set_cons_zero, List.set_cons_succ])
        refine wpAnyH_take (i := 1) (oi := { dst := some 32, op := Op.move (Operand.tmp 31), type := 4, pos := "outright.go:14", after := #[{ on := 0, ground := Ground.data }, { on := 0, ground := Ground.chain }], guard := none }) (v := ?_) rfl (by kernel_rfl) (by kernel_rfl) (by kernel_rfl) (fun _ _ _ h => h) (Or.inl ⟨by rfl, ?_⟩) (by assumption) ?_
        rotate_left
        · (intro w9 hS9; (try dsimp only at hS9); go_simp); all_goals (with_reducible rfl)
        (try simp only [Act.put, List.setIfInBounds_toArray, List.set_cons_zero, List.set_cons_succ])
        refine wpAnyH_take (i := 2) (oi := { dst := some 33, op := Op.load 24 (Operand.tmp 5), type := 24, pos := "outright.go:14", after := #[{ on := 1, ground := Ground.guard }], guard := some (1, true) }) rfl (by kernel_rfl) (by kernel_rfl) (by kernel_rfl) (fun _ _ _ h => h) (yieldsIf_load_mid (by rfl) 24 _ rfl g 0 rfl tabL _ (fun _ h => h.2) huL rfl hsL) (by assumption) ?_
        (try simp only [Act.put, List.setIfInBounds_toArray, List.set_cons_zero, List.set_cons_succ])
        refine wpAnyH_take (i := 3) (oi := { dst := some 34, op := Op.move (Operand.tmp 7), type := 23, pos := "outright.go:14", after := #[{ on := 1, ground := Ground.guard }], guard := some (1, true) }) (v := ?_) rfl (by kernel_rfl) (by kernel_rfl) (by kernel_rfl) (fun _ _ _ h => h) (Or.inl ⟨by rfl, ?_⟩) (by assumption) ?_
        rotate_left
        · (intro w9 hS9; (try dsimp only at hS9); go_simp); all_goals (with_reducible rfl)
        (try simp only [Act.put, List.setIfInBounds_toArray, List.set_cons_zero, List.set_cons_succ])
        refine wpAnyH_take (i := 4) (oi := { dst := some 35, op := Op.move (Operand.tmp 0), type := 28, pos := "outright.go:14", after := #[{ on := 1, ground := Ground.guard }], guard := some (1, true) }) (v := ?_) rfl (by kernel_rfl) (by kernel_rfl) (by kernel_rfl) (fun _ _ _ h => h) (Or.inl ⟨by rfl, ?_⟩) (by assumption) ?_
        rotate_left
        · (intro w9 hS9; (try dsimp only at hS9); go_simp); all_goals (with_reducible rfl)
        (try simp only [Act.put, List.setIfInBounds_toArray, List.set_cons_zero, List.set_cons_succ])
        refine wpAnyH_take (i := 5) (oi := { dst := some 36, op := Op.move (Operand.tmp 1), type := 3, pos := "outright.go:14", after := #[{ on := 1, ground := Ground.guard }], guard := some (1, true) }) (v := ?_) rfl (by kernel_rfl) (by kernel_rfl) (by kernel_rfl) (fun _ _ _ h => h) (Or.inl ⟨by rfl, ?_⟩) (by assumption) ?_
        rotate_left
        · (intro w9 hS9; (try dsimp only at hS9); go_simp); all_goals (with_reducible rfl)
        (try simp only [Act.put, List.setIfInBounds_toArray, List.set_cons_zero, List.set_cons_succ])
        refine wpAnyH_take (i := 6) (oi := { dst := some 37, op := Op.slice 28 (Operand.tmp 35) (some (Operand.tmp 36)) none none, type := 28, pos := "outright.go:14", after := #[{ on := 4, ground := Ground.data }, { on := 5, ground := Ground.data }, { on := 1, ground := Ground.guard }], guard := some (1, true) }) (v := ?_) rfl (by kernel_rfl) (by kernel_rfl) (by kernel_rfl) (fun _ _ _ h => h) (Or.inl ⟨by rfl, ?_⟩) (by assumption) ?_
        rotate_left
        · (intro w9 hS9; (try dsimp only at hS9); go_simp); all_goals (with_reducible rfl)
        (try simp only [Act.put, List.setIfInBounds_toArray, List.set_cons_zero, List.set_cons_succ])
        refine wpAnyH_take (i := 8) (oi := { dst := some 39, op := Op.move (Operand.tmp 6), type := 23, pos := "outright.go:14", after := #[{ on := 1, ground := Ground.guard }], guard := some (1, true) }) (v := ?_) rfl (by kernel_rfl) (by kernel_rfl) (by kernel_rfl) (fun _ _ _ h => h) (Or.inl ⟨by rfl, ?_⟩) (by assumption) ?_
        rotate_left
        · (intro w9 hS9; (try dsimp only at hS9); go_simp); all_goals (with_reducible rfl)
        (try simp only [Act.put, List.setIfInBounds_toArray, List.set_cons_zero, List.set_cons_succ])
        refine wpAnyH_ready (rs := [7]) (by kernel_rfl) (by simp) ?_
        refine AllReadyH.cons (o := { dst := some 38, op := Op.call { callee := Callee.value (Operand.func 15), args := #[Operand.tmp 33, Operand.tmp 34, Operand.tmp 37], argTypes := #[24, 23, 28] }, type := 23, pos := "outright.go:14", after := #[{ on := 2, ground := Ground.data }, { on := 3, ground := Ground.data }, { on := 6, ground := Ground.data }, { on := 1, ground := Ground.chain }, { on := 1, ground := Ground.guard }], guard := some (1, true) }) rfl (fun K hK => ?_) ?_
        · go_simp
          refine (moreL_any (bs.take k) _ (bs.drop k) _ (HD.out _ (OI.sl (Kept.oi (by assumption)))) (by rw [List.length_drop]; omega)).mono ?_
          rintro e w1 ⟨rfl, hb1⟩
          have hS1 := Kept.next (by assumption) hb1
          rw [List.take_append_drop]
          clear hb1
          (try go_wp2_with fail)
          refine hK.out _ _ ?_ (fun hHeld => ?_)
          · exact hS1
          clear hK K
          (try simp only [Act.put, List.setIfInBounds_toArray, List.set_cons_zero, List.set_cons_succ])
          refine wpAnyH_take (i := 9) (oi := { dst := some 40, op := Op.binOp BinOp.eql 23 (Operand.tmp 38) (Operand.tmp 39) 23, type := 4, pos := "outright.go:14", after := #[{ on := 7, ground := Ground.data }, { on := 8, ground := Ground.data }, { on := 1, ground := Ground.guard }], guard := some (1, true) }) (v := ?_) rfl (by kernel_rfl) (by kernel_rfl) (by kernel_rfl) (fun _ _ _ h => h) (Or.inl ⟨by rfl, ?_⟩) (by assumption) ?_
          rotate_left
          · (intro w9 hS9; (try dsimp only at hS9); go_simp); all_goals (with_reducible rfl)
          (try simp only [Act.put, List.setIfInBounds_toArray, List.set_cons_zero, List.set_cons_succ])
          refine wpAnyH_take (i := 10) (oi := { dst := some 41, op := Op.pick (Operand.tmp 32) (Operand.tmp 40) (Operand.const (Value.bool false)), type := 4, pos := "outright.go:14", after := #[{ on := 1, ground := Ground.data }, { on := 9, ground := Ground.data }], guard := none }) (v := ?_) rfl (by kernel_rfl) (by kernel_rfl) (by kernel_rfl) (fun _ _ _ h => h) (Or.inl ⟨by rfl, ?_⟩) (by assumption) ?_
          rotate_left
          · (intro w9 hS9; (try dsimp only at hS9); go_simp); all_goals (with_reducible rfl)
          (try simp only [Act.put, List.setIfInBounds_toArray, List.set_cons_zero, List.set_cons_succ])
          refine wpAnyH_take (i := 11) (oi := { dst := some 42, op := Op.move (Operand.tmp 41), type := 4, pos := "outright.go:14", after := #[{ on := 10, ground := Ground.data }, { on := 7, ground := Ground.chain }], guard := none }) (v := ?_) rfl (by kernel_rfl) (by kernel_rfl) (by kernel_rfl) (fun _ _ _ h => h) (Or.inl ⟨by rfl, ?_⟩) (by assumption) ?_
          rotate_left
          · (intro w9 hS9; (try dsimp only at hS9); go_simp); all_goals (with_reducible rfl)
          (try simp only [Act.put, List.setIfInBounds_toArray, List.set_cons_zero, List.set_cons_succ])
          refine wpAnyH_take (i := 12) (oi := { dst := some 43, op := Op.move (Operand.tmp 7), type := 23, pos := "outright.go:14", after := #[{ on := 11, ground := Ground.guard }], guard := some (11, true) }) (v := ?_) rfl (by kernel_rfl) (by kernel_rfl) (by kernel_rfl) (fun _ _ _ h => h) (Or.inl ⟨by rfl, ?_⟩) (by assumption) ?_
          rotate_left
          · (intro w9 hS9; (try dsimp only at hS9); go_simp); all_goals (with_reducible rfl)
          (try simp only [Act.put, List.setIfInBounds_toArray, List.set_cons_zero, List.set_cons_succ])
          refine wpAnyH_take (i := 13) (oi := { dst := some 44, op := Op.load 24 (Operand.tmp 5), type := 24, pos := "outright.go:14", after := #[{ on := 11, ground := Ground.guard }], guard := some (11, true) }) rfl (by kernel_rfl) (by kernel_rfl) (by kernel_rfl) (fun _ _ _ h => h) (yieldsIf_load_mid (by rfl) 24 _ rfl g 0 rfl tabL _ (fun _ h => h.2) huL rfl hsL) (by assumption) ?_
          (try simp only [Act.put, List.setIfInBounds_toArray, List.set_cons_zero, List.set_cons_succ])
          refine wpAnyH_take (i := 14) (oi := { dst := some 45, op := Op.move (Operand.tmp 0), type := 28, pos := "outright.go:14", after := #[{ on := 11, ground := Ground.guard }], guard := some (11, true) }) (v := ?_) rfl (by kernel_rfl) (by kernel_rfl) (by kernel_rfl) (fun _ _ _ h => h) (Or.inl ⟨by rfl, ?_⟩) (by assumption) ?_
          rotate_left
          · (intro w9 hS9; (try dsimp only at hS9); go_simp); all_goals (with_reducible rfl)
          (try simp only [Act.put, List.setIfInBounds_toArray, List.set_cons_zero, List.set_cons_succ])
          refine wpAnyH_take (i := 15) (oi := { dst := some 46, op := Op.move (Operand.tmp 1), type := 3, pos := "outright.go:14", after := #[{ on := 11, ground := Ground.guard }], guard := some (11, true) }) (v := ?_) rfl (by kernel_rfl) (by kernel_rfl) (by kernel_rfl) (fun _ _ _ h => h) (Or.inl ⟨by rfl, ?_⟩) (by assumption) ?_
          rotate_left
          · (intro w9 hS9; (try dsimp only at hS9); go_simp); all_goals (with_reducible rfl)
          (try simp only [Act.put, List.setIfInBounds_toArray, List.set_cons_zero, List.set_cons_succ])
          refine wpAnyH_take (i := 16) (oi := { dst := some 47, op := Op.slice 28 (Operand.tmp 45) (some (Operand.tmp 46)) none none, type := 28, pos := "outright.go:14", after := #[{ on := 14, ground := Ground.data }, { on := 15, ground := Ground.data }, { on := 11, ground := Ground.guard }], guard := some (11, true) }) (v := ?_) rfl (by kernel_rfl) (by kernel_rfl) (by kernel_rfl) (fun _ _ _ h => h) (Or.inl ⟨by rfl, ?_⟩) (by assumption) ?_
          rotate_left
          · (intro w9 hS9; (try dsimp only at hS9); go_simp); all_goals (with_reducible rfl)
          (try simp only [Act.put, List.setIfInBounds_toArray, List.set_cons_zero, List.set_cons_succ])
          refine wpAnyH_take (i := 18) (oi := { dst := some 49, op := Op.move (Operand.tmp 0), type := 28, pos := "outright.go:14", after := #[{ on := 11, ground := Ground.guard }], guard := some (11, true) }) (v := ?_) rfl (by kernel_rfl) (by kernel_rfl) (by kernel_rfl) (fun _ _ _ h => h) (Or.inl ⟨by rfl, ?_⟩) (by assumption) ?_
          rotate_left
          · (intro w9 hS9; (try dsimp only at hS9); go_simp); all_goals (with_reducible rfl)
          (try simp only [Act.put, List.setIfInBounds_toArray, List.set_cons_zero, List.set_cons_succ])
          refine wpAnyH_take (i := 19) (oi := { dst := some 50, op := Op.call { callee := Callee.builtin Builtin.len, args := #[Operand.tmp 49], argTypes := #[28] }, type := 3, pos := "outright.go:14", after := #[{ on := 18, ground := Ground.data }, { on := 11, ground := Ground.guard }], guard := some (11, true) }) (v := ?_) rfl (by kernel_rfl) (by kernel_rfl) (by kernel_rfl) (fun _ _ _ h => h) (Or.inl ⟨by rfl, ?_⟩) (by assumption) ?_
          rotate_left
          · (intro w9 hS9; (try dsimp only at hS9); go_simp); all_goals (with_reducible rfl)
          (try simp only [Act.put, List.setIfInBounds_toArray, List.set_cons_zero, List.set_cons_succ])
          refine wpAnyH_take (i := 20) (oi := { dst := some 51, op := Op.move (Operand.tmp 1), type := 3, pos := "outright.go:14", after := #[{ on := 11, ground := Ground.guard }], guard := some (11, true) }) (v := ?_) rfl (by kernel_rfl) (by kernel_rfl) (by kernel_rfl) (fun _ _ _ h => h) (Or.inl ⟨by rfl, ?_⟩) (by assumption) ?_
          rotate_left
          · (intro w9 hS9; (try dsimp only at hS9); go_simp); all_goals (with_reducible rfl)
          (try simp only [Act.put, List.setIfInBounds_toArray, List.set_cons_zero, List.set_cons_succ])
          refine wpAnyH_take (i := 21) (oi := { dst := some 52, op := Op.binOp BinOp.sub 3 (Operand.tmp 50) (Operand.tmp 51) 3, type := 3, pos := "outright.go:14", after := #[{ on := 19, ground := Ground.data }, { on := 20, ground := Ground.data }, { on := 11, ground := Ground.guard }], guard := some (11, true) }) (v := ?_) rfl (by kernel_rfl) (by kernel_rfl) (by kernel_rfl) (fun _ _ _ h => h) (Or.inl ⟨by rfl, ?_⟩) (by assumption) ?_
          rotate_left
          · (intro w9 hS9; (try dsimp only at hS9); go_simp); all_goals (with_reducible rfl)
          (try simp only [Act.put, List.setIfInBounds_toArray, List.set_cons_zero, List.set_cons_succ])
          refine wpAnyH_take (i := 23) (oi := { dst := some 54, op := Op.move (Operand.tmp 6), type := 23, pos := "outright.go:14", after := #[{ on := 11, ground := Ground.guard }], guard := some (11, true) }) (v := ?_) rfl (by kernel_rfl) (by kernel_rfl) (by kernel_rfl) (fun _ _ _ h => h) (Or.inl ⟨by rfl, ?_⟩) (by assumption) ?_
          rotate_left
          · (intro w9 hS9; (try dsimp only at hS9); go_simp); all_goals (with_reducible rfl)
          (try simp only [Act.put, List.setIfInBounds_toArray, List.set_cons_zero, List.set_cons_succ])
          refine wpAnyH_ready (rs := [17]) (by kernel_rfl) (by simp) ?_
          refine AllReadyH.cons (o := { dst := some 48, op := Op.call { callee := Callee.value (Operand.func 13), args := #[Operand.tmp 44, Operand.tmp 47], argTypes := #[24, 28] }, type := 23, pos := "outright.go:14", after := #[{ on := 13, ground := Ground.data }, { on := 16, ground := Ground.data }, { on := 11, ground := Ground.chain }, { on := 11, ground := Ground.guard }], guard := some (11, true) }) rfl (fun K hK => ?_) ?_
          · go_simp
            refine (sumL_any _ (bs.drop k) _ (HD.out _ (OI.sl (Kept.oi (by assumption)))) (by rw [List.length_drop]; omega)).mono ?_
            rintro e w1 ⟨rfl, hb1⟩
            have hS1 := Kept.next (by assumption) hb1
            clear hb1
            (try go_wp2_with fail)
            refine hK.out _ _ ?_ (fun hHeld => ?_)
            · exact hS1
            clear hK K
            (try simp only [Act.put, List.setIfInBounds_toArray, List.set_cons_zero, List.set_cons_succ])
            refine wpAnyH_ready (rs := [22]) (by kernel_rfl) (by simp) ?_
            refine AllReadyH.cons (o := { dst := some 53, op := Op.call { callee := Callee.value (Operand.func 16), args := #[Operand.tmp 43, Operand.tmp 48, Operand.tmp 52], argTypes := #[23, 23, 3] }, type := 23, pos := "outright.go:14", after := #[{ on := 12, ground := Ground.data }, { on := 17, ground := Ground.data }, { on := 21, ground := Ground.data }, { on := 17, ground := Ground.chain }, { on := 11, ground := Ground.guard }], guard := some (11, true) }) rfl (fun K hK => ?_) ?_
            · go_simp
              refine (joinL_any (bs.take k) (bs.drop k) _ (by rw [List.length_drop]; omega) (by rw [List.length_drop]; omega) _).mono ?_
              rintro e w1 ⟨rfl, hb1⟩
              have hS1 := Kept.next (by assumption) hb1
              rw [List.take_append_drop]
              clear hb1
              (try go_wp2_with fail)
              refine hK.out _ _ ?_ (fun hHeld => ?_)
              · exact hS1
              clear hK K
              (try simp only [Act.put, List.setIfInBounds_toArray, List.set_cons_zero, List.set_cons_succ])
              refine wpAnyH_take (i := 24) (oi := { dst := some 55, op := Op.binOp BinOp.eql 23 (Operand.tmp 53) (Operand.tmp 54) 23, type := 4, pos := "outright.go:14", after := #[{ on := 22, ground := Ground.data }, { on := 23, ground := Ground.data }, { on := 11, ground := Ground.guard }], guard := some (11, true) }) (v := ?_) rfl (by kernel_rfl) (by kernel_rfl) (by kernel_rfl) (fun _ _ _ h => h) (Or.inl ⟨by rfl, ?_⟩) (by assumption) ?_
              rotate_left
              · (intro w9 hS9; (try dsimp only at hS9); go_simp); all_goals (with_reducible rfl)
              (try simp only [Act.put, List.setIfInBounds_toArray, List.set_cons_zero, List.set_cons_succ])
              refine wpAnyH_take (i := 25) (oi := { dst := some 56, op := Op.pick (Operand.tmp 42) (Operand.tmp 55) (Operand.const (Value.bool false)), type := 4, pos := "outright.go:14", after := #[{ on := 11, ground := Ground.data }, { on := 24, ground := Ground.data }], guard := none }) (v := ?_) rfl (by kernel_rfl) (by kernel_rfl) (by kernel_rfl) (fun _ _ _ h => h) (Or.inl ⟨by rfl, ?_⟩) (by assumption) ?_
              rotate_left
              · (intro w9 hS9; (try dsimp only at hS9); go_simp); all_goals (with_reducible rfl)
              (try simp only [Act.put, List.setIfInBounds_toArray, List.set_cons_zero, List.set_cons_succ])
              refine wpAnyH_take (i := 26) (oi := { dst := some 57, op := Op.move (Operand.tmp 56), type := 4, pos := "outright.go:14", after := #[{ on := 25, ground := Ground.data }, { on := 22, ground := Ground.chain }], guard := none }) (v := ?_) rfl (by kernel_rfl) (by kernel_rfl) (by kernel_rfl) (fun _ _ _ h => h) (Or.inl ⟨by rfl, ?_⟩) (by assumption) ?_
              rotate_left
              · (intro w9 hS9; (try dsimp only at hS9); go_simp); all_goals (with_reducible rfl)
              (try simp only [Act.put, List.setIfInBounds_toArray, List.set_cons_zero, List.set_cons_succ])
              refine wpAnyH_take (i := 27) (oi := { dst := some 58, op := Op.load 24 (Operand.tmp 5), type := 24, pos := "outright.go:14", after := #[{ on := 26, ground := Ground.guard }], guard := some (26, true) }) rfl (by kernel_rfl) (by kernel_rfl) (by kernel_rfl) (fun _ _ _ h => h) (yieldsIf_load_mid (by rfl) 24 _ rfl g 0 rfl tabL _ (fun _ h => h.2) huL rfl hsL) (by assumption) ?_
              (try simp only [Act.put, List.setIfInBounds_toArray, List.set_cons_zero, List.set_cons_succ])
              refine wpAnyH_take (i := 28) (oi := { dst := some 59, op := Op.move (Operand.tmp 6), type := 23, pos := "outright.go:14", after := #[{ on := 26, ground := Ground.guard }], guard := some (26, true) }) (v := ?_) rfl (by kernel_rfl) (by kernel_rfl) (by kernel_rfl) (fun _ _ _ h => h) (Or.inl ⟨by rfl, ?_⟩) (by assumption) ?_
              rotate_left
              · (intro w9 hS9; (try dsimp only at hS9); go_simp); all_goals (with_reducible rfl)
              (try simp only [Act.put, List.setIfInBounds_toArray, List.set_cons_zero, List.set_cons_succ])
              refine wpAnyH_take (i := 30) (oi := { dst := some 61, op := Op.move (Operand.tmp 6), type := 23, pos := "outright.go:14", after := #[{ on := 26, ground := Ground.guard }], guard := some (26, true) }) (v := ?_) rfl (by kernel_rfl) (by kernel_rfl) (by kernel_rfl) (fun _ _ _ h => h) (Or.inl ⟨by rfl, ?_⟩) (by assumption) ?_
              rotate_left
              · (intro w9 hS9; (try dsimp only at hS9); go_simp); all_goals (with_reducible rfl)
              (try simp only [Act.put, List.setIfInBounds_toArray, List.set_cons_zero, List.set_cons_succ])
              refine wpAnyH_ready (rs := [29]) (by kernel_rfl) (by simp) ?_
              refine AllReadyH.cons (o := { dst := some 60, op := Op.call { callee := Callee.value (Operand.func 15), args := #[Operand.tmp 58, Operand.tmp 59, Operand.const (Value.slice none 0 0)], argTypes := #[24, 23, 28] }, type := 23, pos := "outright.go:14", after := #[{ on := 27, ground := Ground.data }, { on := 28, ground := Ground.data }, { on := 26, ground := Ground.chain }, { on := 26, ground := Ground.guard }], guard := some (26, true) }) rfl (fun K hK => ?_) ?_
              · go_simp
                refine (moreL_any bs _ [] _ (sliceAt_nil _) (by simp)).mono ?_
                rintro e w1 ⟨rfl, hb1⟩
                have hS1 := Kept.next (by assumption) hb1
                rw [List.append_nil]
                clear hb1
                (try go_wp2_with fail)
                refine hK.out _ _ ?_ (fun hHeld => ?_)
                · exact hS1
                clear hK K
                (try simp only [Act.put, List.setIfInBounds_toArray, List.set_cons_zero, List.set_cons_succ])
                refine wpAnyH_take (i := 31) (oi := { dst := some 62, op := Op.binOp BinOp.eql 23 (Operand.tmp 60) (Operand.tmp 61) 23, type := 4, pos := "outright.go:14", after := #[{ on := 29, ground := Ground.data }, { on := 30, ground := Ground.data }, { on := 26, ground := Ground.guard }], guard := some (26, true) }) (v := ?_) rfl (by kernel_rfl) (by kernel_rfl) (by kernel_rfl) (fun _ _ _ h => h) (Or.inl ⟨by rfl, ?_⟩) (by assumption) ?_
                rotate_left
                · (intro w9 hS9; (try dsimp only at hS9); go_simp); all_goals (with_reducible rfl)
                (try simp only [Act.put, List.setIfInBounds_toArray, List.set_cons_zero, List.set_cons_succ])
                refine wpAnyH_take (i := 32) (oi := { dst := some 63, op := Op.pick (Operand.tmp 57) (Operand.tmp 62) (Operand.const (Value.bool false)), type := 4, pos := "outright.go:14", after := #[{ on := 26, ground := Ground.data }, { on := 31, ground := Ground.data }], guard := none }) (v := ?_) rfl (by kernel_rfl) (by kernel_rfl) (by kernel_rfl) (fun _ _ _ h => h) (Or.inl ⟨by rfl, ?_⟩) (by assumption) ?_
                rotate_left
                · (intro w9 hS9; (try dsimp only at hS9); go_simp); all_goals (with_reducible rfl)
                (try simp only [Act.put, List.setIfInBounds_toArray, List.set_cons_zero, List.set_cons_succ])
                refine wpAnyH_take (i := 33) (oi := { dst := some 4, op := Op.assign (Operand.tmp 63), type := 4, pos := "outright.go:14", after := #[{ on := 32, ground := Ground.data }, { on := 29, ground := Ground.chain }, { on := 0, ground := Ground.phase }, { on := 1, ground := Ground.phase }, { on := 2, ground := Ground.phase }, { on := 3, ground := Ground.phase }, { on := 4, ground := Ground.phase }, { on := 5, ground := Ground.phase }, { on := 6, ground := Ground.phase }, { on := 7, ground := Ground.phase }, { on := 8, ground := Ground.phase }, { on := 9, ground := Ground.phase }, { on := 10, ground := Ground.phase }, { on := 11, ground := Ground.phase }, { on := 12, ground := Ground.phase }, { on := 13, ground := Ground.phase }, { on := 14, ground := Ground.phase }, { on := 15, ground := Ground.phase }, { on := 16, ground := Ground.phase }, { on := 17, ground := Ground.phase }, { on := 18, ground := Ground.phase }, { on := 19, ground := Ground.phase }, { on := 20, ground := Ground.phase }, { on := 21, ground := Ground.phase }, { on := 22, ground := Ground.phase }, { on := 23, ground := Ground.phase }, { on := 24, ground := Ground.phase }, { on := 25, ground := Ground.phase }, { on := 26, ground := Ground.phase }, { on := 27, ground := Ground.phase }, { on := 28, ground := Ground.phase }, { on := 29, ground := Ground.phase }, { on := 30, ground := Ground.phase }, { on := 31, ground := Ground.phase }, { on := 32, ground := Ground.phase }], guard := none }) (v := ?_) rfl (by kernel_rfl) (by kernel_rfl) (by kernel_rfl) (fun _ _ _ h => h) (Or.inl ⟨by rfl, ?_⟩) (by assumption) ?_
                rotate_left
                · (intro w9 hS9; (try dsimp only at hS9); go_simp); all_goals (with_reducible rfl)
                (try simp only [Act.put, List.setIfInBounds_toArray, List.set_cons_zero, List.set_cons_succ])
                refine wpAnyH_done (by kernel_rfl) (NoPanic.normal ?_) _
                go_wp2_with fail
                go_ret
                exact ⟨rfl, (Kept.oi hS1).below⟩
              exact AllReadyH.nil
            exact AllReadyH.nil
          exact AllReadyH.nil
        exact AllReadyH.nil
      exact AllReadyH.nil
    exact AllReadyH.nil
  exact AllReadyH.nil

set_option maxRecDepth 100000 in
set_option maxHeartbeats 400000 in
theorem goes_out (v : Value) (bs : List (BitVec 8)) (k : Int) (w : World) (hv : SliceAt w v bs) (hm : bs.length ≤ 140737488351232) (hk : k < 0 ∨ (bs.length : Int) < k ∨ 65535 < (bs.length : Int)) :
    Calls Try.prog 7 #[v, .int .i64 k] w fun e w' => e = .returned (.bool true) ∧ Below w.heap.size w w' := by
  obtain ⟨a, cap, rfl, hcells⟩ := hv.form
  have hz := zero24
  have hd : (decide (k < 0) || (decide ((bs.length : Int) < k) || decide (65535 < (bs.length : Int)))) = true := by simp; omega
  have key : Hid (decide (k < 0) = true ∨ (decide (k < 0) = false ∧ decide ((bs.length : Int) < k) = true) ∨ (decide (k < 0) = false ∧ decide ((bs.length : Int) < k) = false ∧ decide (65535 < (bs.length : Int)) = true)) := by
    show _ ∨ _
    simp; omega
  clear hv hcells hd hk
  rcases key.out with h1 | ⟨h1, h2⟩ | ⟨h1, h2, h3⟩ <;> clear key
  all_goals
    simp only [decide_eq_true_eq, decide_eq_false_iff_not] at *
    go_enter Try.func7, Try.ntmps7
    go_wp2_with (first
      | (go_at_call 11; refine (table_word _).mono ?_; rintro e w1 ⟨rfl, hb1⟩
         have HB := Lib.hid hb1
         clear hb1)
      | (refine wpList_store_row rfl 24 _ _ rfl w1.heap.size (tabOf word) rfl rfl 24 (zs 256) (Go.heap_alloc_new _ _) (size24.trans (by rw [tabOf_size])) (by simp [zs, tabOf_size]) (tabOf_one _) ?_
         have HA : Hid (Below w.heap.size w ((w1.alloc (Obj.cells (zs 256) 24)).setRow w1.heap.size (tabOf word))) := below_setRow (HB.out.alloc HB.out.size _) _ _ HB.out.size
         generalize (w1.alloc (Obj.cells (zs 256) 24)).setRow w1.heap.size (tabOf word) = wA at *
         generalize w1.heap.size = g at *
         clear HB w1)
      | (go_at_call 10; refine (alive_any _).mono ?_; rintro e w2 ⟨rfl, hb2⟩
         have HC := Lib.hid (below_next HA.out hb2)
         clear hb2))
    go_ret
    exact ⟨rfl, HC.out⟩

theorem goes_any (v : Value) (bs : List (BitVec 8)) (k : Int) (w : World) (hv : SliceAt w v bs) (hm : bs.length ≤ 140737488351232) :
    Calls Try.prog 7 #[v, .int .i64 k] w fun e w' => e = .returned (.bool true) ∧ Below w.heap.size w w' := by
  by_cases h : k < 0 ∨ (bs.length : Int) < k ∨ 65535 < (bs.length : Int)
  · exact goes_out v bs k w hv hm h
  · obtain ⟨n, rfl⟩ := Int.eq_ofNat_of_zero_le (show 0 ≤ k by omega)
    exact goes_in v bs n w hv (by omega) (by omega)

end Go.Proofs.Ytbbanicjlfabgaa
