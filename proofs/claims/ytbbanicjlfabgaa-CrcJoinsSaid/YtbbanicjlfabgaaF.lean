import Derived.Test.YtbbanicjlfabgaaE
import Derived.Test.YtbbanicjlfabgaaN
import Derived.Lib.SlBytesConst
namespace Go.Proofs.Ytbbanicjlfabgaa
set_option linter.unusedVariables false
set_option linter.unusedSimpArgs false
open Go.RowKit

/-- The world of a law: its own table lies in block g; below w's end nothing has turned. -/
structure AI (w wr : World) (g : Nat) : Prop where
  below : Below w.heap.size w wr
  ge : w.heap.size ≤ g
  row : wr.heap[g]? = some (.cells (tabOf word) 24 (0, 0))
theorem AI.lt {w wr : World} {g : Nat} (h : AI w wr g) : g < wr.heap.size := (Array.getElem?_eq_some_iff.1 h.row).1
theorem AI.below' {w wr w1 : World} {g : Nat} (h : AI w wr g) (hb : Below wr.heap.size wr w1) : AI w w1 g :=
  ⟨h.below.trans (hb.mono h.below.size), h.ge, by rw [hb.block _ h.lt]; exact h.row⟩
theorem AI.start {w w1 : World} (h : Below w.heap.size w w1) : AI w ((w1.alloc (.cells (zs 256) 24)).setRow w1.heap.size (tabOf word)) w1.heap.size :=
  ⟨below_setRow (h.alloc h.size _) _ _ h.size, h.size, setRow_heap _ _ _ _ _ _ (Go.heap_alloc_new _ _)⟩

theorem wpList_load_row_g {P : Program} {ops : Array Oper} {rest : List Oper} {o : Oper} {a : Act} {w : World} {Q : Exit → Act → World → Prop} (hgd : Region.wanted o (yielded ops a.tmps) = true) (ty : TypeId) (x : Operand) (ho : o.op = .load ty x)
    (g : Nat) (hx : a.eval x = .pointer (some ⟨g, 0, none⟩)) (t : TypeId) (cs : Array Value) (fr : Nat × Nat) (d : TypeDesc) (hg : w.heap[g]? = some (.cells cs t fr))
    (hu : P.underlying ty = some d) (hd : (match d with | .struct _ | .array _ _ => true | _ => false) = true) (hi : (P.info? ty).map (·.size) = some cs.size)
    (h : wpList P ops Q rest (a.put o.dst (.agg cs)) w) : wpList P ops Q (o :: rest) a w :=
  wpList_step fun _ hK => by
    rw [if_pos hgd]
    exact wp_load_row ty x ho g hx t cs fr d hg hu hd hi (hK _ _ h)

theorem table_word (w : World) :
    Calls Try.prog 11 #[] w fun e w' => e = .returned (.agg (tabOf word)) ∧ Below w.heap.size w w' := tabN_word ▸ table_any w

theorem AI.cells {w wr : World} {g : Nat} (h : AI w wr g) : wr.cell? ⟨g, 1, none⟩ = some (.int .u32 1996959894) ∧ wr.cell? ⟨g, 255, none⟩ = some (.int .u32 755167117) := by
  rw [cell_of_row _ _ _ _ _ _ h.row, cell_of_row _ _ _ _ _ _ h.row, tabOf_get? _ _ (by omega), tabOf_get? _ _ (by omega)]
  have e1 : (word 1).toNat = 1996959894 := by decide +kernel
  have e2 : (word 255).toNat = 755167117 := by decide +kernel
  rw [u32, u32, e1, e2]
  exact ⟨rfl, rfl⟩

theorem sliceAt_new (w : World) (bs : List (BitVec 8)) (cap t : Nat) (fr : Nat × Nat) (hcap : bs.length ≤ cap) : SliceAt (w.alloc (.cells (bs.map u8).toArray t fr)) (.slice (some ⟨w.heap.size, 0, none⟩) bs.length cap) bs :=
  ⟨⟨_, cap, rfl, fun _ => ⟨w.heap.size, 0, rfl, fun i hi => by rw [cell_of_row _ _ _ _ _ _ (Go.heap_alloc_new _ _)]; simp [hi]⟩⟩, fun a n c h => by
    simp only [Value.slice.injEq] at h; omega⟩

theorem sum_c (bs : List (BitVec 8)) (n : Nat) (hn : (more word 0#32 bs).toNat = n) (hl : bs.length ≤ 1000) (fr : Nat × Nat) {w wA : World} {g : Nat} (h : Hid (AI w wA g)) :
    Calls Try.prog 13 #[.agg (tabOf word), .slice (some ⟨wA.heap.size, 0, none⟩) bs.length bs.length] (wA.alloc (.cells (bs.map u8).toArray 5 fr)) fun e w' => e = .returned (.int .u32 n) ∧ Hid (AI w w' g) := by
  refine (sum_any word _ bs _ (sliceAt_new wA bs bs.length 5 fr (Nat.le_refl _)) (by omega)).mono ?_
  rintro e w' ⟨rfl, hb⟩
  exact ⟨by rw [u32, hn], (h.out.below' ((Below.refl _ _).alloc (Nat.le_refl _) _)).below' hb⟩
theorem more_c (s : Nat) (bs : List (BitVec 8)) (n : Nat) (hs : s < 4294967296) (hn : (more word (BitVec.ofNat 32 s) bs).toNat = n) (hl : bs.length ≤ 1000) (fr : Nat × Nat) {w wA : World} {g : Nat} (h : Hid (AI w wA g)) :
    Calls Try.prog 15 #[.agg (tabOf word), .int .u32 s, .slice (some ⟨wA.heap.size, 0, none⟩) bs.length bs.length] (wA.alloc (.cells (bs.map u8).toArray 5 fr)) fun e w' => e = .returned (.int .u32 n) ∧ Hid (AI w w' g) := by
  have e : (BitVec.ofNat 32 s).toNat = s := by rw [BitVec.toNat_ofNat]; omega
  have hc := more_any word (BitVec.ofNat 32 s) _ bs _ (sliceAt_new wA bs bs.length 5 fr (Nat.le_refl _)) (by omega)
  rw [u32, e] at hc
  refine hc.mono ?_
  rintro e w' ⟨rfl, hb⟩
  exact ⟨by rw [u32, hn], (h.out.below' ((Below.refl _ _).alloc (Nat.le_refl _) _)).below' hb⟩
theorem join_c (a b k n : Nat) (ha : a < 4294967296) (hb : b < 4294967296) (hk : k ≤ 65535) (hn : (joinM byte0 (BitVec.ofNat 32 a) k ^^^ BitVec.ofNat 32 b).toNat = n) {w wA : World} {g : Nat} (h : Hid (AI w wA g)) :
    Calls Try.prog 16 #[.int .u32 a, .int .u32 b, .int .i64 k] wA fun e w' => e = .returned (.int .u32 n) ∧ Hid (AI w w' g) := by
  have ea : (BitVec.ofNat 32 a).toNat = a := by rw [BitVec.toNat_ofNat]; omega
  have eb : (BitVec.ofNat 32 b).toNat = b := by rw [BitVec.toNat_ofNat]; omega
  have hc := join_any (BitVec.ofNat 32 a) (BitVec.ofNat 32 b) k hk wA
  rw [u32, u32, ea, eb] at hc
  refine hc.mono ?_
  rintro e w' ⟨rfl, hb⟩
  exact ⟨by rw [u32, hn], h.out.below' hb⟩
theorem join_o (a b : Nat) (k : Int) (ha : a < 4294967296) (hb : b < 4294967296) (hk : k < 0 ∨ 65535 < k) {w wA : World} {g : Nat} (h : Hid (AI w wA g)) :
    Calls Try.prog 16 #[.int .u32 a, .int .u32 b, .int .i64 k] wA fun e w' => e = .returned (.int .u32 0) ∧ Hid (AI w w' g) := by
  have ea : (BitVec.ofNat 32 a).toNat = a := by rw [BitVec.toNat_ofNat]; omega
  have eb : (BitVec.ofNat 32 b).toNat = b := by rw [BitVec.toNat_ofNat]; omega
  have hc := join_out (BitVec.ofNat 32 a) (BitVec.ofNat 32 b) k hk wA
  rw [u32, u32, ea, eb] at hc
  refine hc.mono ?_
  rintro e w' ⟨rfl, hb⟩
  exact ⟨rfl, h.out.below' hb⟩

theorem v1234 : (more word 0#32 [49#8, 50#8, 51#8, 52#8]).toNat = 2615402659 := by decide +kernel
theorem v56789 : (more word 0#32 [53#8, 54#8, 55#8, 56#8, 57#8]).toNat = 320708720 := by decide +kernel
theorem v9 : (more word 0#32 [49#8, 50#8, 51#8, 52#8, 53#8, 54#8, 55#8, 56#8, 57#8]).toNat = 3421780262 := by decide +kernel
theorem vjoin : (joinM byte0 (BitVec.ofNat 32 2615402659) 5 ^^^ BitVec.ofNat 32 320708720).toNat = 3421780262 := by rw [join_eq]; decide +kernel
theorem vmore : (more word (BitVec.ofNat 32 2615402659) [53#8, 54#8, 55#8, 56#8, 57#8]).toNat = 3421780262 := by decide +kernel

set_option maxRecDepth 100000 in
set_option maxHeartbeats 800000 in
theorem alive_any (w : World) :
    Calls Try.prog 10 #[] w fun e w' => e = .returned (.bool true) ∧ Below w.heap.size w w' := by
  have hz := zero24
  have hcv := fun (w : World) (C : Array Value) (n c : Nat) => Lib.run_convert_bytes_const (P := Try.prog) w 28 5 C n c Try.underlying28 Try.underlying5
  go_enter Try.func10, Try.ntmps10
  go_wp2_with (first
    | (go_at_call 11; refine (table_word _).mono ?_; rintro e w1 ⟨rfl, hb1⟩
       have HA := Lib.hid (AI.start hb1)
       clear hb1)
    | (refine wpList_store_row rfl 24 _ _ rfl w1.heap.size (tabOf word) rfl rfl 24 (zs 256) (Go.heap_alloc_new _ _) (size24.trans (by rw [tabOf_size])) (by simp [zs, tabOf_size]) (tabOf_one _) ?_
       generalize (w1.alloc (Obj.cells (zs 256) 24)).setRow w1.heap.size (tabOf word) = wA at *
       generalize w1.heap.size = g at *
       clear w1)
    | (refine wpList_load_row_g rfl 24 _ rfl g rfl 24 (tabOf word) (0, 0) _ HA.out.row Try.underlying24 rfl (size24.trans (by rw [tabOf_size])) ?_))
  refine (sum_c [49#8, 50#8, 51#8, 52#8] _ v1234 (by decide) (4, 5) HA).mono ?_
  clear HA
  rintro e wB ⟨rfl, HA⟩
  obtain ⟨hA1, hA2⟩ := HA.out.cells
  go_wp2_with (first | (refine wpList_load_row_g rfl 24 _ rfl g rfl 24 (tabOf word) (0, 0) _ HA.out.row Try.underlying24 rfl (size24.trans (by rw [tabOf_size])) ?_))
  refine (sum_c [49#8, 50#8, 51#8, 52#8, 53#8, 54#8, 55#8, 56#8, 57#8] _ v9 (by decide) (9, 10) HA).mono ?_
  clear HA hA1 hA2
  rintro e wC ⟨rfl, HA⟩
  go_wp2_with (first | (refine wpList_load_row_g rfl 24 _ rfl g rfl 24 (tabOf word) (0, 0) _ HA.out.row Try.underlying24 rfl (size24.trans (by rw [tabOf_size])) ?_))
  refine (more_c 2615402659 [53#8, 54#8, 55#8, 56#8, 57#8] _ (by decide) vmore (by decide) (5, 6) HA).mono ?_
  clear HA
  rintro e wD ⟨rfl, HA⟩
  go_wp2_with (first | (refine wpList_load_row_g rfl 24 _ rfl g rfl 24 (tabOf word) (0, 0) _ HA.out.row Try.underlying24 rfl (size24.trans (by rw [tabOf_size])) ?_))
  refine (sum_c [53#8, 54#8, 55#8, 56#8, 57#8] _ v56789 (by decide) (5, 6) HA).mono ?_
  clear HA
  rintro e wE ⟨rfl, HA⟩
  go_wp2_with fail
  refine (join_c 2615402659 320708720 5 _ (by decide) (by decide) (by decide) vjoin HA).mono ?_
  clear HA
  rintro e wF ⟨rfl, HA⟩
  go_wp2_with fail
  refine (join_o 1 1 (-1) (by decide) (by decide) (by decide) HA).mono ?_
  clear HA
  rintro e wG ⟨rfl, HA⟩
  go_wp2_with fail
  refine (join_o 1 2 65536 (by decide) (by decide) (by decide) HA).mono ?_
  clear HA
  rintro e wH ⟨rfl, HA⟩
  go_wp2_with fail
  go_ret
  exact ⟨rfl, HA.out.below⟩

end Go.Proofs.Ytbbanicjlfabgaa
