import Derived.Test.YtcaeaepnobbjlaaF
namespace Go.Proofs.Ytcaeaepnobbjlaa
set_option linter.unusedVariables false
set_option linter.unusedSimpArgs false
open Go.RowKit

theorem size27 : (Try.prog.info? 27).map (·.size) = some 2 := by kernel_rfl
def rowL (f : Nat → Nat) : List Value := (List.range 128).map fun i => .int .u64 (f i : Int)
theorem rowL_eq (f : Nat → Nat) : (rowL f).toArray = bitsA f := rfl
theorem rowL_length (f : Nat → Nat) : (rowL f).length = 128 := by simp [rowL]
theorem row_range {w : World} {g t : Nat} {cs : List Value} {fr : Nat × Nat} (h : w.heap[g]? = some (.cells cs.toArray t fr)) : w.rangeAt g 0 cs := fun j v hv => by
  rw [cell_of_row w g (0 + j) cs.toArray t fr h]; simpa using hv

theorem one2 (a b : Int) : (#[Value.int .u64 a, .int .u64 b] : Array Value).all (·.oneCell') = true := by
  simp
  exact ⟨rfl, rfl⟩
/-- Blocks of two words each: the block, its type, its words. -/
structure Boxes (w W : World) (bs : List (Nat × Nat × Nat × Nat)) : Prop where
  below : Below w.heap.size w W
  all : ∀ x ∈ bs, W.heap[x.1]? = some (.cells #[.int .u64 (x.2.2.1 : Int), .int .u64 (x.2.2.2 : Int)] x.2.1 (0, 0))
theorem Boxes.next {w W V : World} {bs : List (Nat × Nat × Nat × Nat)} (h : Boxes w W bs) (hb : Below W.heap.size W V) : Boxes w V bs :=
  ⟨h.below.trans (hb.mono h.below.size), fun x hx => old_below hb (h.all x hx)⟩
theorem Boxes.row {w W : World} {bs : List (Nat × Nat × Nat × Nat)} (h : Boxes w W bs) (g : Nat) (cs : Array Value) (hg : w.heap.size ≤ g) (hn : ∀ x ∈ bs, x.1 ≠ g) : Boxes w (W.setRow g cs) bs :=
  ⟨below_setRow h.below g cs hg, fun x hx => old_row cs (hn x hx) (h.all x hx)⟩
theorem Boxes.set {w W : World} {bs : List (Nat × Nat × Nat × Nat)} (h : Boxes w W bs) (p : Addr) (v : Value) (hg : w.heap.size ≤ p.block) (hn : ∀ x ∈ bs, x.1 ≠ p.block) : Boxes w (W.setCell p v) bs :=
  ⟨h.below.setCell hg v, fun x hx => old_set v (hn x hx) (h.all x hx)⟩
abbrev SB (w : World) (ah al bh bl : Nat) : List (Nat × Nat × Nat × Nat) := [(w.heap.size, 27, ah, al), (w.heap.size + 1, 27, bh, bl), (w.heap.size + 1 + 1, 27, 0, 0)]
abbrev SC (w : World) (ah al bh bl b8 s t : Nat) : List (Nat × Nat × Nat × Nat) := [(w.heap.size, 27, ah, al), (w.heap.size + 1, 27, bh, bl), (b8, 27, s, t)]
/-- The same, and the result's block, whatever it holds. -/
structure RB (w W : World) (bs : List (Nat × Nat × Nat × Nat)) : Prop where
  boxes : Boxes w W bs
  res : ∃ p q, W.heap[w.heap.size + 1 + 1]? = some (.cells #[p, q] 27 (0, 0))
theorem RB.next {w W V : World} {bs : List (Nat × Nat × Nat × Nat)} (h : RB w W bs) (hb : Below W.heap.size W V) : RB w V bs := by
  obtain ⟨p, q, hr⟩ := h.res
  exact ⟨h.boxes.next hb, p, q, old_below hb hr⟩
theorem RB.row {w W : World} {ah al bh bl b8 s t : Nat} (h : RB w W (SC w ah al bh bl b8 s t)) (cs : Array Value) (hl : w.heap.size + 3 ≤ b8) (hcs : cs = #[.int .u64 s, .int .u64 t] := by rfl) :
    RB w (W.setRow (w.heap.size + 1 + 1) cs) (SC w ah al bh bl b8 s t) := by
  obtain ⟨p, q, hr⟩ := h.res
  refine ⟨h.boxes.row _ _ (by omega) ?_, _, _, by rw [hcs]; exact setRow_heap _ _ #[p, q] _ 27 (0, 0) hr⟩
  intro x hx
  simp only [SC, List.mem_cons, List.not_mem_nil, or_false] at hx
  rcases hx with rfl | rfl | rfl <;> (simp; try omega)
/-- 1 minus each bit of a row. -/
def flip (g : Nat → Nat) (k : Nat) : Nat → Nat := fun j => if j < k then 1 - g j else g j
theorem flip_zero (g : Nat → Nat) : bitsA (flip g 0) = bitsA g := bitsA_congr fun j hj => if_neg (by omega)
theorem flip_succ (g : Nat → Nat) (k : Nat) : bitsA (upd (flip g k) k (1 - g k)) = bitsA (flip g (k + 1)) := by
  refine bitsA_congr fun j hj => ?_
  unfold upd flip
  by_cases e : j = k
  · subst e; rw [if_pos rfl, if_pos (by omega)]
  · rw [if_neg e]
    by_cases c : j < k
    · rw [if_pos c, if_pos (by omega)]
    · rw [if_neg c, if_neg (by omega)]
theorem flip_at (g : Nat → Nat) (k : Nat) : flip g k k = g k := if_neg (by omega)
theorem flip_all (g : Nat → Nat) : bitsA (flip g 128) = bitsA (fun j => 1 - g j) := bitsA_congr fun j hj => if_pos hj

structure SubI (w wr : World) (ah al bh bl : Nat) (g : Nat → Nat) (k b6 : Nat) : Prop where
  boxes : Boxes w wr (SB w ah al bh bl)
  row : wr.heap[b6]? = some (.cells (bitsA (flip g k)) 85 (0, 0))
  l6 : w.heap.size + 3 ≤ b6
theorem SubI.cell {w wr : World} {ah al bh bl : Nat} {g : Nat → Nat} {k b6 : Nat} (h : SubI w wr ah al bh bl g k b6) (j : Nat) (hk : k < 128) (hj : j = k := by rfl) :
    wr.cell? ⟨b6, k, none⟩ = some (.int .u64 (g k)) ∧ wr.frozen? ⟨b6, k, none⟩ = false :=
  ⟨by rw [cell_of_row _ _ _ _ _ _ h.row, bitsA_get? _ k hk, flip_at], frozen_of_row _ _ _ _ _ h.row⟩
theorem SubI.store {w wr : World} {ah al bh bl : Nat} {g : Nat → Nat} {k b6 : Nat} (h : SubI w wr ah al bh bl g k b6) (j : Nat) (hj : j = k := by rfl) :
    SubI w (wr.setCell ⟨b6, k, none⟩ (.int .u64 ((1 - g k : Nat) : Int))) ah al bh bl g (k + 1) b6 := by
  have hl := h.l6
  refine ⟨h.boxes.set _ _ (by simp; omega) ?_, ?_, hl⟩
  · intro x hx
    simp only [SB, List.mem_cons, List.not_mem_nil, or_false] at hx
    rcases hx with rfl | rfl | rfl <;> (simp; omega)
  · rw [← flip_succ, ← bitsA_set]; exact heap_setCell_same _ _ _ _ _ _ h.row

set_option maxRecDepth 100000 in
set_option maxHeartbeats 8000000 in
theorem refsub_walk (ah al bh bl : Nat) (f g : Nat → Nat) (hb : ∀ w, Calls Try.prog 70 #[wv bh bl] w fun e w' => e = .returned (.agg (bitsA g)) ∧ Below w.heap.size w w') (s1 t1 s2 t2 s3 t3 : Nat) (o1 o2 o3 : Bool) (c : Int)
    (hg : ∀ i, g i ≤ 1) (hfg : bitsA f = bitsA (fun j => 1 - g j))
    (ho : ∀ w, Calls Try.prog 71 #[.agg (rowL f).toArray] w fun e w' => e = .returned (wv s1 t1) ∧ Below w.heap.size w w')
    (h1 : ∀ w, Calls Try.prog 20 #[wv ah al, wv s1 t1] w fun e w' => e = .returned (.tuple #[wv s2 t2, .bool o1]) ∧ Below w.heap.size w w')
    (h2 : ∀ w, Calls Try.prog 20 #[wv s2 t2, .agg #[.int .u64 0, .int .u64 1]] w fun e w' => e = .returned (.tuple #[wv s3 t3, .bool o2]) ∧ Below w.heap.size w w')
    (h3 : ∀ w, Calls Try.prog 26 #[wv ah al, wv bh bl] w fun e w' => e = .returned (.int .i64 c) ∧ Below w.heap.size w w') (hc : decide (c < 0) = o3) (w : World) :
    Calls Try.prog 23 #[wv ah al, wv bh bl] w fun e w' => e = .returned (.tuple #[wv s3 t3, .bool o3]) ∧ Below w.heap.size w w' := by
  have HB := Lib.hid hb
  have Hg := Lib.hid hg
  have HF := Lib.hid hfg
  have HO := Lib.hid ho
  have HA := Lib.hid h1
  have H2 := Lib.hid h2
  have HC := Lib.hid h3
  have HD := Lib.hid hc
  clear hb hg hfg ho h1 h2 h3 hc
  have hz := zero85
  go_enter Try.func23, Try.ntmps23
  go_wp2_with fail
  have hB : Below w.heap.size w (((w.alloc (.cells #[.int .u64 ah, .int .u64 al] 27)).alloc (.cells #[.int .u64 bh, .int .u64 bl] 27)).alloc (.cells #[.int .u64 0, .int .u64 0] 27)) := (((Below.refl _ _).alloc (Nat.le_refl _) _).alloc (by simp) _).alloc (by simp; omega) _
  have e1 := heap_alloc3_old w (.cells #[.int .u64 ah, .int .u64 al] 27) (.cells #[.int .u64 bh, .int .u64 bl] 27) (.cells #[.int .u64 0, .int .u64 0] 27)
  have e2 := heap_alloc3_mid w (.cells #[.int .u64 ah, .int .u64 al] 27) (.cells #[.int .u64 bh, .int .u64 bl] 27) (.cells #[.int .u64 0, .int .u64 0] 27)
  have e3 := heap_alloc3_new w (.cells #[.int .u64 ah, .int .u64 al] 27) (.cells #[.int .u64 bh, .int .u64 bl] 27) (.cells #[.int .u64 0, .int .u64 0] 27)
  have e4 : (((w.alloc (.cells #[.int .u64 ah, .int .u64 al] 27)).alloc (.cells #[.int .u64 bh, .int .u64 bl] 27)).alloc (.cells #[.int .u64 0, .int .u64 0] 27)).heap.size = w.heap.size + 1 + 1 + 1 := by rw [size_alloc, size_alloc, size_alloc]
  generalize ((w.alloc (.cells #[.int .u64 ah, .int .u64 al] 27)).alloc (.cells #[.int .u64 bh, .int .u64 bl] 27)).alloc (.cells #[.int .u64 0, .int .u64 0] 27) = w0 at *
  have HX : Hid (Boxes w w0 (SB w ah al bh bl)) := ⟨hB, by
    intro x hx
    simp only [SB, List.mem_cons, List.not_mem_nil, or_false] at hx
    rcases hx with rfl | rfl | rfl
    · exact e1
    · exact e2
    · exact e3⟩
  have HZ : Hid (w0.heap.size = w.heap.size + 1 + 1 + 1) := e4
  obtain ⟨ca, cb⟩ := two_cells e2
  clear hB e1 e2 e3 e4
  go_wp2_with (first
    | (go_at_call 70; with_reducible refine (HB.out _).mono ?_; rintro e w1 ⟨rfl, hb1⟩
       have HX1 := Lib.hid (HX.out.next hb1)
       have HZ1 : Hid (w.heap.size + 3 ≤ w1.heap.size) := by show _ ≤ _; have := hb1.size; have := HZ.out; omega
       clear hb1)
    | (refine wpList_store_row rfl 85 _ _ rfl w1.heap.size (bitsA g) rfl rfl 85 zrow (heap_alloc_new _ _) (size85.trans (by rw [bitsA_size])) (by simp [zrow, bitsA_size]) (bitsA_one _) ?_))
  generalize hb6 : w1.heap.size = b6
  have HL6 : Hid (w.heap.size + 3 ≤ b6) := by show _ ≤ _; rw [← hb6]; exact HZ1.out
  have HI0 : Hid (SubI w ((w1.alloc (.cells zrow 85)).setRow b6 (bitsA g)) ah al bh bl g 0 b6) := by
    subst hb6
    have hz1 := HZ1.out
    refine ⟨(HX1.out.next (below_alloc (Below.refl _ _) _)).row _ _ (by omega) ?_, ?_, hz1⟩
    · intro x hx
      simp only [SB, List.mem_cons, List.not_mem_nil, or_false] at hx
      rcases hx with rfl | rfl | rfl <;> (simp; omega)
    · rw [flip_zero]; exact setRow_heap _ _ zrow _ 85 (0, 0) (heap_alloc_new _ _)
  clear hb6 HZ1 HX1
  generalize (w1.alloc (.cells zrow 85)).setRow b6 (bitsA g) = w2 at *
  go_loopw [7] (fun i wr => ∃ k : Nat, k ≤ 128 ∧ i = .int .i64 k ∧ SubI w wr ah al bh bl g k b6) (fun i _ => (128 - intOf i).toNat)
  case atStart => exact ⟨0, by omega, rfl, HI0.out⟩
  case round =>
    obtain ⟨k, hk, rfl, hI⟩ := hrel
    by_cases hlt : k < 128
    · have hd : decide ((k : Int) < 128) = true := by simp; omega
      have k1 : (k : Int) < 128 := by omega
      obtain ⟨c6, z6⟩ := hI.cell k hlt
      have hx := Hg.out k
      have v1 : IntKind.u64.wrap (1 - (g k : Int)) = ((1 - g k : Nat) : Int) := by rw [IntKind.wrap_u64]; omega
      have HSt := Lib.hid (hI.store k)
      clear hI hx
      generalize 1 - g k = r at *
      generalize g k = q at *
      go_wp2_with fail
      go_roundw
      case rel => exact ⟨k + 1, by omega, by go_num, HSt.out⟩
      case measure => simp [intOf]; omega
    · obtain rfl : k = 128 := by omega
      have hrow := hI.row
      rw [flip_all, ← HF.out] at hrow
      have HBX := Lib.hid hI.boxes
      have HRow := Lib.hid hrow
      clear hI hrow HI0
      have hu85 := Try.underlying85
      have hs85 : (Try.prog.info? 85).map (·.size) = some (rowL f).length := size85.trans (by rw [rowL_length])
      go_wp2_with fail
      have HNk : ∀ W, Boxes w W (SB w ah al bh bl) → W.heap[b6]? = some (.cells (bitsA f) 85 (0, 0)) → (Boxes w W (SB w ah al bh bl) ∧ W.heap[b6]? = some (.cells (bitsA f) 85 (0, 0)) ∧ w.heap.size + 3 ≤ W.heap.size ∧ b6 < W.heap.size ∧ (W.cell? ⟨w.heap.size, 0, none⟩ = some (.int .u64 ah) ∧ W.cell? ⟨w.heap.size, 1, none⟩ = some (.int .u64 al)) ∧ W.rangeAt b6 0 (rowL f)) := fun W h hr =>
        ⟨h, hr, by have := (Array.getElem?_eq_some_iff.mp hr).1; have := HL6.out; omega, (Array.getElem?_eq_some_iff.mp hr).1, two_cells (h.all _ (List.mem_cons_self)), row_range (by rw [rowL_eq]; exact hr)⟩
      have HSr : Hid (Boxes w wr (SB w ah al bh bl) ∧ wr.heap[b6]? = some (.cells (bitsA f) 85 (0, 0)) ∧ w.heap.size + 3 ≤ wr.heap.size ∧ b6 < wr.heap.size ∧ (wr.cell? ⟨w.heap.size, 0, none⟩ = some (.int .u64 ah) ∧ wr.cell? ⟨w.heap.size, 1, none⟩ = some (.int .u64 al)) ∧ wr.rangeAt b6 0 (rowL f)) := HNk _ HBX.out HRow.out
      have HN : Hid (∀ W V, (Boxes w W (SB w ah al bh bl) ∧ W.heap[b6]? = some (.cells (bitsA f) 85 (0, 0)) ∧ w.heap.size + 3 ≤ W.heap.size ∧ b6 < W.heap.size ∧ (W.cell? ⟨w.heap.size, 0, none⟩ = some (.int .u64 ah) ∧ W.cell? ⟨w.heap.size, 1, none⟩ = some (.int .u64 al)) ∧ W.rangeAt b6 0 (rowL f)) → Below W.heap.size W V → (Boxes w V (SB w ah al bh bl) ∧ V.heap[b6]? = some (.cells (bitsA f) 85 (0, 0)) ∧ w.heap.size + 3 ≤ V.heap.size ∧ b6 < V.heap.size ∧ (V.cell? ⟨w.heap.size, 0, none⟩ = some (.int .u64 ah) ∧ V.cell? ⟨w.heap.size, 1, none⟩ = some (.int .u64 al)) ∧ V.rangeAt b6 0 (rowL f))) := fun W V h hb => HNk _ (h.1.next hb) (old_below hb h.2.1)
      have HR : Hid (∀ W g cs, (Boxes w W (SB w ah al bh bl) ∧ W.heap[b6]? = some (.cells (bitsA f) 85 (0, 0)) ∧ w.heap.size + 3 ≤ W.heap.size ∧ b6 < W.heap.size ∧ (W.cell? ⟨w.heap.size, 0, none⟩ = some (.int .u64 ah) ∧ W.cell? ⟨w.heap.size, 1, none⟩ = some (.int .u64 al)) ∧ W.rangeAt b6 0 (rowL f)) → w.heap.size + 3 ≤ g → b6 ≠ g → (Boxes w (W.setRow g cs) (SB w ah al bh bl) ∧ (W.setRow g cs).heap[b6]? = some (.cells (bitsA f) 85 (0, 0)) ∧ w.heap.size + 3 ≤ (W.setRow g cs).heap.size ∧ b6 < (W.setRow g cs).heap.size ∧ ((W.setRow g cs).cell? ⟨w.heap.size, 0, none⟩ = some (.int .u64 ah) ∧ (W.setRow g cs).cell? ⟨w.heap.size, 1, none⟩ = some (.int .u64 al)) ∧ (W.setRow g cs).rangeAt b6 0 (rowL f))) := fun W g cs h hg hn => HNk _ (h.1.row g cs (by omega) (by
        intro x hx
        simp only [SB, List.mem_cons, List.not_mem_nil, or_false] at hx
        rcases hx with rfl | rfl | rfl <;> (simp; omega))) (old_row cs hn h.2.1)
      have hwz : w.heap.size + 3 ≤ wr.heap.size ∧ b6 < wr.heap.size := ⟨HSr.out.2.2.1, HSr.out.2.2.2.1⟩
      clear HNk
      go_cut [8, 9] from 22 to 28 (fun s8 s9 wx => ∃ b8 : Nat, s8 = .pointer (some ⟨b8, 0, none⟩) ∧ Boxes w wx (SB w ah al bh bl) ∧ wx.heap[b8]? = some (.cells #[.int .u64 s2, .int .u64 t2] 27 (0, 0)) ∧ w.heap.size + 3 ≤ b8)
      case first =>
        refine wp_region_noPanic ?_
        refine wp_region_held_drew (S := fun W => Boxes w W (SB w ah al bh bl) ∧ W.heap[b6]? = some (.cells (bitsA f) 85 (0, 0)) ∧ w.heap.size + 3 ≤ W.heap.size ∧ b6 < W.heap.size ∧ (W.cell? ⟨w.heap.size, 0, none⟩ = some (.int .u64 ah) ∧ W.cell? ⟨w.heap.size, 1, none⟩ = some (.int .u64 al)) ∧ W.rangeAt b6 0 (rowL f)) (by kernel_rfl) ?_ (fun hHeld => ?_)
        · exact HN.out _ _ HSr.out ⟨rfl, rfl, rfl, Nat.le_refl _, fun _ _ => rfl⟩
        refine wpAnyH_take (i := 0) (oi := { dst := some 23, op := Op.load 27 (Operand.tmp 2), type := 27, pos := "ref.go:61", after := #[], guard := none }) (v := ?_) rfl (by kernel_rfl) (by kernel_rfl) (by kernel_rfl) (fun _ _ _ h => h) (Or.inl ⟨by rfl, ?_⟩) (by assumption) ?_
        rotate_left
        · (intro w9 hS9; (try dsimp only at hS9); go_simp); all_goals (with_reducible rfl)
        (try simp only [Act.put, List.setIfInBounds_toArray, List.set_cons_zero, List.set_cons_succ])
        refine wpAnyH_take (i := 1) (oi := { dst := some 24, op := Op.load 85 (Operand.tmp 6), type := 85, pos := "ref.go:61", after := #[], guard := none }) rfl (by kernel_rfl) (by kernel_rfl) (by kernel_rfl) (fun _ _ _ h => h) (yieldsIf_load_mid (by rfl) 85 _ rfl b6 0 rfl (rowL f) _ (fun _ h => h.2.2.2.2.2) hu85 rfl hs85) (by assumption) ?_
        (try simp only [Act.put, List.setIfInBounds_toArray, List.set_cons_zero, List.set_cons_succ])
        refine wpAnyH_ready (rs := [2, 7]) (by kernel_rfl) (by simp) ?_
        refine AllReadyH.cons (o := { dst := some 25, op := Op.call { callee := Callee.value (Operand.func 71), args := #[Operand.tmp 24], argTypes := #[85] }, type := 27, pos := "ref.go:61", after := #[{ on := 1, ground := Ground.data }], guard := none }) rfl (fun K hK => ?_) ?_
        · go_simp
          with_reducible refine (HO.out _).mono ?_
          rintro e w1 ⟨rfl, hb1⟩
          have hS1 := HN.out _ _ (by assumption) hb1
          have hsz := hb1.size
          (try simp only [size_alloc, heap_drew] at hsz)
          (try go_wp2_with fail)
          refine hK.out _ _ ?_ (fun hHeld => ?_)
          · (first | exact hS1 | assumption | exact HN.out _ _ (by assumption) (below_alloc (Below.refl _ _) _) | exact HR.out _ _ _ (by assumption) (by first | omega | (simp; try omega)) (by first | omega | (simp; try omega)))
          clear hK K
          (try simp only [Act.put, List.setIfInBounds_toArray, List.set_cons_zero, List.set_cons_succ])
          refine wpAnyH_ready (rs := [3, 7]) (by kernel_rfl) (by simp) ?_
          refine AllReadyH.cons (o := { dst := some 26, op := Op.call { callee := Callee.value (Operand.func 20), args := #[Operand.tmp 23, Operand.tmp 25], argTypes := #[27, 27] }, type := 28, pos := "ref.go:61", after := #[{ on := 0, ground := Ground.data }, { on := 2, ground := Ground.data }, { on := 2, ground := Ground.chain }], guard := none }) rfl (fun K hK => ?_) ?_
          · go_simp
            with_reducible refine (HA.out _).mono ?_
            rintro e w1 ⟨rfl, hb1⟩
            have hS1 := HN.out _ _ (by assumption) hb1
            have hsz := hb1.size
            (try simp only [size_alloc, heap_drew] at hsz)
            (try go_wp2_with fail)
            refine hK.out _ _ ?_ (fun hHeld => ?_)
            · (first | exact hS1 | assumption | exact HN.out _ _ (by assumption) (below_alloc (Below.refl _ _) _) | exact HR.out _ _ _ (by assumption) (by first | omega | (simp; try omega)) (by first | omega | (simp; try omega)))
            clear hK K
            (try simp only [Act.put, List.setIfInBounds_toArray, List.set_cons_zero, List.set_cons_succ])
            refine wpAnyH_take (i := 4) (oi := { dst := some 22, op := Op.move (Operand.tmp 26), type := 28, pos := "ref.go:61", after := #[{ on := 3, ground := Ground.data }], guard := none }) (v := ?_) rfl (by kernel_rfl) (by kernel_rfl) (by kernel_rfl) (fun _ _ _ h => h) (Or.inl ⟨by rfl, ?_⟩) (by assumption) ?_
            rotate_left
            · (intro w9 hS9; (try dsimp only at hS9); go_simp); all_goals (with_reducible rfl)
            (try simp only [Act.put, List.setIfInBounds_toArray, List.set_cons_zero, List.set_cons_succ])
            refine wpAnyH_take (i := 5) (oi := { dst := some 27, op := Op.extract (Operand.tmp 22) 0, type := 27, pos := "ref.go:61", after := #[{ on := 4, ground := Ground.data }], guard := none }) (v := ?_) rfl (by kernel_rfl) (by kernel_rfl) (by kernel_rfl) (fun _ _ _ h => h) (Or.inl ⟨by rfl, ?_⟩) (by assumption) ?_
            rotate_left
            · (intro w9 hS9; (try dsimp only at hS9); go_simp); all_goals (with_reducible rfl)
            (try simp only [Act.put, List.setIfInBounds_toArray, List.set_cons_zero, List.set_cons_succ])
            refine wpAnyH_take (i := 6) (oi := { dst := some 28, op := Op.extract (Operand.tmp 22) 1, type := 4, pos := "ref.go:61", after := #[{ on := 4, ground := Ground.data }, { on := 8, ground := Ground.gcOnly Departure.lateStores }], guard := none }) (v := ?_) rfl (by kernel_rfl) (by kernel_rfl) (by kernel_rfl) (fun _ _ _ h => h) (Or.inl ⟨by rfl, ?_⟩) (by assumption) ?_
            rotate_left
            · (intro w9 hS9; (try dsimp only at hS9); go_simp); all_goals (with_reducible rfl)
            (try simp only [Act.put, List.setIfInBounds_toArray, List.set_cons_zero, List.set_cons_succ])
            refine wpAnyH_ready (rs := [7]) (by kernel_rfl) (by simp) ?_
            refine AllReadyH.cons (o := { dst := some 8, op := Op.alloc 27, type := 0, pos := "ref.go:61", after := #[], guard := none }) rfl (fun K hK => ?_) ?_
            · go_simp
              skip
              (try go_wp2_with fail)
              refine hK.out _ _ ?_ (fun hHeld => ?_)
              · (first | exact hS1 | assumption | exact HN.out _ _ (by assumption) (below_alloc (Below.refl _ _) _) | exact HR.out _ _ _ (by assumption) (by first | omega | (simp; try omega)) (by first | omega | (simp; try omega)))
              clear hK K
              (try simp only [Act.put, List.setIfInBounds_toArray, List.set_cons_zero, List.set_cons_succ])
              refine wpAnyH_ready (rs := [8]) (by kernel_rfl) (by simp) ?_
              refine AllReadyH.cons (o := { dst := none, op := Op.store 27 (Operand.tmp 8) (Operand.tmp 27), type := 0, pos := "ref.go:61", after := #[{ on := 7, ground := Ground.data }, { on := 5, ground := Ground.data }, { on := 3, ground := Ground.chain }, { on := 0, ground := Ground.phase }, { on := 1, ground := Ground.phase }, { on := 2, ground := Ground.phase }, { on := 3, ground := Ground.phase }, { on := 4, ground := Ground.phase }, { on := 5, ground := Ground.phase }, { on := 6, ground := Ground.textOnly Departure.lateStores }, { on := 7, ground := Ground.phase }], guard := none }) rfl (fun K hK => ?_) ?_
              · rw [if_pos (by rfl)]
                refine wp_store_row 27 _ _ rfl _ #[.int .u64 s2, .int .u64 t2] rfl rfl 27 #[.int .u64 0, .int .u64 0] ?_ size27 rfl (one2 _ _) ?_
                · repeat' first | with_reducible exact heap_alloc_new _ _ | with_reducible exact heap_alloc2_new _ _ _ | with_reducible refine old_drew ?_ | with_reducible refine old_alloc _ ?_ | with_reducible refine old_row _ (by simp; try omega) ?_ | with_reducible refine old_below (by assumption) ?_
                (try go_wp2_with fail)
                refine hK.out _ _ ?_ (fun hHeld => ?_)
                · (first | exact hS1 | assumption | exact HN.out _ _ (by assumption) (below_alloc (Below.refl _ _) _) | exact HR.out _ _ _ (by assumption) (by first | omega | (simp; try omega)) (by first | omega | (simp; try omega)))
                clear hK K
                (try simp only [Act.put, List.setIfInBounds_toArray, List.set_cons_zero, List.set_cons_succ])
                refine wpAnyH_take (i := 9) (oi := { dst := some 9, op := Op.assign (Operand.tmp 28), type := 4, pos := "ref.go:61", after := #[{ on := 6, ground := Ground.data }, { on := 8, ground := Ground.chain }, { on := 0, ground := Ground.phase }, { on := 1, ground := Ground.phase }, { on := 2, ground := Ground.phase }, { on := 3, ground := Ground.phase }, { on := 4, ground := Ground.phase }, { on := 5, ground := Ground.phase }, { on := 6, ground := Ground.phase }, { on := 7, ground := Ground.phase }, { on := 8, ground := Ground.phase }], guard := none }) (v := ?_) rfl (by kernel_rfl) (by kernel_rfl) (by kernel_rfl) (fun _ _ _ h => h) (Or.inl ⟨by rfl, ?_⟩) (by assumption) ?_
                rotate_left
                · (intro w9 hS9; (try dsimp only at hS9); go_simp); all_goals (with_reducible rfl)
                (try simp only [Act.put, List.setIfInBounds_toArray, List.set_cons_zero, List.set_cons_succ])
                refine wpAnyH_done (by kernel_rfl) (NoPanic.normal ?_) _
                go_wp2_with fail
                go_meet
                case rel =>
                  refine ⟨_, rfl, And.left (by assumption), ?_, ?_⟩
                  · refine setRow_heap _ _ #[.int .u64 0, .int .u64 0] _ 27 (0, 0) ?_
                    repeat' first | with_reducible exact heap_alloc_new _ _ | with_reducible exact heap_alloc2_new _ _ _ | with_reducible refine old_drew ?_ | with_reducible refine old_alloc _ ?_ | with_reducible refine old_row _ (by simp; try omega) ?_ | with_reducible refine old_below (by assumption) ?_
                  · first | omega | (simp; try omega)
              exact AllReadyH.nil
            exact AllReadyH.nil
          refine AllReadyH.cons (o := { dst := some 8, op := Op.alloc 27, type := 0, pos := "ref.go:61", after := #[], guard := none }) rfl (fun K hK => ?_) ?_
          · go_simp
            skip
            (try go_wp2_with fail)
            refine hK.out _ _ ?_ (fun hHeld => ?_)
            · (first | exact hS1 | assumption | exact HN.out _ _ (by assumption) (below_alloc (Below.refl _ _) _) | exact HR.out _ _ _ (by assumption) (by first | omega | (simp; try omega)) (by first | omega | (simp; try omega)))
            clear hK K
            (try simp only [Act.put, List.setIfInBounds_toArray, List.set_cons_zero, List.set_cons_succ])
            refine wpAnyH_ready (rs := [3]) (by kernel_rfl) (by simp) ?_
            refine AllReadyH.cons (o := { dst := some 26, op := Op.call { callee := Callee.value (Operand.func 20), args := #[Operand.tmp 23, Operand.tmp 25], argTypes := #[27, 27] }, type := 28, pos := "ref.go:61", after := #[{ on := 0, ground := Ground.data }, { on := 2, ground := Ground.data }, { on := 2, ground := Ground.chain }], guard := none }) rfl (fun K hK => ?_) ?_
            · go_simp
              with_reducible refine (HA.out _).mono ?_
              rintro e w1 ⟨rfl, hb1⟩
              have hS1 := HN.out _ _ (by assumption) hb1
              have hsz := hb1.size
              (try simp only [size_alloc, heap_drew] at hsz)
              (try go_wp2_with fail)
              refine hK.out _ _ ?_ (fun hHeld => ?_)
              · (first | exact hS1 | assumption | exact HN.out _ _ (by assumption) (below_alloc (Below.refl _ _) _) | exact HR.out _ _ _ (by assumption) (by first | omega | (simp; try omega)) (by first | omega | (simp; try omega)))
              clear hK K
              (try simp only [Act.put, List.setIfInBounds_toArray, List.set_cons_zero, List.set_cons_succ])
              refine wpAnyH_take (i := 4) (oi := { dst := some 22, op := Op.move (Operand.tmp 26), type := 28, pos := "ref.go:61", after := #[{ on := 3, ground := Ground.data }], guard := none }) (v := ?_) rfl (by kernel_rfl) (by kernel_rfl) (by kernel_rfl) (fun _ _ _ h => h) (Or.inl ⟨by rfl, ?_⟩) (by assumption) ?_
              rotate_left
              · (intro w9 hS9; (try dsimp only at hS9); go_simp); all_goals (with_reducible rfl)
              (try simp only [Act.put, List.setIfInBounds_toArray, List.set_cons_zero, List.set_cons_succ])
              refine wpAnyH_take (i := 5) (oi := { dst := some 27, op := Op.extract (Operand.tmp 22) 0, type := 27, pos := "ref.go:61", after := #[{ on := 4, ground := Ground.data }], guard := none }) (v := ?_) rfl (by kernel_rfl) (by kernel_rfl) (by kernel_rfl) (fun _ _ _ h => h) (Or.inl ⟨by rfl, ?_⟩) (by assumption) ?_
              rotate_left
              · (intro w9 hS9; (try dsimp only at hS9); go_simp); all_goals (with_reducible rfl)
              (try simp only [Act.put, List.setIfInBounds_toArray, List.set_cons_zero, List.set_cons_succ])
              refine wpAnyH_take (i := 6) (oi := { dst := some 28, op := Op.extract (Operand.tmp 22) 1, type := 4, pos := "ref.go:61", after := #[{ on := 4, ground := Ground.data }, { on := 8, ground := Ground.gcOnly Departure.lateStores }], guard := none }) (v := ?_) rfl (by kernel_rfl) (by kernel_rfl) (by kernel_rfl) (fun _ _ _ h => h) (Or.inl ⟨by rfl, ?_⟩) (by assumption) ?_
              rotate_left
              · (intro w9 hS9; (try dsimp only at hS9); go_simp); all_goals (with_reducible rfl)
              (try simp only [Act.put, List.setIfInBounds_toArray, List.set_cons_zero, List.set_cons_succ])
              refine wpAnyH_ready (rs := [8]) (by kernel_rfl) (by simp) ?_
              refine AllReadyH.cons (o := { dst := none, op := Op.store 27 (Operand.tmp 8) (Operand.tmp 27), type := 0, pos := "ref.go:61", after := #[{ on := 7, ground := Ground.data }, { on := 5, ground := Ground.data }, { on := 3, ground := Ground.chain }, { on := 0, ground := Ground.phase }, { on := 1, ground := Ground.phase }, { on := 2, ground := Ground.phase }, { on := 3, ground := Ground.phase }, { on := 4, ground := Ground.phase }, { on := 5, ground := Ground.phase }, { on := 6, ground := Ground.textOnly Departure.lateStores }, { on := 7, ground := Ground.phase }], guard := none }) rfl (fun K hK => ?_) ?_
              · rw [if_pos (by rfl)]
                refine wp_store_row 27 _ _ rfl _ #[.int .u64 s2, .int .u64 t2] rfl rfl 27 #[.int .u64 0, .int .u64 0] ?_ size27 rfl (one2 _ _) ?_
                · repeat' first | with_reducible exact heap_alloc_new _ _ | with_reducible exact heap_alloc2_new _ _ _ | with_reducible refine old_drew ?_ | with_reducible refine old_alloc _ ?_ | with_reducible refine old_row _ (by simp; try omega) ?_ | with_reducible refine old_below (by assumption) ?_
                (try go_wp2_with fail)
                refine hK.out _ _ ?_ (fun hHeld => ?_)
                · (first | exact hS1 | assumption | exact HN.out _ _ (by assumption) (below_alloc (Below.refl _ _) _) | exact HR.out _ _ _ (by assumption) (by first | omega | (simp; try omega)) (by first | omega | (simp; try omega)))
                clear hK K
                (try simp only [Act.put, List.setIfInBounds_toArray, List.set_cons_zero, List.set_cons_succ])
                refine wpAnyH_take (i := 9) (oi := { dst := some 9, op := Op.assign (Operand.tmp 28), type := 4, pos := "ref.go:61", after := #[{ on := 6, ground := Ground.data }, { on := 8, ground := Ground.chain }, { on := 0, ground := Ground.phase }, { on := 1, ground := Ground.phase }, { on := 2, ground := Ground.phase }, { on := 3, ground := Ground.phase }, { on := 4, ground := Ground.phase }, { on := 5, ground := Ground.phase }, { on := 6, ground := Ground.phase }, { on := 7, ground := Ground.phase }, { on := 8, ground := Ground.phase }], guard := none }) (v := ?_) rfl (by kernel_rfl) (by kernel_rfl) (by kernel_rfl) (fun _ _ _ h => h) (Or.inl ⟨by rfl, ?_⟩) (by assumption) ?_
                rotate_left
                · (intro w9 hS9; (try dsimp only at hS9); go_simp); all_goals (with_reducible rfl)
                (try simp only [Act.put, List.setIfInBounds_toArray, List.set_cons_zero, List.set_cons_succ])
                refine wpAnyH_done (by kernel_rfl) (NoPanic.normal ?_) _
                go_wp2_with fail
                go_meet
                case rel =>
                  refine ⟨_, rfl, And.left (by assumption), ?_, ?_⟩
                  · refine setRow_heap _ _ #[.int .u64 0, .int .u64 0] _ 27 (0, 0) ?_
                    repeat' first | with_reducible exact heap_alloc_new _ _ | with_reducible exact heap_alloc2_new _ _ _ | with_reducible refine old_drew ?_ | with_reducible refine old_alloc _ ?_ | with_reducible refine old_row _ (by simp; try omega) ?_ | with_reducible refine old_below (by assumption) ?_
                  · first | omega | (simp; try omega)
              exact AllReadyH.nil
            exact AllReadyH.nil
          exact AllReadyH.nil
        refine AllReadyH.cons (o := { dst := some 8, op := Op.alloc 27, type := 0, pos := "ref.go:61", after := #[], guard := none }) rfl (fun K hK => ?_) ?_
        · go_simp
          skip
          (try go_wp2_with fail)
          refine hK.out _ _ ?_ (fun hHeld => ?_)
          · (first | exact hS1 | assumption | exact HN.out _ _ (by assumption) (below_alloc (Below.refl _ _) _) | exact HR.out _ _ _ (by assumption) (by first | omega | (simp; try omega)) (by first | omega | (simp; try omega)))
          clear hK K
          (try simp only [Act.put, List.setIfInBounds_toArray, List.set_cons_zero, List.set_cons_succ])
          refine wpAnyH_ready (rs := [2]) (by kernel_rfl) (by simp) ?_
          refine AllReadyH.cons (o := { dst := some 25, op := Op.call { callee := Callee.value (Operand.func 71), args := #[Operand.tmp 24], argTypes := #[85] }, type := 27, pos := "ref.go:61", after := #[{ on := 1, ground := Ground.data }], guard := none }) rfl (fun K hK => ?_) ?_
          · go_simp
            with_reducible refine (HO.out _).mono ?_
            rintro e w1 ⟨rfl, hb1⟩
            have hS1 := HN.out _ _ (by assumption) hb1
            have hsz := hb1.size
            (try simp only [size_alloc, heap_drew] at hsz)
            (try go_wp2_with fail)
            refine hK.out _ _ ?_ (fun hHeld => ?_)
            · (first | exact hS1 | assumption | exact HN.out _ _ (by assumption) (below_alloc (Below.refl _ _) _) | exact HR.out _ _ _ (by assumption) (by first | omega | (simp; try omega)) (by first | omega | (simp; try omega)))
            clear hK K
            (try simp only [Act.put, List.setIfInBounds_toArray, List.set_cons_zero, List.set_cons_succ])
            refine wpAnyH_ready (rs := [3]) (by kernel_rfl) (by simp) ?_
            refine AllReadyH.cons (o := { dst := some 26, op := Op.call { callee := Callee.value (Operand.func 20), args := #[Operand.tmp 23, Operand.tmp 25], argTypes := #[27, 27] }, type := 28, pos := "ref.go:61", after := #[{ on := 0, ground := Ground.data }, { on := 2, ground := Ground.data }, { on := 2, ground := Ground.chain }], guard := none }) rfl (fun K hK => ?_) ?_
            · go_simp
              with_reducible refine (HA.out _).mono ?_
              rintro e w1 ⟨rfl, hb1⟩
              have hS1 := HN.out _ _ (by assumption) hb1
              have hsz := hb1.size
              (try simp only [size_alloc, heap_drew] at hsz)
              (try go_wp2_with fail)
              refine hK.out _ _ ?_ (fun hHeld => ?_)
              · (first | exact hS1 | assumption | exact HN.out _ _ (by assumption) (below_alloc (Below.refl _ _) _) | exact HR.out _ _ _ (by assumption) (by first | omega | (simp; try omega)) (by first | omega | (simp; try omega)))
              clear hK K
              (try simp only [Act.put, List.setIfInBounds_toArray, List.set_cons_zero, List.set_cons_succ])
              refine wpAnyH_take (i := 4) (oi := { dst := some 22, op := Op.move (Operand.tmp 26), type := 28, pos := "ref.go:61", after := #[{ on := 3, ground := Ground.data }], guard := none }) (v := ?_) rfl (by kernel_rfl) (by kernel_rfl) (by kernel_rfl) (fun _ _ _ h => h) (Or.inl ⟨by rfl, ?_⟩) (by assumption) ?_
              rotate_left
              · (intro w9 hS9; (try dsimp only at hS9); go_simp); all_goals (with_reducible rfl)
              (try simp only [Act.put, List.setIfInBounds_toArray, List.set_cons_zero, List.set_cons_succ])
              refine wpAnyH_take (i := 5) (oi := { dst := some 27, op := Op.extract (Operand.tmp 22) 0, type := 27, pos := "ref.go:61", after := #[{ on := 4, ground := Ground.data }], guard := none }) (v := ?_) rfl (by kernel_rfl) (by kernel_rfl) (by kernel_rfl) (fun _ _ _ h => h) (Or.inl ⟨by rfl, ?_⟩) (by assumption) ?_
              rotate_left
              · (intro w9 hS9; (try dsimp only at hS9); go_simp); all_goals (with_reducible rfl)
              (try simp only [Act.put, List.setIfInBounds_toArray, List.set_cons_zero, List.set_cons_succ])
              refine wpAnyH_take (i := 6) (oi := { dst := some 28, op := Op.extract (Operand.tmp 22) 1, type := 4, pos := "ref.go:61", after := #[{ on := 4, ground := Ground.data }, { on := 8, ground := Ground.gcOnly Departure.lateStores }], guard := none }) (v := ?_) rfl (by kernel_rfl) (by kernel_rfl) (by kernel_rfl) (fun _ _ _ h => h) (Or.inl ⟨by rfl, ?_⟩) (by assumption) ?_
              rotate_left
              · (intro w9 hS9; (try dsimp only at hS9); go_simp); all_goals (with_reducible rfl)
              (try simp only [Act.put, List.setIfInBounds_toArray, List.set_cons_zero, List.set_cons_succ])
              refine wpAnyH_ready (rs := [8]) (by kernel_rfl) (by simp) ?_
              refine AllReadyH.cons (o := { dst := none, op := Op.store 27 (Operand.tmp 8) (Operand.tmp 27), type := 0, pos := "ref.go:61", after := #[{ on := 7, ground := Ground.data }, { on := 5, ground := Ground.data }, { on := 3, ground := Ground.chain }, { on := 0, ground := Ground.phase }, { on := 1, ground := Ground.phase }, { on := 2, ground := Ground.phase }, { on := 3, ground := Ground.phase }, { on := 4, ground := Ground.phase }, { on := 5, ground := Ground.phase }, { on := 6, ground := Ground.textOnly Departure.lateStores }, { on := 7, ground := Ground.phase }], guard := none }) rfl (fun K hK => ?_) ?_
              · rw [if_pos (by rfl)]
                refine wp_store_row 27 _ _ rfl _ #[.int .u64 s2, .int .u64 t2] rfl rfl 27 #[.int .u64 0, .int .u64 0] ?_ size27 rfl (one2 _ _) ?_
                · repeat' first | with_reducible exact heap_alloc_new _ _ | with_reducible exact heap_alloc2_new _ _ _ | with_reducible refine old_drew ?_ | with_reducible refine old_alloc _ ?_ | with_reducible refine old_row _ (by simp; try omega) ?_ | with_reducible refine old_below (by assumption) ?_
                (try go_wp2_with fail)
                refine hK.out _ _ ?_ (fun hHeld => ?_)
                · (first | exact hS1 | assumption | exact HN.out _ _ (by assumption) (below_alloc (Below.refl _ _) _) | exact HR.out _ _ _ (by assumption) (by first | omega | (simp; try omega)) (by first | omega | (simp; try omega)))
                clear hK K
                (try simp only [Act.put, List.setIfInBounds_toArray, List.set_cons_zero, List.set_cons_succ])
                refine wpAnyH_take (i := 9) (oi := { dst := some 9, op := Op.assign (Operand.tmp 28), type := 4, pos := "ref.go:61", after := #[{ on := 6, ground := Ground.data }, { on := 8, ground := Ground.chain }, { on := 0, ground := Ground.phase }, { on := 1, ground := Ground.phase }, { on := 2, ground := Ground.phase }, { on := 3, ground := Ground.phase }, { on := 4, ground := Ground.phase }, { on := 5, ground := Ground.phase }, { on := 6, ground := Ground.phase }, { on := 7, ground := Ground.phase }, { on := 8, ground := Ground.phase }], guard := none }) (v := ?_) rfl (by kernel_rfl) (by kernel_rfl) (by kernel_rfl) (fun _ _ _ h => h) (Or.inl ⟨by rfl, ?_⟩) (by assumption) ?_
                rotate_left
                · (intro w9 hS9; (try dsimp only at hS9); go_simp); all_goals (with_reducible rfl)
                (try simp only [Act.put, List.setIfInBounds_toArray, List.set_cons_zero, List.set_cons_succ])
                refine wpAnyH_done (by kernel_rfl) (NoPanic.normal ?_) _
                go_wp2_with fail
                go_meet
                case rel =>
                  refine ⟨_, rfl, And.left (by assumption), ?_, ?_⟩
                  · refine setRow_heap _ _ #[.int .u64 0, .int .u64 0] _ 27 (0, 0) ?_
                    repeat' first | with_reducible exact heap_alloc_new _ _ | with_reducible exact heap_alloc2_new _ _ _ | with_reducible refine old_drew ?_ | with_reducible refine old_alloc _ ?_ | with_reducible refine old_row _ (by simp; try omega) ?_ | with_reducible refine old_below (by assumption) ?_
                  · first | omega | (simp; try omega)
              exact AllReadyH.nil
            exact AllReadyH.nil
          exact AllReadyH.nil
        exact AllReadyH.nil

      case rest =>
        obtain ⟨b8, rfl, hbx, hr8, hl8⟩ := hcut
        have HX8 := Lib.hid hbx
        have HR8 := Lib.hid hr8
        have HL8 := Lib.hid hl8
        obtain ⟨g0, g1⟩ := two_cells hr8
        clear hbx hr8 hl8
        go_wp2_with (first
          | (go_at_call 20; with_reducible refine (H2.out _).mono ?_; rintro e w3 ⟨rfl, hb3⟩
             have HX9 := Lib.hid (HX8.out.next hb3)
             have hr9 := old_below hb3 HR8.out
             obtain ⟨i0, i1⟩ := two_cells hr9
             have j0 := frozen_of_row _ _ 0 _ _ hr9
             have j1 := frozen_of_row _ _ 1 _ _ hr9
             have HR9 := Lib.hid hr9
             clear hr9 hb3))
        have hset := pair_set HR9.out (.int .u64 s3) (.int .u64 t3)
        have hbx9 : Boxes w ((w3.setCell ⟨b8, 0, none⟩ (.int .u64 s3)).setCell ⟨b8, 1, none⟩ (.int .u64 t3)) (SB w ah al bh bl) := by
          have hl := HL8.out
          have hn : ∀ x ∈ SB w ah al bh bl, x.1 ≠ b8 := by
            intro x hx
            simp only [SB, List.mem_cons, List.not_mem_nil, or_false] at hx
            rcases hx with rfl | rfl | rfl <;> (simp; omega)
          exact (HX9.out.set _ _ (by simp; omega) hn).set _ _ (by simp; omega) hn
        generalize (w3.setCell ⟨b8, 0, none⟩ (.int .u64 s3)).setCell ⟨b8, 1, none⟩ (.int .u64 t3) = w4 at *
        have HN8k : ∀ W, RB w W (SC w ah al bh bl b8 s3 t3) → (RB w W (SC w ah al bh bl b8 s3 t3) ∧ ((W.cell? ⟨w.heap.size, 0, none⟩ = some (.int .u64 ah) ∧ W.cell? ⟨w.heap.size, 1, none⟩ = some (.int .u64 al)) ∧ (W.cell? ⟨w.heap.size + 1, 0, none⟩ = some (.int .u64 bh) ∧ W.cell? ⟨w.heap.size + 1, 1, none⟩ = some (.int .u64 bl)) ∧ (W.cell? ⟨b8, 0, none⟩ = some (.int .u64 s3) ∧ W.cell? ⟨b8, 1, none⟩ = some (.int .u64 t3)))) := fun W h =>
          ⟨h, two_cells (h.boxes.all (w.heap.size, 27, ah, al) (by simp [SC])), two_cells (h.boxes.all (w.heap.size + 1, 27, bh, bl) (by simp [SC])), two_cells (h.boxes.all (b8, 27, s3, t3) (by simp [SC]))⟩
        have hrb : RB w w4 (SC w ah al bh bl b8 s3 t3) := by
          refine ⟨⟨hbx9.below, ?_⟩, _, _, hbx9.all (w.heap.size + 1 + 1, 27, 0, 0) (by simp [SB])⟩
          intro x hx
          simp only [SC, List.mem_cons, List.not_mem_nil, or_false] at hx
          rcases hx with rfl | rfl | rfl
          · exact hbx9.all _ (by simp [SB])
          · exact hbx9.all _ (by simp [SB])
          · exact hset
        have HS8 : Hid (RB w w4 (SC w ah al bh bl b8 s3 t3) ∧ ((w4.cell? ⟨w.heap.size, 0, none⟩ = some (.int .u64 ah) ∧ w4.cell? ⟨w.heap.size, 1, none⟩ = some (.int .u64 al)) ∧ (w4.cell? ⟨w.heap.size + 1, 0, none⟩ = some (.int .u64 bh) ∧ w4.cell? ⟨w.heap.size + 1, 1, none⟩ = some (.int .u64 bl)) ∧ (w4.cell? ⟨b8, 0, none⟩ = some (.int .u64 s3) ∧ w4.cell? ⟨b8, 1, none⟩ = some (.int .u64 t3)))) := HN8k _ hrb
        have HN8 : Hid (∀ W V, (RB w W (SC w ah al bh bl b8 s3 t3) ∧ ((W.cell? ⟨w.heap.size, 0, none⟩ = some (.int .u64 ah) ∧ W.cell? ⟨w.heap.size, 1, none⟩ = some (.int .u64 al)) ∧ (W.cell? ⟨w.heap.size + 1, 0, none⟩ = some (.int .u64 bh) ∧ W.cell? ⟨w.heap.size + 1, 1, none⟩ = some (.int .u64 bl)) ∧ (W.cell? ⟨b8, 0, none⟩ = some (.int .u64 s3) ∧ W.cell? ⟨b8, 1, none⟩ = some (.int .u64 t3)))) → Below W.heap.size W V → (RB w V (SC w ah al bh bl b8 s3 t3) ∧ ((V.cell? ⟨w.heap.size, 0, none⟩ = some (.int .u64 ah) ∧ V.cell? ⟨w.heap.size, 1, none⟩ = some (.int .u64 al)) ∧ (V.cell? ⟨w.heap.size + 1, 0, none⟩ = some (.int .u64 bh) ∧ V.cell? ⟨w.heap.size + 1, 1, none⟩ = some (.int .u64 bl)) ∧ (V.cell? ⟨b8, 0, none⟩ = some (.int .u64 s3) ∧ V.cell? ⟨b8, 1, none⟩ = some (.int .u64 t3))))) := fun W V h hb => HN8k _ (h.1.next hb)
        have HR8 : Hid (∀ W, (RB w W (SC w ah al bh bl b8 s3 t3) ∧ ((W.cell? ⟨w.heap.size, 0, none⟩ = some (.int .u64 ah) ∧ W.cell? ⟨w.heap.size, 1, none⟩ = some (.int .u64 al)) ∧ (W.cell? ⟨w.heap.size + 1, 0, none⟩ = some (.int .u64 bh) ∧ W.cell? ⟨w.heap.size + 1, 1, none⟩ = some (.int .u64 bl)) ∧ (W.cell? ⟨b8, 0, none⟩ = some (.int .u64 s3) ∧ W.cell? ⟨b8, 1, none⟩ = some (.int .u64 t3)))) → (RB w (W.setRow (w.heap.size + 1 + 1) #[.int .u64 s3, .int .u64 t3]) (SC w ah al bh bl b8 s3 t3) ∧ (((W.setRow (w.heap.size + 1 + 1) #[.int .u64 s3, .int .u64 t3]).cell? ⟨w.heap.size, 0, none⟩ = some (.int .u64 ah) ∧ (W.setRow (w.heap.size + 1 + 1) #[.int .u64 s3, .int .u64 t3]).cell? ⟨w.heap.size, 1, none⟩ = some (.int .u64 al)) ∧ ((W.setRow (w.heap.size + 1 + 1) #[.int .u64 s3, .int .u64 t3]).cell? ⟨w.heap.size + 1, 0, none⟩ = some (.int .u64 bh) ∧ (W.setRow (w.heap.size + 1 + 1) #[.int .u64 s3, .int .u64 t3]).cell? ⟨w.heap.size + 1, 1, none⟩ = some (.int .u64 bl)) ∧ ((W.setRow (w.heap.size + 1 + 1) #[.int .u64 s3, .int .u64 t3]).cell? ⟨b8, 0, none⟩ = some (.int .u64 s3) ∧ (W.setRow (w.heap.size + 1 + 1) #[.int .u64 s3, .int .u64 t3]).cell? ⟨b8, 1, none⟩ = some (.int .u64 t3))))) := fun W h => HN8k _ (h.1.row _ HL8.out)
        have HFin : Hid (∀ W, (RB w W (SC w ah al bh bl b8 s3 t3) ∧ ((W.cell? ⟨w.heap.size, 0, none⟩ = some (.int .u64 ah) ∧ W.cell? ⟨w.heap.size, 1, none⟩ = some (.int .u64 al)) ∧ (W.cell? ⟨w.heap.size + 1, 0, none⟩ = some (.int .u64 bh) ∧ W.cell? ⟨w.heap.size + 1, 1, none⟩ = some (.int .u64 bl)) ∧ (W.cell? ⟨b8, 0, none⟩ = some (.int .u64 s3) ∧ W.cell? ⟨b8, 1, none⟩ = some (.int .u64 t3)))) → Below w.heap.size w W) := fun W h => h.1.boxes.below
        clear HN8k hrb hset hbx9 i0 i1 j0 j1
        refine wp_region_noPanic ?_
        refine wp_region_held_drew (S := fun W => RB w W (SC w ah al bh bl b8 s3 t3) ∧ ((W.cell? ⟨w.heap.size, 0, none⟩ = some (.int .u64 ah) ∧ W.cell? ⟨w.heap.size, 1, none⟩ = some (.int .u64 al)) ∧ (W.cell? ⟨w.heap.size + 1, 0, none⟩ = some (.int .u64 bh) ∧ W.cell? ⟨w.heap.size + 1, 1, none⟩ = some (.int .u64 bl)) ∧ (W.cell? ⟨b8, 0, none⟩ = some (.int .u64 s3) ∧ W.cell? ⟨b8, 1, none⟩ = some (.int .u64 t3)))) (by kernel_rfl) ?_ (fun hHeld => ?_)
        · exact HN8.out _ _ HS8.out ⟨rfl, rfl, rfl, Nat.le_refl _, fun _ _ => rfl⟩
        refine wpAnyH_take (i := 0) (oi := { dst := some 35, op := Op.load 27 (Operand.tmp 8), type := 27, pos := "ref.go:63", after := #[], guard := none }) (v := ?_) rfl (by kernel_rfl) (by kernel_rfl) (by kernel_rfl) (fun _ _ _ h => h) (Or.inl ⟨by rfl, ?_⟩) (by assumption) ?_
        rotate_left
        · (intro w9 hS9; (try dsimp only at hS9); go_simp); all_goals (with_reducible rfl)
        (try simp only [Act.put, List.setIfInBounds_toArray, List.set_cons_zero, List.set_cons_succ])
        refine wpAnyH_take (i := 1) (oi := { dst := some 36, op := Op.load 27 (Operand.tmp 2), type := 27, pos := "ref.go:63", after := #[], guard := none }) (v := ?_) rfl (by kernel_rfl) (by kernel_rfl) (by kernel_rfl) (fun _ _ _ h => h) (Or.inl ⟨by rfl, ?_⟩) (by assumption) ?_
        rotate_left
        · (intro w9 hS9; (try dsimp only at hS9); go_simp); all_goals (with_reducible rfl)
        (try simp only [Act.put, List.setIfInBounds_toArray, List.set_cons_zero, List.set_cons_succ])
        refine wpAnyH_take (i := 2) (oi := { dst := some 37, op := Op.load 27 (Operand.tmp 3), type := 27, pos := "ref.go:63", after := #[], guard := none }) (v := ?_) rfl (by kernel_rfl) (by kernel_rfl) (by kernel_rfl) (fun _ _ _ h => h) (Or.inl ⟨by rfl, ?_⟩) (by assumption) ?_
        rotate_left
        · (intro w9 hS9; (try dsimp only at hS9); go_simp); all_goals (with_reducible rfl)
        (try simp only [Act.put, List.setIfInBounds_toArray, List.set_cons_zero, List.set_cons_succ])
        refine wpAnyH_ready (rs := [3]) (by kernel_rfl) (by simp) ?_
        refine AllReadyH.cons (o := { dst := some 38, op := Op.call { callee := Callee.value (Operand.func 26), args := #[Operand.tmp 36, Operand.tmp 37], argTypes := #[27, 27] }, type := 3, pos := "ref.go:63", after := #[{ on := 1, ground := Ground.data }, { on := 2, ground := Ground.data }], guard := none }) rfl (fun K hK => ?_) ?_
        · go_simp
          with_reducible refine (HC.out _).mono ?_
          rintro e w1 ⟨rfl, hb1⟩
          have hS1 := HN8.out _ _ (by assumption) hb1
          (try go_wp2_with fail)
          refine hK.out _ _ ?_ (fun hHeld => ?_)
          · (first | exact hS1 | assumption | exact HR8.out _ (by assumption))
          clear hK K
          (try simp only [Act.put, List.setIfInBounds_toArray, List.set_cons_zero, List.set_cons_succ])
          refine wpAnyH_take (i := 4) (oi := { dst := some 39, op := Op.binOp BinOp.lss 3 (Operand.tmp 38) (Operand.const (Value.int IntKind.i64 0)) 3, type := 4, pos := "ref.go:63", after := #[{ on := 3, ground := Ground.data }, { on := 5, ground := Ground.gcOnly Departure.lateStores }], guard := none }) (v := ?_) rfl (by kernel_rfl) (by kernel_rfl) (by kernel_rfl) (fun _ _ _ h => h) (Or.inl ⟨by rfl, ?_⟩) (by assumption) ?_
          rotate_left
          · (intro w9 hS9; (try dsimp only at hS9); go_simp); all_goals (with_reducible rfl)
          (try simp only [Act.put, List.setIfInBounds_toArray, List.set_cons_zero, List.set_cons_succ])
          refine wpAnyH_ready (rs := [5]) (by kernel_rfl) (by simp) ?_
          refine AllReadyH.cons (o := { dst := none, op := Op.store 27 (Operand.tmp 4) (Operand.tmp 35), type := 0, pos := "ref.go:63", after := #[{ on := 0, ground := Ground.data }, { on := 3, ground := Ground.chain }, { on := 0, ground := Ground.phase }, { on := 1, ground := Ground.textOnly Departure.lateStores }, { on := 2, ground := Ground.textOnly Departure.lateStores }, { on := 3, ground := Ground.textOnly Departure.lateStoresUnsure }, { on := 4, ground := Ground.textOnly Departure.lateStores }], guard := none }) rfl (fun K hK => ?_) ?_
          · rw [if_pos (by rfl)]
            obtain ⟨p0, q0, hpq⟩ := RB.res (And.left (by assumption))
            refine wp_store_row 27 _ _ rfl _ #[.int .u64 s3, .int .u64 t3] rfl rfl 27 #[p0, q0] hpq size27 rfl (one2 _ _) ?_
            (try go_wp2_with fail)
            refine hK.out _ _ ?_ (fun hHeld => ?_)
            · (first | exact hS1 | assumption | exact HR8.out _ (by assumption))
            clear hK K
            (try simp only [Act.put, List.setIfInBounds_toArray, List.set_cons_zero, List.set_cons_succ])
            refine wpAnyH_take (i := 6) (oi := { dst := some 5, op := Op.assign (Operand.tmp 39), type := 4, pos := "ref.go:63", after := #[{ on := 4, ground := Ground.data }, { on := 5, ground := Ground.chain }, { on := 0, ground := Ground.phase }, { on := 1, ground := Ground.phase }, { on := 2, ground := Ground.phase }, { on := 3, ground := Ground.phase }, { on := 4, ground := Ground.phase }, { on := 5, ground := Ground.phase }], guard := none }) (v := ?_) rfl (by kernel_rfl) (by kernel_rfl) (by kernel_rfl) (fun _ _ _ h => h) (Or.inl ⟨by rfl, ?_⟩) (by assumption) ?_
            rotate_left
            · (intro w9 hS9; (try dsimp only at hS9); go_simp); all_goals (with_reducible rfl)
            (try simp only [Act.put, List.setIfInBounds_toArray, List.set_cons_zero, List.set_cons_succ])
            refine wpAnyH_done (by kernel_rfl) (NoPanic.normal ?_) _
            have hBf := HFin.out (w1.setRow (w.heap.size + 1 + 1) #[.int .u64 s3, .int .u64 t3]) (by assumption)
            obtain ⟨r0, r1⟩ := two_cells (setRow_heap _ _ #[p0, q0] #[.int .u64 s3, .int .u64 t3] 27 (0, 0) hpq)
            go_wp2_with fail
            generalize w1.setRow (w.heap.size + 1 + 1) #[.int .u64 s3, .int .u64 t3] = W1 at *
            exact bodyPost_ret (v := .tuple #[wv s3 t3, .bool (decide (c < 0))]) (by simp [results, Try.results23, go_sem, r0, r1]) rfl ⟨by rw [HD.out], hBf⟩
          exact AllReadyH.nil
        exact AllReadyH.nil


theorem numOf_flip (n : Nat) (hn : n < MM) : numOf (fun j => 1 - bitOf n j) 128 = MM - 1 - n := by
  have key : ∀ k, numOf (fun j => 1 - bitOf n j) k + numOf (bitOf n) k + 1 = 2 ^ k := by
    intro k
    induction k with
    | zero => simp [numOf]
    | succ k ih =>
      have := bitOf_le n k
      rw [numOf, numOf, Nat.pow_succ]
      omega
  have h := key 128
  rw [numOf_whole n hn] at h
  rw [MM_pow]; omega

theorem refsub_any (a b : Nat) (ha : a < MM) (hb : b < MM) (w : World) :
    Calls Try.prog 23 #[W a, W b] w fun e w' => e = .returned (.tuple #[W ((a + MM - b) % MM), .bool (decide (a < b))]) ∧ Below w.heap.size w w' := by
  have hm : MM - 1 - b < MM := by rw [MM_eq] at *; omega
  have h1 : 1 < MM := by rw [MM_eq]; omega
  have hs : (a + (MM - 1 - b)) % MM < MM := Nat.mod_lt _ (by rw [MM_eq]; omega)
  have e : ((a + (MM - 1 - b)) % MM + 1) % MM = (a + MM - b) % MM := by rw [MM_eq] at *; omega
  have H2 : ∀ w, Calls Try.prog 20 #[W ((a + (MM - 1 - b)) % MM), .agg #[.int .u64 0, .int .u64 1]] w fun e w' =>
      e = .returned (.tuple #[W ((a + MM - b) % MM), .bool (decide (MM ≤ (a + (MM - 1 - b)) % MM + 1))]) ∧ Below w.heap.size w w' := fun w => by
    have := refadd_any _ 1 hs h1 w
    rw [e] at this
    exact this
  refine refsub_walk (a / M) (a % M) (b / M) (b % M) (fun j => 1 - bitOf b j) (bitOf b) (fun w => bits_any b hb w) _ _ _ _ _ _ _ _ _ (cmpI a b) (bitOf_le b) rfl
    (fun w => by have := of_bits (fun j => 1 - bitOf b j) (fun i => by omega) w; rw [numOf_flip b hb] at this; exact this)
    (fun w => refadd_any a _ ha hm w) H2 (fun w => refcmp_any a b ha hb w) ?_ w
  unfold cmpI
  by_cases h : a < b
  · rw [if_pos h]; simp [h]
  · rw [if_neg h]
    by_cases h2 : b < a
    · rw [if_pos h2]; simp [h]
    · rw [if_neg h2]; simp [h]

end Go.Proofs.Ytcaeaepnobbjlaa
