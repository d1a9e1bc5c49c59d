import Derived.Test.YtcaeaepnobbjlaaU
namespace Go.Proofs.Ytcaeaepnobbjlaa
set_option linter.unusedVariables false
set_option linter.unusedSimpArgs false
open Go.RowKit

/-- The first k bits of f. -/
def headB (f : Nat → Nat) (k : Nat) : Nat → Nat := fun j => if j < k then f j else 0
theorem headB_zero (f : Nat → Nat) : bitsA (headB f 0) = zrow := by
  apply Array.ext
  · rw [bitsA_size]; rfl
  · intro i h1 h2
    rw [bitsA_get]
    simp [headB, zrow]
theorem headB_succ (f : Nat → Nat) (k : Nat) : bitsA (upd (headB f k) k (f k)) = bitsA (headB f (k + 1)) := by
  refine bitsA_congr fun j hj => ?_
  unfold upd headB
  by_cases e : j = k
  · subst e; rw [if_pos rfl, if_pos (by omega)]
  · rw [if_neg e]
    by_cases c : j < k
    · rw [if_pos c, if_pos (by omega)]
    · rw [if_neg c, if_neg (by omega)]
theorem headB_skip (f : Nat → Nat) (k : Nat) (h : f k = 0) : bitsA (headB f k) = bitsA (headB f (k + 1)) := by
  refine bitsA_congr fun j hj => ?_
  unfold headB
  by_cases e : j = k
  · subst e; rw [if_neg (by omega), if_pos (by omega), h]
  · by_cases c : j < k
    · rw [if_pos c, if_pos (by omega)]
    · rw [if_neg c, if_neg (by omega)]
theorem headB_all (f : Nat → Nat) : bitsA (headB f 128) = bitsA f := bitsA_congr fun j hj => if_pos hj

/-- A row that is read, a row that is made, and the result's cell. -/
structure OneI (w wr : World) (g h : Nat → Nat) (b5 b6 b4 : Nat) : Prop where
  below : Below w.heap.size w wr
  r5 : wr.heap[b5]? = some (.cells (bitsA g) 85 (0, 0))
  r6 : wr.heap[b6]? = some (.cells (bitsA h) 85 (0, 0))
  r4 : wr.heap[b4]? = some (.cells #[.int .u64 0, .int .u64 0] 27 (0, 0))
  l6 : w.heap.size ≤ b6
  l4 : w.heap.size ≤ b4
  n5 : b5 ≠ b6
  n4 : b4 ≠ b6
theorem OneI.read {w wr : World} {g h : Nat → Nat} {b5 b6 b4 : Nat} (I : OneI w wr g h b5 b6 b4) (k : Nat) (hk : k < 128) : wr.cell? ⟨b5, k, none⟩ = some (.int .u64 (g k)) := by
  rw [cell_of_row _ _ _ _ _ _ I.r5]; exact bitsA_get? g k hk
theorem OneI.cell {w wr : World} {g h : Nat → Nat} {b5 b6 b4 : Nat} (I : OneI w wr g h b5 b6 b4) (k : Nat) (hk : k < 128) :
    wr.cell? ⟨b6, k, none⟩ = some (.int .u64 (h k)) ∧ wr.frozen? ⟨b6, k, none⟩ = false :=
  ⟨by rw [cell_of_row _ _ _ _ _ _ I.r6]; exact bitsA_get? h k hk, frozen_of_row _ _ _ _ _ I.r6⟩
theorem OneI.store {w wr : World} {g h : Nat → Nat} {b5 b6 b4 : Nat} (I : OneI w wr g h b5 b6 b4) (k v : Nat) (h' : Nat → Nat) (hh : bitsA (upd h k v) = bitsA h') :
    OneI w (wr.setCell ⟨b6, k, none⟩ (.int .u64 v)) g h' b5 b6 b4 := by
  refine ⟨I.below.setCell (by simpa using I.l6) _, old_set _ (by simpa using I.n5) I.r5, ?_, old_set _ (by simpa using I.n4) I.r4, I.l6, I.l4, I.n5, I.n4⟩
  rw [← hh, ← bitsA_set]; exact heap_setCell_same _ _ _ _ _ _ I.r6
theorem OneI.same {w wr : World} {g h h' : Nat → Nat} {b5 b6 b4 : Nat} (I : OneI w wr g h b5 b6 b4) (hh : bitsA h = bitsA h') : OneI w wr g h' b5 b6 b4 :=
  ⟨I.below, I.r5, by rw [← hh]; exact I.r6, I.r4, I.l6, I.l4, I.n5, I.n4⟩

set_option maxRecDepth 100000 in
set_option maxHeartbeats 8000000 in
theorem refleft_walk (ah al : Nat) (n : Int) (g f : Nat → Nat) (p q : Nat) (hn1 : n ≤ 9223372036854775807)
    (hb : ∀ w, Calls Try.prog 70 #[wv ah al] w fun e w' => e = .returned (.agg (bitsA g)) ∧ Below w.heap.size w w')
    (ho : ∀ w, Calls Try.prog 71 #[.agg (bitsA f)] w fun e w' => e = .returned (wv p q) ∧ Below w.heap.size w w')
    (hsel : (n < 1 ∧ ∀ k, k < 128 → f k = g k) ∨ (∃ N : Nat, n = N ∧ 1 ≤ N ∧ ∀ k, k < 128 → (N < 128 ∧ k + N < 128 → f k = g (k + N)) ∧ (¬ (N < 128 ∧ k + N < 128) → f k = 0))) (w : World) :
    Calls Try.prog 31 #[wv ah al, .int .i64 n] w fun e w' => e = .returned (wv p q) ∧ Below w.heap.size w w' := by
  have HB := Lib.hid hb
  have HO := Lib.hid ho
  have HS := Lib.hid hsel
  have HN := Lib.hid hn1
  clear hb ho hsel hn1
  have hz := zero85
  go_enter Try.func31, Try.ntmps31
  go_wp2_with fail
  have hX := ((Boxes.nil w).new 27 ah al).new 27 0 0
  simp only [size_alloc, Int.natCast_zero] at hX
  generalize (w.alloc (.cells #[.int .u64 ah, .int .u64 al] 27)).alloc (.cells #[.int .u64 0, .int .u64 0] 27) = w0 at *
  have HX0 : Hid (Boxes w w0 [(w.heap.size + 1, 27, 0, 0), (w.heap.size, 27, ah, al)]) := hX
  clear hX
  obtain ⟨⟨r0, s0⟩, -, -⟩ := HX0.out.at (w.heap.size) 27 ah al (by simp)
  go_wp2_with (first
    | (go_at_call 70; (with_reducible refine (HB.out _).mono ?_); rintro e w1 ⟨rfl, hb1⟩
       have HX1 := Lib.hid (HX0.out.next hb1)
       clear hb1)
    | (refine wpList_store_row rfl 85 _ _ rfl w1.heap.size (bitsA g) rfl rfl 85 zrow (heap_alloc_new _ _) (size85.trans (by rw [bitsA_size])) (by simp [zrow, bitsA_size]) (bitsA_one _) ?_))
  have HI0 : Hid (OneI w (((w1.alloc (.cells zrow 85)).setRow w1.heap.size (bitsA g)).alloc (.cells zrow 85)) g (headB f 0) w1.heap.size (w1.heap.size + 1) (w.heap.size + 1)) := by
    have hB := HX1.out.below
    have hl := HX1.out.lt (w.heap.size + 1, 27, 0, 0) (by simp)
    have hsz : ((w1.alloc (.cells zrow 85)).setRow w1.heap.size (bitsA g)).heap.size = w1.heap.size + 1 := by rw [setRow_size, size_alloc]
    refine ⟨below_alloc (below_setRow (below_alloc hB _) _ _ hB.size) _, old_alloc _ (setRow_heap _ _ zrow _ 85 (0, 0) (heap_alloc_new _ _)), ?_, old_alloc _ (old_row _ (by simp at hl ⊢; omega) (old_alloc _ (HX1.out.all (w.heap.size + 1, 27, 0, 0) (by simp)))), ?_, by omega, by omega, by simp at hl ⊢; omega⟩
    · rw [headB_zero, ← hsz]; exact heap_alloc_new _ _
    · have := hB.size; omega
  have hsz : ((w1.alloc (.cells zrow 85)).setRow w1.heap.size (bitsA g)).heap.size = w1.heap.size + 1 := by rw [setRow_size, size_alloc]
  try rw [hsz]
  generalize ((w1.alloc (.cells zrow 85)).setRow w1.heap.size (bitsA g)).alloc (.cells zrow 85) = w2 at *
  clear hsz HX1 r0 s0 HX0
  generalize hb6 : w1.heap.size + 1 = b6 at *
  generalize w1.heap.size = b5 at *
  clear hb6
  go_loopw [7] (fun i wr => ∃ k : Nat, k ≤ 128 ∧ i = .int .i64 k ∧ OneI w wr g (headB f k) b5 b6 (w.heap.size + 1)) (fun i _ => (128 - intOf i).toNat)
  case atStart => exact ⟨0, by omega, rfl, HI0.out⟩
  case round =>
    obtain ⟨k, hk, rfl, hI⟩ := hrel
    by_cases hlt : k < 128
    · have hd : decide ((k : Int) < 128) = true := by simp; omega
      have k0 : (0 : Int) ≤ (k : Int) := by omega
      have k1 : (k : Int) < 128 := by omega
      have e9 : IntKind.i64.wrap ((k : Int) + 1) = ((k + 1 : Nat) : Int) := by rw [IntWalk.i64_in _ (by omega)]; omega
      obtain ⟨c6, z6⟩ := hI.cell k hlt
      have hn1 := HN.out
      have HK : Hid (k < 128) := hlt
      have HIk := Lib.hid hI
      rcases HS.out with ⟨hn, hf⟩ | ⟨N, rfl, hN, hf⟩
      · have d1 : decide (n < 1) = true := decide_eq_true hn
        have hf := hf k hlt
        have c5 := hI.read k hlt
        clear hn hn1 hlt
        have HSt := Lib.hid (HIk.out.store k (f k) (headB f (k + 1)) (headB_succ f k))
        rw [hf] at HSt
        clear hf
        clear hI HIk
        generalize headB f k k = old at *
        generalize g k = v at *
        go_wp2_with fail
        try (go_region; go_wp2_with fail)
        go_roundw
        case rel => exact ⟨k + 1, HK.out, rfl, by first | exact HSt.out | exact (HSt.out)⟩
        case measure => have := HK.out; simp [intOf]; omega
      · have d1 : decide ((N : Int) < 1) = false := decide_eq_false (by omega)
        obtain ⟨f1, f2⟩ := hf k hlt
        clear hf
        by_cases hs : N < 128
        · have d2 : decide ((N : Int) < 128) = true := by simp; omega
          have e1 : IntKind.i64.wrap ((k : Int) + N) = ((k + N : Nat) : Int) := by rw [IntWalk.i64_in _ (by omega)]; omega
          by_cases ht : k + N < 128
          · have d3 : decide (((k + N : Nat) : Int) < 128) = true := by simp; omega
            have k3 : ((k + N : Nat) : Int) < 128 := by omega
            have hf := f1 ⟨hs, ht⟩
            have c5 := hI.read (k + N) ht
            clear f1 f2 hs ht hn1 hN hlt
            generalize hkn : k + N = kn at *
            clear hkn
            have HSt := Lib.hid (HIk.out.store k (f k) (headB f (k + 1)) (headB_succ f k))
            rw [hf] at HSt
            clear hf
            clear hI HIk
            generalize headB f k k = old at *
            generalize g kn = v at *
            go_wp2_with fail
            try (go_region; go_wp2_with fail)
            go_roundw
            case rel => exact ⟨k + 1, HK.out, rfl, by first | exact HSt.out | exact (HSt.out)⟩
            case measure => have := HK.out; simp [intOf]; omega
          · have d3 : decide (((k + N : Nat) : Int) < 128) = false := by simp; omega
            have hf := f2 (fun c => ht c.2)
            clear f1 f2 hs ht hn1 hN hlt
            generalize hkn : k + N = kn at *
            clear hkn
            have HSt := Lib.hid (HIk.out.same (headB_skip f k hf))
            clear hf
            clear hI HIk
            generalize headB f k k = old at *
            go_wp2_with fail
            go_roundw
            case rel => exact ⟨k + 1, HK.out, rfl, HSt.out⟩
            case measure => have := HK.out; simp [intOf]; omega
        · have d2 : decide ((N : Int) < 128) = false := by simp; omega
          have hf := f2 (fun c => hs c.1)
          clear f1 f2 hs hn1 hN hlt
          have HSt := Lib.hid (HIk.out.same (headB_skip f k hf))
          clear hf
          clear hI HIk
          generalize headB f k k = old at *
          go_wp2_with fail
          go_roundw
          case rel => exact ⟨k + 1, HK.out, rfl, HSt.out⟩
          case measure => have := HK.out; simp [intOf]; omega
    · obtain rfl : k = 128 := by omega
      have hrow := hI.r6
      rw [headB_all] at hrow
      have HRo := Lib.hid hrow
      have HI2 := Lib.hid hI
      clear hrow hI hk hlt
      go_wp2_with (first
        | (refine wpList_load_row rfl 85 _ rfl b6 rfl 85 (bitsA f) (0, 0) _ HRo.out Try.underlying85 rfl (size85.trans (by rw [bitsA_size])) ?_)
        | (go_at_call 71; (with_reducible refine (HO.out _).mono ?_); rintro e w3 ⟨rfl, hb1⟩
           have HC1 := Lib.hid (old_below hb1 HI2.out.r4)
           have HB1 : Hid (Below w.heap.size w w3) := below_next HI2.out.below hb1
           clear hb1)
        | (refine wpList_store_row rfl 27 _ _ rfl (w.heap.size + 1) #[.int .u64 p, .int .u64 q] rfl rfl 27 #[.int .u64 0, .int .u64 0] HC1.out size27 rfl (one2 _ _) ?_))
      obtain ⟨p0, p1⟩ := two_cells (setRow_heap _ _ #[.int .u64 0, .int .u64 0] #[.int .u64 p, .int .u64 q] 27 (0, 0) HC1.out)
      have hB := below_setRow HB1.out (w.heap.size + 1) #[.int .u64 p, .int .u64 q] (by omega)
      generalize w3.setRow (w.heap.size + 1) #[.int .u64 p, .int .u64 q] = W1 at *
      exact bodyPost_ret (v := wv p q) (by simp [results, Try.results31, go_sem, p0, p1]) rfl ⟨rfl, hB⟩

set_option maxRecDepth 100000 in
set_option maxHeartbeats 8000000 in
theorem refright2_walk (ah al : Nat) (n : Int) (g f : Nat → Nat) (p q : Nat) (hn1 : n ≤ 9223372036854775807)
    (hb : ∀ w, Calls Try.prog 70 #[wv ah al] w fun e w' => e = .returned (.agg (bitsA g)) ∧ Below w.heap.size w w')
    (ho : ∀ w, Calls Try.prog 71 #[.agg (bitsA f)] w fun e w' => e = .returned (wv p q) ∧ Below w.heap.size w w')
    (hsel : (n < 1 ∧ ∀ k, k < 128 → f k = g k) ∨ (∃ N : Nat, n = N ∧ 1 ≤ N ∧ ∀ k, k < 128 → (N ≤ k → f k = g (k - N)) ∧ (¬ N ≤ k → f k = 0))) (w : World) :
    Calls Try.prog 33 #[wv ah al, .int .i64 n] w fun e w' => e = .returned (wv p q) ∧ Below w.heap.size w w' := by
  have HB := Lib.hid hb
  have HO := Lib.hid ho
  have HS := Lib.hid hsel
  have HN := Lib.hid hn1
  clear hb ho hsel hn1
  have hz := zero85
  go_enter Try.func33, Try.ntmps33
  go_wp2_with fail
  have hX := ((Boxes.nil w).new 27 ah al).new 27 0 0
  simp only [size_alloc, Int.natCast_zero] at hX
  generalize (w.alloc (.cells #[.int .u64 ah, .int .u64 al] 27)).alloc (.cells #[.int .u64 0, .int .u64 0] 27) = w0 at *
  have HX0 : Hid (Boxes w w0 [(w.heap.size + 1, 27, 0, 0), (w.heap.size, 27, ah, al)]) := hX
  clear hX
  obtain ⟨⟨r0, s0⟩, -, -⟩ := HX0.out.at (w.heap.size) 27 ah al (by simp)
  go_wp2_with (first
    | (go_at_call 70; (with_reducible refine (HB.out _).mono ?_); rintro e w1 ⟨rfl, hb1⟩
       have HX1 := Lib.hid (HX0.out.next hb1)
       clear hb1)
    | (refine wpList_store_row rfl 85 _ _ rfl w1.heap.size (bitsA g) rfl rfl 85 zrow (heap_alloc_new _ _) (size85.trans (by rw [bitsA_size])) (by simp [zrow, bitsA_size]) (bitsA_one _) ?_))
  have HI0 : Hid (OneI w (((w1.alloc (.cells zrow 85)).setRow w1.heap.size (bitsA g)).alloc (.cells zrow 85)) g (headB f 0) w1.heap.size (w1.heap.size + 1) (w.heap.size + 1)) := by
    have hB := HX1.out.below
    have hl := HX1.out.lt (w.heap.size + 1, 27, 0, 0) (by simp)
    have hsz : ((w1.alloc (.cells zrow 85)).setRow w1.heap.size (bitsA g)).heap.size = w1.heap.size + 1 := by rw [setRow_size, size_alloc]
    refine ⟨below_alloc (below_setRow (below_alloc hB _) _ _ hB.size) _, old_alloc _ (setRow_heap _ _ zrow _ 85 (0, 0) (heap_alloc_new _ _)), ?_, old_alloc _ (old_row _ (by simp at hl ⊢; omega) (old_alloc _ (HX1.out.all (w.heap.size + 1, 27, 0, 0) (by simp)))), ?_, by omega, by omega, by simp at hl ⊢; omega⟩
    · rw [headB_zero, ← hsz]; exact heap_alloc_new _ _
    · have := hB.size; omega
  have hsz : ((w1.alloc (.cells zrow 85)).setRow w1.heap.size (bitsA g)).heap.size = w1.heap.size + 1 := by rw [setRow_size, size_alloc]
  try rw [hsz]
  generalize ((w1.alloc (.cells zrow 85)).setRow w1.heap.size (bitsA g)).alloc (.cells zrow 85) = w2 at *
  clear hsz HX1 r0 s0 HX0
  generalize hb6 : w1.heap.size + 1 = b6 at *
  generalize w1.heap.size = b5 at *
  clear hb6
  go_loopw [7] (fun i wr => ∃ k : Nat, k ≤ 128 ∧ i = .int .i64 k ∧ OneI w wr g (headB f k) b5 b6 (w.heap.size + 1)) (fun i _ => (128 - intOf i).toNat)
  case atStart => exact ⟨0, by omega, rfl, HI0.out⟩
  case round =>
    obtain ⟨k, hk, rfl, hI⟩ := hrel
    by_cases hlt : k < 128
    · have hd : decide ((k : Int) < 128) = true := by simp; omega
      have k0 : (0 : Int) ≤ (k : Int) := by omega
      have k1 : (k : Int) < 128 := by omega
      have e9 : IntKind.i64.wrap ((k : Int) + 1) = ((k + 1 : Nat) : Int) := by rw [IntWalk.i64_in _ (by omega)]; omega
      obtain ⟨c6, z6⟩ := hI.cell k hlt
      have hn1 := HN.out
      have HK : Hid (k < 128) := hlt
      have HIk := Lib.hid hI
      rcases HS.out with ⟨hn, hf⟩ | ⟨N, rfl, hN, hf⟩
      · have d1 : decide (n < 1) = true := decide_eq_true hn
        have hf := hf k hlt
        have c5 := hI.read k hlt
        clear hn hn1 hlt
        have HSt := Lib.hid (HIk.out.store k (f k) (headB f (k + 1)) (headB_succ f k))
        rw [hf] at HSt
        clear hf
        clear hI HIk
        generalize headB f k k = old at *
        generalize g k = v at *
        go_wp2_with fail
        try (go_region; go_wp2_with fail)
        go_roundw
        case rel => exact ⟨k + 1, HK.out, rfl, by first | exact HSt.out | exact (HSt.out)⟩
        case measure => have := HK.out; simp [intOf]; omega
      · have d1 : decide ((N : Int) < 1) = false := decide_eq_false (by omega)
        obtain ⟨f1, f2⟩ := hf k hlt
        clear hf
        by_cases hs : N ≤ k
        · have d2 : decide (N ≤ k) = true := decide_eq_true hs
          have e1 : IntKind.i64.wrap ((k : Int) - N) = ((k - N : Nat) : Int) := by rw [IntWalk.i64_in _ (by omega)]; omega
          have k3 : ((k - N : Nat) : Int) < 128 := by omega
          have hf := f1 hs
          have c5 := hI.read (k - N) (by omega)
          clear f1 f2 hs hn1 hN hlt
          generalize hkn : k - N = kn at *
          clear hkn
          have HSt := Lib.hid (HIk.out.store k (f k) (headB f (k + 1)) (headB_succ f k))
          rw [hf] at HSt
          clear hf
          clear hI HIk
          generalize headB f k k = old at *
          generalize g kn = v at *
          go_wp2_with fail
          try (go_region; go_wp2_with fail)
          go_roundw
          case rel => exact ⟨k + 1, HK.out, rfl, by first | exact HSt.out | exact (HSt.out)⟩
          case measure => have := HK.out; simp [intOf]; omega
        · have d2 : decide (N ≤ k) = false := decide_eq_false hs
          have hf := f2 hs
          clear f1 f2 hs hn1 hN hlt
          have HSt := Lib.hid (HIk.out.same (headB_skip f k hf))
          clear hf
          clear hI HIk
          generalize headB f k k = old at *
          go_wp2_with fail
          go_roundw
          case rel => exact ⟨k + 1, HK.out, rfl, HSt.out⟩
          case measure => have := HK.out; simp [intOf]; omega
    · obtain rfl : k = 128 := by omega
      have hrow := hI.r6
      rw [headB_all] at hrow
      have HRo := Lib.hid hrow
      have HI2 := Lib.hid hI
      clear hrow hI hk hlt
      go_wp2_with (first
        | (refine wpList_load_row rfl 85 _ rfl b6 rfl 85 (bitsA f) (0, 0) _ HRo.out Try.underlying85 rfl (size85.trans (by rw [bitsA_size])) ?_)
        | (go_at_call 71; (with_reducible refine (HO.out _).mono ?_); rintro e w3 ⟨rfl, hb1⟩
           have HC1 := Lib.hid (old_below hb1 HI2.out.r4)
           have HB1 : Hid (Below w.heap.size w w3) := below_next HI2.out.below hb1
           clear hb1)
        | (refine wpList_store_row rfl 27 _ _ rfl (w.heap.size + 1) #[.int .u64 p, .int .u64 q] rfl rfl 27 #[.int .u64 0, .int .u64 0] HC1.out size27 rfl (one2 _ _) ?_))
      obtain ⟨p0, p1⟩ := two_cells (setRow_heap _ _ #[.int .u64 0, .int .u64 0] #[.int .u64 p, .int .u64 q] 27 (0, 0) HC1.out)
      have hB := below_setRow HB1.out (w.heap.size + 1) #[.int .u64 p, .int .u64 q] (by omega)
      generalize w3.setRow (w.heap.size + 1) #[.int .u64 p, .int .u64 q] = W1 at *
      exact bodyPost_ret (v := wv p q) (by simp [results, Try.results33, go_sem, p0, p1]) rfl ⟨rfl, hB⟩

end Go.Proofs.Ytcaeaepnobbjlaa

