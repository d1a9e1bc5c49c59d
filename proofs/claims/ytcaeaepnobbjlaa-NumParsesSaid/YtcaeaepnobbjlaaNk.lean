import Derived.Test.YtcaeaepnobbjlaaNj
namespace Go.Proofs.Ytcaeaepnobbjlaa
set_option linter.unusedVariables false
set_option linter.unusedSimpArgs false
open Go.RowKit

set_option maxRecDepth 100000 in
set_option maxHeartbeats 8000000 in
theorem refprint_walk (ah al : Nat) (g : Nat → Nat) (tx : Nat → ByteArray) (h0 : tx 0 = ⟨#[48]⟩)
    (hb : ∀ w, Calls Try.prog 70 #[wv ah al] w fun e w' => e = .returned (.agg (bitsA g)) ∧ Below w.heap.size w w')
    (ht : ∀ k, k < 128 → ∀ w, Calls Try.prog 78 #[.string (tx k), .int .u64 (g k)] w fun e w' => e = .returned (.string (tx (k + 1))) ∧ Below w.heap.size w w') (w : World) :
    Calls Try.prog 46 #[wv ah al] w fun e w' => e = .returned (.string (tx 128)) ∧ Below w.heap.size w w' := by
  have HB := Lib.hid hb
  have HT := Lib.hid ht
  have H0 := Lib.hid h0
  clear hb ht h0
  have hz := zero85
  go_enter Try.func46, Try.ntmps46
  go_wp2_with fail
  have HX0 : Hid (Boxes w (w.alloc (.cells #[.int .u64 ah, .int .u64 al] 27)) [(w.heap.size, 27, ah, al)]) := (Boxes.nil w).new 27 ah al
  generalize w.alloc (.cells #[.int .u64 ah, .int .u64 al] 27) = w0 at *
  obtain ⟨⟨r0, s0⟩, -, -⟩ := HX0.out.at (w.heap.size) 27 ah al (by simp)
  go_wp2_with (first
    | (go_at_call 70; (with_reducible refine (HB.out _).mono ?_); rintro e w1 ⟨rfl, hb1⟩
       have HX1 := Lib.hid (HX0.out.next hb1)
       clear hb1)
    | (refine wpList_store_row rfl 85 _ _ rfl w1.heap.size (bitsA g) rfl rfl 85 zrow (heap_alloc_new _ _) (size85.trans (by rw [bitsA_size])) (by simp [zrow, bitsA_size]) (bitsA_one _) ?_
       have HI : Hid (Below w.heap.size w ((w1.alloc (.cells zrow 85)).setRow w1.heap.size (bitsA g))) := below_setRow (below_alloc HX1.out.below _) _ _ HX1.out.below.size
       have HRow : Hid (((w1.alloc (.cells zrow 85)).setRow w1.heap.size (bitsA g)).heap[w1.heap.size]? = some (.cells (bitsA g) 85 (0, 0))) := setRow_heap _ _ zrow _ 85 (0, 0) (heap_alloc_new _ _)
       generalize (w1.alloc (.cells zrow 85)).setRow w1.heap.size (bitsA g) = w2 at *
       generalize w1.heap.size = b3 at *))
  go_loopw [4, 5] (fun v i wr => ∃ k : Nat, k ≤ 128 ∧ i = .int .i64 k ∧ v = .string (tx k) ∧ Below w.heap.size w wr ∧ wr.heap[b3]? = some (.cells (bitsA g) 85 (0, 0))) (fun _ i _ => (128 - intOf i).toNat)
  case atStart => exact ⟨0, by omega, rfl, by rw [H0.out], HI.out, HRow.out⟩
  case round =>
    obtain ⟨k, hk, rfl, rfl, hB, hrow⟩ := hrel
    by_cases hlt : k < 128
    · have hd : decide ((k : Int) < 128) = true := by simp; omega
      have k0 : (0 : Int) ≤ (k : Int) := by omega
      have k1 : (k : Int) < 128 := by omega
      have e9 : IntKind.i64.wrap ((k : Int) + 1) = ((k + 1 : Nat) : Int) := by rw [IntWalk.i64_in _ (by omega)]; omega
      have HK : Hid (k < 128) := hlt
      have K := Lib.hid (HT.out k hlt)
      have c5 : wr.cell? ⟨b3, k, none⟩ = some (.int .u64 (g k)) := by rw [cell_of_row _ _ _ _ _ _ hrow]; exact bitsA_get? g k hlt
      have HB1 := Lib.hid hB
      have HR1 := Lib.hid hrow
      generalize htx : tx (k + 1) = t' at *
      have HX := Lib.hid htx
      generalize tx k = t at *
      generalize g k = x at *
      clear hB hrow hlt hk htx
      go_wp2_with (first
        | (go_at_call 78; (with_reducible refine (K.out _).mono ?_); rintro e w3 ⟨rfl, hb1⟩
           have HB2 : Hid (Below w.heap.size w w3) := below_next HB1.out hb1
           have HR2 := Lib.hid (old_below hb1 HR1.out)
           clear hb1))
      go_roundw
      case rel => exact ⟨k + 1, HK.out, rfl, by rw [HX.out], HB2.out, HR2.out⟩
      case measure => have := HK.out; simp [intOf]; omega
    · obtain rfl : k = 128 := by omega
      have HB1 := Lib.hid hB
      generalize htx : tx 128 = t at *
      have HX := Lib.hid htx
      clear hB hrow hlt hk htx
      go_wp2_with fail
      go_ret
      exact ⟨by rw [HX.out]; rfl, HB1.out⟩
theorem numOf_le (n : Nat) (hn : n < MM) (k : Nat) (hk : k ≤ 128) : numOf (bitOf n) k < MM := by
  rw [numOf_top n k hn hk]; exact Nat.lt_of_le_of_lt (Nat.div_le_self _ _) hn
theorem refprint_any (n : Nat) (hn : n < MM) (w : World) : Calls Try.prog 46 #[W n] w fun e w' => e = .returned (.string (textN n)) ∧ Below w.heap.size w w' := by
  have h := refprint_walk (n / M) (n % M) (bitOf n) (fun k => textN (numOf (bitOf n) k)) (by rw [numOf, textN, revN_last 0 (by omega)]; decide) (fun w => bits_any n hn w) (fun k hk w => ?_) w
  · simp only [numOf_whole n hn] at h
    exact h
  · exact twice_any (numOf (bitOf n) k) (bitOf n k) (bitOf_le n k) (numOf_le n hn k (by omega)) w

set_option maxRecDepth 100000 in
set_option maxHeartbeats 16000000 in
theorem prints_walk (ah al : Nat) (t u : ByteArray)
    (c1 : ∀ w, Calls Try.prog 45 #[wv ah al] w fun e w' => e = .returned (.string t) ∧ Below w.heap.size w w')
    (c2 : ∀ w, Calls Try.prog 21 #[wv ah al] w fun e w' => e = .returned (wv ah al) ∧ Below w.heap.size w w')
    (c3 : ∀ w, Calls Try.prog 46 #[wv ah al] w fun e w' => e = .returned (.string t) ∧ Below w.heap.size w w')
    (c4 : ∀ w, Calls Try.prog 47 #[.int .u64 al] w fun e w' => e = .returned (.string u) ∧ Below w.heap.size w w')
    (c5 : ∀ w, Calls Try.prog 46 #[.agg #[.int .u64 0, .int .u64 al]] w fun e w' => e = .returned (.string u) ∧ Below w.heap.size w w') (w : World) :
    Calls Try.prog 9 #[wv ah al] w fun e w' => e = .returned (.bool true) ∧ Below w.heap.size w w' := by
  have C1 := Lib.hid c1
  have C2 := Lib.hid c2
  have C3 := Lib.hid c3
  have C4 := Lib.hid c4
  have C5 := Lib.hid c5
  clear c1 c2 c3 c4 c5
  go_enter Try.func9, Try.ntmps9
  go_wp2_with fail
  have hX := (Boxes.nil w).new 24 ah al
  (try simp only [size_alloc] at hX)
  generalize w.alloc (.cells #[.int .u64 ah, .int .u64 al] 24) = w0 at *
  have HX0 : Hid (Boxes w w0 [(w.heap.size, 24, ah, al)]) := hX
  clear hX
  have HNk : ∀ W, Boxes w W [(w.heap.size, 24, ah, al)] → (Boxes w W [(w.heap.size, 24, ah, al)] ∧ (W.cell? ⟨w.heap.size, 0, none⟩ = some (.int .u64 ah) ∧ W.cell? ⟨w.heap.size, 1, none⟩ = some (.int .u64 al))) := fun W h => ⟨h, two_cells (h.all (w.heap.size, 24, ah, al) (by simp))⟩
  have HN : Hid (∀ W V, (Boxes w W [(w.heap.size, 24, ah, al)] ∧ (W.cell? ⟨w.heap.size, 0, none⟩ = some (.int .u64 ah) ∧ W.cell? ⟨w.heap.size, 1, none⟩ = some (.int .u64 al))) → Below W.heap.size W V → (Boxes w V [(w.heap.size, 24, ah, al)] ∧ (V.cell? ⟨w.heap.size, 0, none⟩ = some (.int .u64 ah) ∧ V.cell? ⟨w.heap.size, 1, none⟩ = some (.int .u64 al)))) := fun W V h hb => HNk _ (h.1.next hb)
  have HF : Hid (∀ W, (Boxes w W [(w.heap.size, 24, ah, al)] ∧ (W.cell? ⟨w.heap.size, 0, none⟩ = some (.int .u64 ah) ∧ W.cell? ⟨w.heap.size, 1, none⟩ = some (.int .u64 al))) → Below w.heap.size w W) := fun W h => h.1.below
  have hS0 := HNk _ HX0.out
  clear HNk HX0
  go_region_held3 (fun W => Boxes w W [(w.heap.size, 24, ah, al)] ∧ (W.cell? ⟨w.heap.size, 0, none⟩ = some (.int .u64 ah) ∧ W.cell? ⟨w.heap.size, 1, none⟩ = some (.int .u64 al))) (first | assumption | exact HN.out _ _ (by assumption) (Below.refl _ _).drew)
    (first
      | (go_at_call 44; (with_reducible refine (alive06_any _).mono ?_); rintro e w1 ⟨rfl, hb1⟩; have hS1 := HN.out _ _ (by assumption) hb1; clear hb1)
      | (go_at_call 45; (with_reducible refine (C1.out _).mono ?_); rintro e w1 ⟨rfl, hb1⟩; have hS1 := HN.out _ _ (by assumption) hb1; clear hb1)
      | (go_at_call 21; (with_reducible refine (C2.out _).mono ?_); rintro e w1 ⟨rfl, hb1⟩; have hS1 := HN.out _ _ (by assumption) hb1; clear hb1)
      | (go_at_call 46; (with_reducible refine (C3.out _).mono ?_); rintro e w1 ⟨rfl, hb1⟩; have hS1 := HN.out _ _ (by assumption) hb1; clear hb1)
      | (go_at_call 47; (with_reducible refine (C4.out _).mono ?_); rintro e w1 ⟨rfl, hb1⟩; have hS1 := HN.out _ _ (by assumption) hb1; clear hb1)
      | (go_at_call 46; (with_reducible refine (C5.out _).mono ?_); rintro e w1 ⟨rfl, hb1⟩; have hS1 := HN.out _ _ (by assumption) hb1; clear hb1))
  all_goals (go_wp2_with fail; go_ret)
  all_goals exact ⟨by simp, HF.out _ (by assumption)⟩
theorem printsLaw_any (n : Nat) (hn : n < MM) (w : World) : Calls Try.prog 9 #[W n] w fun e w' => e = .returned (.bool true) ∧ Below w.heap.size w w' := by
  have hM : 0 < M := by rw [M_eq]; omega
  have hlo : n % M < M := Nat.mod_lt _ hM
  have hMM : M ≤ MM := by decide
  have c5 := fun w => refprint_any (n % M) (by omega) w
  rw [W_lit (n % M) 0 (n % M) (Nat.div_eq_of_lt hlo) (Nat.mod_eq_of_lt hlo)] at c5
  exact prints_walk (n / M) (n % M) (textN n) (textN (n % M)) (fun w => numwide_any n hn w) (fun w => as_any n w) (fun w => refprint_any n hn w) (fun w => numprint_any (n % M) hlo w) c5 w

end Go.Proofs.Ytcaeaepnobbjlaa

