import Derived.Test.YtcaeaepnobbjlaaNd
import Derived.Lib.ConvBytes
namespace Go.Proofs.Ytcaeaepnobbjlaa
set_option linter.unusedVariables false
set_option linter.unusedSimpArgs false
open Go.RowKit

/-- A text's byte. -/
def gb (s : ByteArray) (k : Nat) : Nat := if h : k < s.size then s[k].toNat else 0
theorem gb_eq (s : ByteArray) (k : Nat) (h : k < s.size) : s[k].toNat = gb s k := by rw [gb, dif_pos h]
theorem gb_lt (s : ByteArray) (k : Nat) : gb s k < 256 := by
  unfold gb; split
  · exact UInt8.toNat_lt _
  · omega
def isDig (c : Nat) : Prop := 48 ≤ c ∧ c ≤ 57
instance (c : Nat) : Decidable (isDig c) := inferInstanceAs (Decidable (_ ∧ _))
/-- Whether a text is a number's. -/
def IsT (s : ByteArray) : Prop := (∀ k, k < s.size → isDig (gb s k)) ∧ (s.size = 1 ∨ (1 < s.size ∧ gb s 0 ≠ 48))

instance (s : ByteArray) : Decidable (IsT s) := by unfold IsT; infer_instance

set_option maxRecDepth 100000 in
set_option maxHeartbeats 4000000 in
theorem istext_walk (s : ByteArray) (r : Bool) (hsz : s.size ≤ 9223372036854775807) (hf : ∀ k, k < s.size → ¬ isDig (gb s k) → r = false)
    (ht : (∀ k, k < s.size → isDig (gb s k)) → (s.size = 0 → r = false) ∧ (s.size = 1 → r = true) ∧ (1 < s.size → r = ((gb s 0 : Int) != 48))) (w : World) :
    Calls Try.prog 79 #[.string s] w fun e w' => e = .returned (.bool r) ∧ w = w' := by
  have HF := Lib.hid hf
  have HT := Lib.hid ht
  have HZ := Lib.hid hsz
  clear hf ht hsz
  go_enter Try.func79, Try.ntmps79
  go_wp2_with fail
  go_loop [6] (fun i => ∃ k : Nat, k ≤ s.size ∧ i = .int .i64 k ∧ ∀ j, j < k → isDig (gb s j)) (fun i => ((s.size : Int) - intOf i).toNat)
  case atStart => exact ⟨0, Nat.zero_le _, rfl, fun j hj => absurd hj (by omega)⟩
  case round =>
    obtain ⟨k, hk, rfl, hj⟩ := hrel
    by_cases hlt : k < s.size
    · have hd : decide (k < s.size) = true := decide_eq_true hlt
      have k0 : (0 : Int) ≤ k := by omega
      have k1 : (k : Int) < s.size := by omega
      have hz := HZ.out
      have e9 : IntKind.i64.wrap ((k : Int) + 1) = ((k + 1 : Nat) : Int) := by rw [IntWalk.i64_in _ (by omega)]; omega
      have HJ := Lib.hid hj
      have HK := Lib.hid hlt
      have hg := gb_eq s k hlt
      have HG := Lib.hid hg
      clear hj hk hz hg
      by_cases c : isDig (gb s k)
      · have hd2 : decide ((((s[k]'hlt).toNat : Nat) : Int) < 48) = false := by have := c.1; rw [HG.out]; simp; omega
        have hd3 : decide ((57 : Int) < (((s[k]'hlt).toNat : Nat) : Int)) = false := by have := c.2; rw [HG.out]; simp; omega
        have HC := Lib.hid c
        clear c
        go_wp2_with fail
        go_round
        case rel =>
          refine ⟨k + 1, HK.out, rfl, fun j hj => ?_⟩
          rcases Nat.lt_succ_iff_lt_or_eq.mp hj with h | rfl
          · exact HJ.out j h
          · exact HC.out
        case measure => have := HK.out; simp [intOf]; omega
      · have HR : Hid (r = false) := HF.out k hlt c
        by_cases c1 : gb s k < 48
        · have hd2 : decide ((((s[k]'hlt).toNat : Nat) : Int) < 48) = true := by rw [HG.out]; simp; omega
          clear c c1
          go_wp2_with fail
          go_ret
          exact ⟨by rw [HR.out]; rfl, rfl⟩
        · have hd2 : decide ((((s[k]'hlt).toNat : Nat) : Int) < 48) = false := by rw [HG.out]; simp; omega
          have hd3 : decide ((57 : Int) < (((s[k]'hlt).toNat : Nat) : Int)) = true := by
            have : ¬ (48 ≤ gb s k ∧ gb s k ≤ 57) := c
            rw [HG.out]; simp; omega
          clear c c1
          go_wp2_with fail
          go_ret
          exact ⟨by rw [HR.out]; rfl, rfl⟩
    · obtain rfl : k = s.size := by omega
      have hd : decide (s.size < s.size) = false := by simp
      obtain ⟨h0, h1, h2⟩ := HT.out hj
      clear hj hk hlt
      by_cases c0 : s.size = 0
      · have HR : Hid (r = false) := h0 c0
        have a1 : ((s.size : Int) == 1) = false := by rw [c0]; rfl
        have a2 : decide ((1 : Int) < s.size) = false := by rw [c0]; rfl
        have a3 : decide (1 < s.size) = false := by rw [c0]; rfl
        clear h0 h1 h2 c0
        go_wp2_with fail
        go_ret
        exact ⟨by rw [HR.out]; rfl, rfl⟩
      · by_cases c1 : s.size = 1
        · have HR : Hid (r = true) := h1 c1
          have a1 : ((s.size : Int) == 1) = true := by rw [c1]; rfl
          clear h0 h1 h2 c0 c1
          go_wp2_with fail
          go_ret
          exact ⟨by rw [HR.out]; rfl, rfl⟩
        · have HR : Hid (r = ((gb s 0 : Int) != 48)) := h2 (by omega)
          have a1 : ((s.size : Int) == 1) = false := by simp; omega
          have a2 : decide ((1 : Int) < s.size) = true := by simp; omega
          have a3 : decide (1 < s.size) = true := decide_eq_true (by omega)
          have k1 : (0 : Int) < s.size := by omega
          have k2 : 0 < s.size := by omega
          have HG : Hid ((s[0]'k2).toNat = gb s 0) := gb_eq s 0 k2
          clear h0 h1 h2 c0 c1
          go_wp2_with fail
          go_ret
          exact ⟨by rw [HR.out, ← HG.out]; rfl, rfl⟩
theorem istext_any (s : ByteArray) (hsz : s.size ≤ 9223372036854775807) (w : World) : Calls Try.prog 79 #[.string s] w fun e w' => e = .returned (.bool (decide (IsT s))) ∧ w = w' := by
  refine istext_walk s _ hsz (fun k hk hn => decide_eq_false fun c => hn (c.1 k hk)) (fun hall => ⟨fun h => decide_eq_false fun c => ?_, fun h => decide_eq_true ⟨hall, Or.inl h⟩, fun h => ?_⟩) w
  · rcases c.2 with c | c <;> omega
  · by_cases c : gb s 0 = 48
    · rw [decide_eq_false (fun x => by rcases x.2 with x | x <;> omega), c]; rfl
    · rw [decide_eq_true ⟨hall, Or.inr ⟨h, c⟩⟩]
      symm
      simp
      omega

/-- The number of a text's first bytes. -/
def pv (s : ByteArray) : Nat → Nat
  | 0 => 0
  | k + 1 => 10 * pv s k + (gb s k - 48)
theorem pv_mono (s : ByteArray) : ∀ (n k : Nat), pv s k ≤ pv s (k + n)
  | 0, k => Nat.le_refl _
  | n + 1, k => by
    have := pv_mono s n k
    rw [← Nat.add_assoc, pv]; omega

theorem bytes_below {B : Nat} {a w : World} (h : Below B a w) (s : ByteArray) (hB : B ≤ w.heap.size) : Below B a (Lib.bytesWorld w 5 s) :=
  h.trans ⟨rfl, rfl, rfl, by rw [Lib.bytesWorld_size]; omega, fun j hj => Lib.bytesWorld_at_old w 5 s j (by omega)⟩
theorem bytes_old {w : World} {b : Nat} {c : Obj} (s : ByteArray) (h : w.heap[b]? = some c) : (Lib.bytesWorld w 5 s).heap[b]? = some c := by
  rw [Lib.bytesWorld_at_old w 5 s b (Array.getElem?_eq_some_iff.1 h).1]; exact h
theorem bytes_cell (w : World) (s : ByteArray) (k : Nat) (hk : k < s.size) : (Lib.bytesWorld w 5 s).cell? ⟨w.heap.size, k, none⟩ = some (.int .u8 (gb s k : Int)) := by
  rw [Lib.bytesWorld_cell w 5 s k hk, gb, dif_pos hk]
  have h : k < s.data.toList.length := by simpa using hk
  rw [List.getD_eq_getElem?_getD, List.getElem?_eq_getElem h, Option.getD_some, Array.getElem_toList]
  rfl
theorem conv9 (w : World) (s : ByteArray) : (convert 9 91 (.string s)).run Try.prog w = .ok (.slice (some ⟨w.heap.size, 0, none⟩) s.size (grownCap w s.size 0 5)) (Lib.bytesWorld w 5 s) :=
  Lib.run_convert_string_bytes w 9 91 5 s Try.underlying9 Try.underlying91 Try.underlying5

set_option maxRecDepth 100000 in
set_option maxHeartbeats 4000000 in
theorem parsewide_form (s : ByteArray) (c : ∀ w, Calls Try.prog 79 #[.string s] w fun e w' => e = .returned (.bool false) ∧ w = w') (w : World) :
    Calls Try.prog 49 #[.string s] w fun e w' => e = .returned (.tuple #[wv 0 0, .int .i64 3]) ∧ Below w.heap.size w w' := by
  have C := Lib.hid c
  clear c
  go_enter Try.func49, Try.ntmps49
  go_wp2_with (first
    | (go_at_call 79; refine (C.out _).mono ?_; rintro e w1 ⟨rfl, rfl⟩))
  exact bodyPost_ret (v := .tuple #[wv 0 0, .int .i64 3]) (by simp [results, Try.results49, go_sem]) rfl ⟨rfl, (Below.refl _ _).alloc (Nat.le_refl _) _⟩

set_option maxRecDepth 100000 in
set_option maxHeartbeats 16000000 in
theorem parsewide_walk (s : ByteArray) (n : Nat) (hsz : s.size ≤ 9223372036854775807) (hd : ∀ k, k < s.size → isDig (gb s k)) (hn : n ≤ s.size) (hin : ∀ k, k ≤ n → pv s k < MM) (hout : n < s.size → MM ≤ pv s (n + 1))
    (c : ∀ w, Calls Try.prog 79 #[.string s] w fun e w' => e = .returned (.bool true) ∧ w = w') (rh rl : Nat) (er : Int) (hr : (n = s.size ∧ rh = pv s n / M ∧ rl = pv s n % M ∧ er = 0) ∨ (n < s.size ∧ rh = 0 ∧ rl = 0 ∧ er = 11))
    (cm : ∀ (k : Nat), k < s.size → k ≤ n → ∀ w, Calls Try.prog 80 #[wv (pv s k / M) (pv s k % M), .int .u8 ((gb s k - 48 : Nat) : Int)] w fun e w' => e = .returned (.tuple #[wv (pv s (k + 1) % MM / M) (pv s (k + 1) % MM % M), .bool (decide (MM ≤ pv s (k + 1)))]) ∧ Below w.heap.size w w') (w : World) :
    Calls Try.prog 49 #[.string s] w fun e w' => e = .returned (.tuple #[wv rh rl, .int .i64 er]) ∧ Below w.heap.size w w' := by
  have C := Lib.hid c
  have HD := Lib.hid hd
  have HN := Lib.hid hn
  have HI := Lib.hid hin
  have HO := Lib.hid hout
  have HR := Lib.hid hr
  have HZ := Lib.hid hsz
  have CM := Lib.hid cm
  have hcv := fun w => conv9 w s
  clear c hd hn hin hout hr hsz cm
  go_enter Try.func49, Try.ntmps49
  go_wp2_with (first
    | (go_at_call 79; refine (C.out _).mono ?_; rintro e w1 ⟨rfl, rfl⟩))
  clear hcv
  have hX := ((Boxes.nil w).new 24 0 0).new 24 0 0
  simp only [size_alloc, Int.natCast_zero] at hX
  have hsz : ((w.alloc (.cells #[.int .u64 0, .int .u64 0] 24)).alloc (.cells #[.int .u64 0, .int .u64 0] 24)).heap.size = w.heap.size + 1 + 1 := by rw [size_alloc, size_alloc]
  generalize (w.alloc (.cells #[.int .u64 0, .int .u64 0] 24)).alloc (.cells #[.int .u64 0, .int .u64 0] 24) = w0 at *
  have hX0 : Boxes w w0 [(w.heap.size + 1, 24, 0, 0), (w.heap.size, 24, 0, 0)] := hX
  have HXb : Hid (Boxes w (Lib.bytesWorld w0 5 s) [(w.heap.size + 1, 24, 0, 0), (w.heap.size, 24, 0, 0)]) := ⟨bytes_below hX0.below s hX0.below.size, fun z hz => bytes_old s (hX0.all z hz)⟩
  have HCB : Hid (∀ k, k < s.size → (Lib.bytesWorld w0 5 s).cell? ⟨w.heap.size + 1 + 1, k, none⟩ = some (.int .u8 (gb s k : Int))) := fun k hk => by rw [← hsz]; exact bytes_cell w0 s k hk
  have HLB : Hid (w.heap.size + 1 + 1 < (Lib.bytesWorld w0 5 s).heap.size) := by show _ < _; rw [Lib.bytesWorld_size]; omega
  clear hX hX0 hsz
  generalize grownCap w0 s.size 0 5 = cap at *
  generalize Lib.bytesWorld w0 5 s = wb at *
  go_loopw [16] (fun i wr => ∃ k : Nat, k ≤ n ∧ i = .int .i64 k ∧ Boxes w wr [(w.heap.size + 1, 24, pv s k / M, pv s k % M), (w.heap.size, 24, 0, 0)] ∧ wr.heap[w.heap.size + 1 + 1]? = wb.heap[w.heap.size + 1 + 1]?) (fun i _ => ((s.size : Int) - intOf i).toNat)
  case atStart => exact ⟨0, Nat.zero_le _, rfl, by rw [pv, Nat.zero_div, Nat.zero_mod]; exact HXb.out, rfl⟩
  case round =>
    obtain ⟨k, hk, rfl, hB, hrow⟩ := hrel
    have hn := HN.out
    by_cases hlt : k < s.size
    · have hd : decide (k < s.size) = true := decide_eq_true hlt
      have k0 : (0 : Int) ≤ k := by omega
      have k1 : (k : Int) < s.size := by omega
      have hz := HZ.out
      have e9 : IntKind.i64.wrap ((k : Int) + 1) = ((k + 1 : Nat) : Int) := by rw [IntWalk.i64_in _ (by omega)]; omega
      have hdig := HD.out k hlt
      have cb := HCB.out k hlt
      have cb2 : wr.cell? ⟨w.heap.size + 1 + 1, k, none⟩ = some (.int .u8 (gb s k : Int)) := by rw [World.cell?_of_block (w := wb) hrow]; exact cb
      have e2 : IntKind.u8.wrap ((gb s k : Int) - 48) = ((gb s k - 48 : Nat) : Int) := by have := hdig.1; have := hdig.2; rw [IntKind.wrap_u8]; omega
      have K := Lib.hid (CM.out k hlt hk)
      have HK : Hid (k < s.size ∧ k ≤ n) := ⟨hlt, hk⟩
      have HX1 := Lib.hid hB
      have HRW := Lib.hid hrow
      obtain ⟨⟨r0, s0⟩, -, -⟩ := hB.at (w.heap.size + 1) 24 (pv s k / M) (pv s k % M) (by simp)
      generalize gb s k - 48 = d at *
      generalize gb s k = b at *
      generalize pv s k / M = ah at *
      generalize pv s k % M = al at *
      by_cases hkn : k < n
      · have hin := HI.out (k + 1) hkn
        rw [Nat.mod_eq_of_lt hin, decide_eq_false (by omega)] at K
        have HKN : Hid (k + 1 ≤ n) := hkn
        generalize hxh : pv s (k + 1) / M = xh at *
        generalize hxl : pv s (k + 1) % M = xl at *
        have HP : Hid (pv s (k + 1) / M = xh ∧ pv s (k + 1) % M = xl) := ⟨hxh, hxl⟩
        clear hin hkn hk hlt hn hz hdig cb hB hrow hxh hxl
        go_wp2_with (first
          | (go_at_call 80; (with_reducible refine (K.out _).mono ?_); rintro e w1 ⟨rfl, hb1⟩
             have HX2 := Lib.hid (HX1.out.next hb1)
             have HL2 : Hid (w.heap.size + 1 + 1 < wr.heap.size) := by
               show _ < _
               have h := HRW.out
               have h2 := HLB.out
               rw [Array.getElem?_eq_getElem h2] at h
               exact (Array.getElem?_eq_some_iff.1 h).1
             have HRW2 : Hid (w1.heap[w.heap.size + 1 + 1]? = wb.heap[w.heap.size + 1 + 1]?) := (hb1.block _ HL2.out).trans HRW.out
             have HL3 : Hid (w.heap.size + 1 + 1 < w1.heap.size) := Nat.lt_of_lt_of_le HL2.out hb1.size
             clear hb1)
          | (obtain ⟨w2, hw⟩ : ∃ w2, w1.alloc (.cells #[.int .u64 xh, .int .u64 xl] 24) = w2 := ⟨_, rfl⟩
             rewrite [hw]
             have HX3 : Hid (Boxes w w2 [(w1.heap.size, 24, xh, xl), (w.heap.size + 1, 24, ah, al), (w.heap.size, 24, 0, 0)]) := by rewrite [← hw]; exact HX2.out.new 24 xh xl
             have HRW3 : Hid (w2.heap[w.heap.size + 1 + 1]? = wb.heap[w.heap.size + 1 + 1]?) := by
               show _ = _
               rewrite [← hw, heap_alloc_old _ _ HL3.out]; exact HRW2.out
             clear hw HX2
             generalize w1.heap.size = b7 at *
             obtain ⟨⟨r2, s2⟩, -, -⟩ := HX3.out.at b7 24 xh xl (by simp))
          | (refine wpList_store_row rfl 24 _ _ rfl (w.heap.size + 1) #[.int .u64 xh, .int .u64 xl] rfl rfl 24 #[.int .u64 ah, .int .u64 al] (HX3.out.all (w.heap.size + 1, 24, ah, al) (by simp)) size24 rfl (one2 _ _) ?_))
        have HX4 : Hid (Boxes w (w2.setRow (w.heap.size + 1) #[.int .u64 xh, .int .u64 xl]) [(w.heap.size + 1, 24, xh, xl), (w.heap.size, 24, 0, 0)]) := by
          refine HX3.out.rewrite (w.heap.size + 1) 24 ah al xh xl (by simp) (by omega) (fun z hz => ?_)
          simp only [List.mem_cons, List.not_mem_nil, or_false] at hz
          rcases hz with rfl | rfl
          · exact Or.inl rfl
          · exact Or.inr ⟨by simp, by simp⟩
        have HRW4 : Hid ((w2.setRow (w.heap.size + 1) #[.int .u64 xh, .int .u64 xl]).heap[w.heap.size + 1 + 1]? = wb.heap[w.heap.size + 1 + 1]?) := by
          show _ = _
          rw [setRow_other _ _ _ _ (by omega)]; exact HRW3.out
        generalize w2.setRow (w.heap.size + 1) #[.int .u64 xh, .int .u64 xl] = W5 at *
        go_roundw
        case rel => exact ⟨k + 1, HKN.out, rfl, by rw [HP.out.1, HP.out.2]; exact HX4.out, HRW4.out⟩
        case measure => have := HK.out; simp [intOf]; omega
      · obtain rfl : k = n := by omega
        rw [decide_eq_true (HO.out hlt)] at K
        rcases HR.out with ⟨h, _⟩ | ⟨_, h1, h2, h3⟩
        · exact absurd h (by omega)
        · subst rh rl er
          generalize pv s (k + 1) % MM / M = xh at *
          generalize pv s (k + 1) % MM % M = xl at *
          clear hkn hk hlt hn hz hdig cb hB hrow HR
          go_wp2_with (first
            | (go_at_call 80; (with_reducible refine (K.out _).mono ?_); rintro e w1 ⟨rfl, hb1⟩
               have HX2 := Lib.hid (HX1.out.next hb1)
               clear hb1)
            | (obtain ⟨w2, hw⟩ : ∃ w2, w1.alloc (.cells #[.int .u64 xh, .int .u64 xl] 24) = w2 := ⟨_, rfl⟩
               rewrite [hw]
               have HX3 : Hid (Boxes w w2 [(w1.heap.size, 24, xh, xl), (w.heap.size + 1, 24, ah, al), (w.heap.size, 24, 0, 0)]) := by rewrite [← hw]; exact HX2.out.new 24 xh xl
               clear hw HX2
               generalize w1.heap.size = b7 at *)
            | (refine wpList_store_row rfl 24 _ _ rfl w.heap.size #[.int .u64 0, .int .u64 0] rfl rfl 24 #[.int .u64 0, .int .u64 0] (HX3.out.all (w.heap.size, 24, 0, 0) (by simp)) size24 rfl (one2 _ _) ?_))
          obtain ⟨p0, p1⟩ := two_cells (setRow_heap _ _ #[.int .u64 0, .int .u64 0] #[.int .u64 0, .int .u64 0] 24 (0, 0) (HX3.out.all (w.heap.size, 24, 0, 0) (by simp)))
          have hB2 := below_setRow HX3.out.below w.heap.size #[.int .u64 0, .int .u64 0] (Nat.le_refl _)
          generalize w2.setRow w.heap.size #[.int .u64 0, .int .u64 0] = W1 at *
          exact bodyPost_ret (v := .tuple #[wv 0 0, .int .i64 11]) (by simp [results, Try.results49, go_sem, p0, p1]) rfl ⟨rfl, hB2⟩
    · have hd : decide (k < s.size) = false := decide_eq_false hlt
      obtain rfl : k = n := by omega
      rcases HR.out with ⟨hks, h1, h2, h3⟩ | ⟨h, _⟩
      · subst rh rl er
        have HX1 := Lib.hid hB
        obtain ⟨⟨r0, s0⟩, -, -⟩ := hB.at (w.heap.size + 1) 24 (pv s k / M) (pv s k % M) (by simp)
        generalize hA : pv s k / M = ah at *
        generalize hA2 : pv s k % M = al at *
        have HA := Lib.hid hA
        have HA2 := Lib.hid hA2
        clear hk hlt hn hB hrow HR hks hA hA2
        go_wp2_with (refine wpList_store_row rfl 24 _ _ rfl w.heap.size #[.int .u64 ah, .int .u64 al] rfl rfl 24 #[.int .u64 0, .int .u64 0] (HX1.out.all (w.heap.size, 24, 0, 0) (by simp)) size24 rfl (one2 _ _) ?_)
        obtain ⟨p0, p1⟩ := two_cells (setRow_heap _ _ #[.int .u64 0, .int .u64 0] #[.int .u64 ah, .int .u64 al] 24 (0, 0) (HX1.out.all (w.heap.size, 24, 0, 0) (by simp)))
        have hB2 := below_setRow HX1.out.below w.heap.size #[.int .u64 ah, .int .u64 al] (Nat.le_refl _)
        generalize wr.setRow w.heap.size #[.int .u64 ah, .int .u64 al] = W1 at *
        exact bodyPost_ret (v := .tuple #[wv ah al, .int .i64 0]) (by simp [results, Try.results49, go_sem, p0, p1]) rfl ⟨by rw [HA.out, HA2.out], hB2⟩
      · exact absurd h hlt

/-- What ParseWide answers. -/
def pwN (s : ByteArray) : Nat := if IsT s ∧ pv s s.size < MM then pv s s.size else 0
def pwE (s : ByteArray) : Int := if IsT s then (if pv s s.size < MM then 0 else 11) else 3
theorem pv_cross (s : ByteArray) : ∀ m, MM ≤ pv s m → ∃ n, n < m ∧ (∀ k, k ≤ n → pv s k < MM) ∧ MM ≤ pv s (n + 1)
  | 0, h => by rw [pv, MM_eq] at h; omega
  | m + 1, h => by
    by_cases c : MM ≤ pv s m
    · obtain ⟨n, h1, h2, h3⟩ := pv_cross s m c
      exact ⟨n, by omega, h2, h3⟩
    · refine ⟨m, by omega, fun k hk => ?_, h⟩
      have := pv_mono s (m - k) k
      rw [show k + (m - k) = m by omega] at this
      omega
theorem parsewide_any (s : ByteArray) (hsz : s.size ≤ 9223372036854775807) (w : World) :
    Calls Try.prog 49 #[.string s] w fun e w' => e = .returned (.tuple #[W (pwN s), .int .i64 (pwE s)]) ∧ Below w.heap.size w w' := by
  have c := fun w => istext_any s hsz w
  by_cases hT : IsT s
  · rw [decide_eq_true hT] at c
    have cm : ∀ (k : Nat), k < s.size → pv s k < MM → ∀ w, Calls Try.prog 80 #[wv (pv s k / M) (pv s k % M), .int .u8 ((gb s k - 48 : Nat) : Int)] w fun e w' => e = .returned (.tuple #[wv (pv s (k + 1) % MM / M) (pv s (k + 1) % MM % M), .bool (decide (MM ≤ pv s (k + 1)))]) ∧ Below w.heap.size w w' :=
      fun k hk hlt w => more_any (pv s k) (gb s k - 48) hlt (by have := gb_lt s k; omega) w
    by_cases hlt : pv s s.size < MM
    · have hin : ∀ k, k ≤ s.size → pv s k < MM := fun k hk => by
        have := pv_mono s (s.size - k) k
        rw [show k + (s.size - k) = s.size by omega] at this
        omega
      have h := parsewide_walk s s.size hsz hT.1 (Nat.le_refl _) hin (fun h => absurd h (by omega)) c (pv s s.size / M) (pv s s.size % M) 0 (Or.inl ⟨rfl, rfl, rfl, rfl⟩) (fun k hk _ w => cm k hk (hin k (by omega)) w) w
      rw [show pwN s = pv s s.size from if_pos ⟨hT, hlt⟩, show pwE s = 0 by rw [pwE, if_pos hT, if_pos hlt]]
      exact h
    · obtain ⟨n, h1, h2, h3⟩ := pv_cross s s.size (by omega)
      have h := parsewide_walk s n hsz hT.1 (by omega) h2 (fun _ => h3) c 0 0 11 (Or.inr ⟨h1, rfl, rfl, rfl⟩) (fun k hk hkn w => cm k hk (h2 k hkn) w) w
      rw [show pwN s = 0 from if_neg (fun c => hlt c.2), show pwE s = 11 by rw [pwE, if_pos hT, if_neg hlt]]
      exact h
  · rw [decide_eq_false hT] at c
    rw [show pwN s = 0 from if_neg (fun c => hT c.1), show pwE s = 3 from if_neg hT]
    exact parsewide_form s c w
theorem pwN_lt (s : ByteArray) : pwN s < MM := by
  unfold pwN
  split
  · rename_i h; exact h.2
  · decide

set_option maxRecDepth 100000 in
set_option maxHeartbeats 4000000 in
theorem parse_walk (s : ByteArray) (most nh nl mh ml r : Nat) (e : Int) (er k : Int) (b1 b2 : Bool)
    (c1 : ∀ w, Calls Try.prog 49 #[.string s] w fun e' w' => e' = .returned (.tuple #[wv nh nl, .int .i64 e]) ∧ Below w.heap.size w w')
    (c2 : ∀ w, Calls Try.prog 27 #[.int .u64 most] w fun e w' => e = .returned (wv mh ml) ∧ Below w.heap.size w w')
    (c3 : ∀ w, Calls Try.prog 25 #[wv nh nl, wv mh ml] w fun e w' => e = .returned (.int .i64 k) ∧ Below w.heap.size w w')
    (h1 : (e != 0) = b1) (h2 : decide (0 < k) = b2) (hr : (b1 = true ∧ r = 0 ∧ er = e) ∨ (b1 = false ∧ b2 = true ∧ r = 0 ∧ er = 11) ∨ (b1 = false ∧ b2 = false ∧ r = nl ∧ er = 0)) (w : World) :
    Calls Try.prog 48 #[.string s, .int .u64 most] w fun e w' => e = .returned (.tuple #[.int .u64 r, .int .i64 er]) ∧ Below w.heap.size w w' := by
  have C1 := Lib.hid c1
  have C2 := Lib.hid c2
  have C3 := Lib.hid c3
  have HR := Lib.hid hr
  have HX0 : Hid (Boxes w w []) := Boxes.nil w
  clear c1 c2 c3 hr
  rcases HR.out with ⟨rfl, hr, he⟩ | ⟨rfl, rfl, hr, he⟩ | ⟨rfl, rfl, hr, he⟩
  · subst r er
    clear HR
    go_enter Try.func48, Try.ntmps48
    go_wp2_with (first
      | (go_at_call 49; (with_reducible refine (C1.out _).mono ?_); rintro e w1 ⟨rfl, hb1⟩
         have HX1 := Lib.hid (HX0.out.next hb1)
         clear hb1)
      | (obtain ⟨w2, hw⟩ : ∃ w2, w1.alloc (.cells #[.int .u64 nh, .int .u64 nl] 24) = w2 := ⟨_, rfl⟩
         rewrite [hw]
         have HX2 : Hid (Boxes w w2 [(w1.heap.size, 24, nh, nl)]) := by rewrite [← hw]; exact HX1.out.new 24 nh nl
         clear hw HX1
         generalize w1.heap.size = b6 at *
         obtain ⟨⟨r0, s0⟩, -, -⟩ := HX2.out.at b6 24 nh nl (by simp)))
    exact bodyPost_ret (v := .tuple #[.int .u64 (0 : Nat), .int .i64 e]) (by simp [results, Try.results48, go_sem]) rfl ⟨rfl, HX2.out.below⟩
  · subst r er
    clear HR
    go_enter Try.func48, Try.ntmps48
    go_wp2_with (first
      | (go_at_call 49; (with_reducible refine (C1.out _).mono ?_); rintro e w1 ⟨rfl, hb1⟩
         have HX1 := Lib.hid (HX0.out.next hb1)
         clear hb1)
      | (obtain ⟨w2, hw⟩ : ∃ w2, w1.alloc (.cells #[.int .u64 nh, .int .u64 nl] 24) = w2 := ⟨_, rfl⟩
         rewrite [hw]
         have HX2 : Hid (Boxes w w2 [(w1.heap.size, 24, nh, nl)]) := by rewrite [← hw]; exact HX1.out.new 24 nh nl
         clear hw HX1
         generalize w1.heap.size = b6 at *
         obtain ⟨⟨r0, s0⟩, -, -⟩ := HX2.out.at b6 24 nh nl (by simp)))
    have HNk : ∀ W, Boxes w W [(b6, 24, nh, nl)] → (Boxes w W [(b6, 24, nh, nl)] ∧ (W.cell? ⟨b6, 0, none⟩ = some (.int .u64 nh) ∧ W.cell? ⟨b6, 1, none⟩ = some (.int .u64 nl))) := fun W h => ⟨h, two_cells (h.all (b6, 24, nh, nl) (by simp))⟩
    have HN : Hid (∀ W V, (Boxes w W [(b6, 24, nh, nl)] ∧ (W.cell? ⟨b6, 0, none⟩ = some (.int .u64 nh) ∧ W.cell? ⟨b6, 1, none⟩ = some (.int .u64 nl))) → Below W.heap.size W V → (Boxes w V [(b6, 24, nh, nl)] ∧ (V.cell? ⟨b6, 0, none⟩ = some (.int .u64 nh) ∧ V.cell? ⟨b6, 1, none⟩ = some (.int .u64 nl)))) := fun W V h hb => HNk _ (h.1.next hb)
    have HS0 : Hid (Boxes w w2.drew [(b6, 24, nh, nl)] ∧ (w2.drew.cell? ⟨b6, 0, none⟩ = some (.int .u64 nh) ∧ w2.drew.cell? ⟨b6, 1, none⟩ = some (.int .u64 nl))) := HNk _ (HX2.out.next ⟨rfl, rfl, rfl, Nat.le_refl _, fun _ _ => rfl⟩)
    have HF : Hid (∀ W, (Boxes w W [(b6, 24, nh, nl)] ∧ (W.cell? ⟨b6, 0, none⟩ = some (.int .u64 nh) ∧ W.cell? ⟨b6, 1, none⟩ = some (.int .u64 nl))) → Below w.heap.size w W) := fun W h => h.1.below
    clear HNk r0 s0
    go_region_held3 (fun W => Boxes w W [(b6, 24, nh, nl)] ∧ (W.cell? ⟨b6, 0, none⟩ = some (.int .u64 nh) ∧ W.cell? ⟨b6, 1, none⟩ = some (.int .u64 nl))) (first | exact HS0.out | assumption)
      (first
        | (go_at_call 27; with_reducible refine (C2.out _).mono ?_; rintro e w1 ⟨rfl, hb1⟩; have hS1 := HN.out _ _ (by assumption) hb1; clear hb1)
        | (go_at_call 25; with_reducible refine (C3.out _).mono ?_; rintro e w1 ⟨rfl, hb1⟩; have hS1 := HN.out _ _ (by assumption) hb1; clear hb1))
    all_goals go_wp2_with fail
    all_goals exact bodyPost_ret (v := .tuple #[.int .u64 (0 : Nat), .int .i64 11]) (by simp [results, Try.results48, go_sem]) rfl ⟨rfl, HF.out _ (by assumption)⟩
  · subst r er
    clear HR
    go_enter Try.func48, Try.ntmps48
    go_wp2_with (first
      | (go_at_call 49; (with_reducible refine (C1.out _).mono ?_); rintro e w1 ⟨rfl, hb1⟩
         have HX1 := Lib.hid (HX0.out.next hb1)
         clear hb1)
      | (obtain ⟨w2, hw⟩ : ∃ w2, w1.alloc (.cells #[.int .u64 nh, .int .u64 nl] 24) = w2 := ⟨_, rfl⟩
         rewrite [hw]
         have HX2 : Hid (Boxes w w2 [(w1.heap.size, 24, nh, nl)]) := by rewrite [← hw]; exact HX1.out.new 24 nh nl
         clear hw HX1
         generalize w1.heap.size = b6 at *
         obtain ⟨⟨r0, s0⟩, -, -⟩ := HX2.out.at b6 24 nh nl (by simp)))
    have HNk : ∀ W, Boxes w W [(b6, 24, nh, nl)] → (Boxes w W [(b6, 24, nh, nl)] ∧ (W.cell? ⟨b6, 0, none⟩ = some (.int .u64 nh) ∧ W.cell? ⟨b6, 1, none⟩ = some (.int .u64 nl))) := fun W h => ⟨h, two_cells (h.all (b6, 24, nh, nl) (by simp))⟩
    have HN : Hid (∀ W V, (Boxes w W [(b6, 24, nh, nl)] ∧ (W.cell? ⟨b6, 0, none⟩ = some (.int .u64 nh) ∧ W.cell? ⟨b6, 1, none⟩ = some (.int .u64 nl))) → Below W.heap.size W V → (Boxes w V [(b6, 24, nh, nl)] ∧ (V.cell? ⟨b6, 0, none⟩ = some (.int .u64 nh) ∧ V.cell? ⟨b6, 1, none⟩ = some (.int .u64 nl)))) := fun W V h hb => HNk _ (h.1.next hb)
    have HS0 : Hid (Boxes w w2.drew [(b6, 24, nh, nl)] ∧ (w2.drew.cell? ⟨b6, 0, none⟩ = some (.int .u64 nh) ∧ w2.drew.cell? ⟨b6, 1, none⟩ = some (.int .u64 nl))) := HNk _ (HX2.out.next ⟨rfl, rfl, rfl, Nat.le_refl _, fun _ _ => rfl⟩)
    have HF : Hid (∀ W, (Boxes w W [(b6, 24, nh, nl)] ∧ (W.cell? ⟨b6, 0, none⟩ = some (.int .u64 nh) ∧ W.cell? ⟨b6, 1, none⟩ = some (.int .u64 nl))) → Below w.heap.size w W) := fun W h => h.1.below
    clear HNk r0 s0
    go_region_held3 (fun W => Boxes w W [(b6, 24, nh, nl)] ∧ (W.cell? ⟨b6, 0, none⟩ = some (.int .u64 nh) ∧ W.cell? ⟨b6, 1, none⟩ = some (.int .u64 nl))) (first | exact HS0.out | assumption)
      (first
        | (go_at_call 27; with_reducible refine (C2.out _).mono ?_; rintro e w1 ⟨rfl, hb1⟩; have hS1 := HN.out _ _ (by assumption) hb1; clear hb1)
        | (go_at_call 25; with_reducible refine (C3.out _).mono ?_; rintro e w1 ⟨rfl, hb1⟩; have hS1 := HN.out _ _ (by assumption) hb1; clear hb1))
    all_goals go_wp2_with fail
    all_goals exact bodyPost_ret (v := .tuple #[.int .u64 nl, .int .i64 0]) (by simp [results, Try.results48, go_sem]) rfl ⟨rfl, HF.out _ (by assumption)⟩

/-- What Parse answers. -/
def psN (s : ByteArray) (most : Nat) : Nat := if pwE s ≠ 0 then 0 else if most < pwN s then 0 else pwN s
def psE (s : ByteArray) (most : Nat) : Int := if pwE s ≠ 0 then pwE s else if most < pwN s then 11 else 0
theorem parse_any (s : ByteArray) (most : Nat) (hsz : s.size ≤ 9223372036854775807) (hm : most < M) (w : World) :
    Calls Try.prog 48 #[.string s, .int .u64 most] w fun e w' => e = .returned (.tuple #[.int .u64 (psN s most), .int .i64 (psE s most)]) ∧ Below w.heap.size w w' := by
  have hMM : M ≤ MM := by decide
  have hcg : decide (0 < cmpI (pwN s) most) = decide (most < pwN s) := by
    unfold cmpI
    by_cases h : pwN s < most
    · rw [if_pos h]; simp; omega
    · rw [if_neg h]
      by_cases h2 : most < pwN s
      · rw [if_pos h2]; simp; omega
      · rw [if_neg h2]; simp; omega
  refine parse_walk s most (pwN s / M) (pwN s % M) (most / M) (most % M) (psN s most) (pwE s) (psE s most) (cmpI (pwN s) most) _ _ (fun w => parsewide_any s hsz w) (fun w => of_any most hm w)
    (fun w => cmp_any _ _ (pwN_lt s) (by omega) w) rfl hcg ?_ w
  by_cases h : pwE s = 0
  · have e1 : psN s most = if most < pwN s then 0 else pwN s := if_neg (fun c => c h)
    have e2 : psE s most = if most < pwN s then 11 else 0 := if_neg (fun c => c h)
    rw [e1, e2]
    by_cases h2 : most < pwN s
    · rw [if_pos h2, if_pos h2]
      exact Or.inr (Or.inl ⟨by simp [h], decide_eq_true h2, rfl, rfl⟩)
    · rw [if_neg h2, if_neg h2]
      refine Or.inr (Or.inr ⟨by simp [h], decide_eq_false h2, ?_, rfl⟩)
      rw [Nat.mod_eq_of_lt (by omega)]
  · rw [show psN s most = 0 from if_pos h, show psE s most = pwE s from if_pos h]
    exact Or.inl ⟨by simp [h], rfl, rfl⟩

end Go.Proofs.Ytcaeaepnobbjlaa

