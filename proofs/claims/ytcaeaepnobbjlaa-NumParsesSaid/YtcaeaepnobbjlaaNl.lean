import Derived.Test.YtcaeaepnobbjlaaNk
namespace Go.Proofs.Ytcaeaepnobbjlaa
set_option linter.unusedVariables false
set_option linter.unusedSimpArgs false
open Go.RowKit

set_option maxRecDepth 100000 in
set_option maxHeartbeats 4000000 in
theorem is_walk (s : ByteArray) (r : Bool) (hsz : s.size ≤ 9223372036854775807) (hf : ∀ k, k < s.size → ¬ isDig (gb s k) → r = false)
    (ht : (∀ k, k < s.size → isDig (gb s k)) → (s.size = 0 → r = false) ∧ (s.size = 1 → r = true) ∧ (1 < s.size → r = decide ((48 : Int) < (gb s 0 : Int)))) (w : World) :
    Calls Try.prog 50 #[.string s] w fun e w' => e = .returned (.bool r) ∧ w = w' := by
  have HF := Lib.hid hf
  have HT := Lib.hid ht
  have HZ := Lib.hid hsz
  clear hf ht hsz
  go_enter Try.func50, Try.ntmps50
  go_wp2_with fail
  go_loop [3] (fun i => ∃ k : Nat, k ≤ s.size ∧ i = .int .i64 k ∧ ∀ j, j < k → isDig (gb s j)) (fun i => ((s.size : Int) - intOf i).toNat)
  case atStart => exact ⟨0, Nat.zero_le _, rfl, fun j hj => absurd hj (by omega)⟩
  case round =>
    obtain ⟨k, hk, rfl, hj⟩ := hrel
    by_cases hlt : k < s.size
    · have hd : decide (k < s.size) = true := decide_eq_true hlt
      have k0 : (0 : Int) ≤ k := by omega
      have k1 : (k : Int) < s.size := by omega
      have hz := HZ.out
      have e9 : IntKind.i64.wrap ((k : Int) + 1) = ((k + 1 : Nat) : Int) := by rw [IntWalk.i64_in _ (by omega)]; omega
      have HJ := Lib.hid hj
      have HK := Lib.hid hlt
      have hg := gb_eq s k hlt
      have HG := Lib.hid hg
      clear hj hk hz hg
      by_cases c : isDig (gb s k)
      · have hd2 : decide ((((s[k]'hlt).toNat : Nat) : Int) < 48) = false := by have := c.1; rw [HG.out]; simp; omega
        have hd3 : decide ((57 : Int) < (((s[k]'hlt).toNat : Nat) : Int)) = false := by have := c.2; rw [HG.out]; simp; omega
        have HC := Lib.hid c
        clear c
        go_wp2_with fail
        go_round
        case rel =>
          refine ⟨k + 1, HK.out, rfl, fun j hj => ?_⟩
          rcases Nat.lt_succ_iff_lt_or_eq.mp hj with h | rfl
          · exact HJ.out j h
          · exact HC.out
        case measure => have := HK.out; simp [intOf]; omega
      · have HR : Hid (r = false) := HF.out k hlt c
        by_cases c1 : gb s k < 48
        · have hd2 : decide ((((s[k]'hlt).toNat : Nat) : Int) < 48) = true := by rw [HG.out]; simp; omega
          clear c c1
          go_wp2_with fail
          go_ret
          exact ⟨by rw [HR.out]; rfl, rfl⟩
        · have hd2 : decide ((((s[k]'hlt).toNat : Nat) : Int) < 48) = false := by rw [HG.out]; simp; omega
          have hd3 : decide ((57 : Int) < (((s[k]'hlt).toNat : Nat) : Int)) = true := by
            have : ¬ (48 ≤ gb s k ∧ gb s k ≤ 57) := c
            rw [HG.out]; simp; omega
          clear c c1
          go_wp2_with fail
          go_ret
          exact ⟨by rw [HR.out]; rfl, rfl⟩
    · obtain rfl : k = s.size := by omega
      have hd : decide (s.size < s.size) = false := by simp
      obtain ⟨h0, h1, h2⟩ := HT.out hj
      clear hj hk hlt
      by_cases c0 : s.size = 0
      · have HR : Hid (r = false) := h0 c0
        have a1 : ((s.size : Int) == 1) = false := by rw [c0]; rfl
        have a2 : decide ((1 : Int) < s.size) = false := by rw [c0]; rfl
        have a3 : decide (1 < s.size) = false := by rw [c0]; rfl
        clear h0 h1 h2 c0
        go_wp2_with fail
        go_ret
        exact ⟨by rw [HR.out]; rfl, rfl⟩
      · by_cases c1 : s.size = 1
        · have HR : Hid (r = true) := h1 c1
          have a1 : ((s.size : Int) == 1) = true := by rw [c1]; rfl
          clear h0 h1 h2 c0 c1
          go_wp2_with fail
          go_ret
          exact ⟨by rw [HR.out]; rfl, rfl⟩
        · have HR : Hid (r = decide ((48 : Int) < (gb s 0 : Int))) := h2 (by omega)
          have a1 : ((s.size : Int) == 1) = false := by simp; omega
          have a2 : decide ((1 : Int) < s.size) = true := by simp; omega
          have a3 : decide (1 < s.size) = true := decide_eq_true (by omega)
          have k1 : (0 : Int) < s.size := by omega
          have k2 : 0 < s.size := by omega
          have HG : Hid ((s[0]'k2).toNat = gb s 0) := gb_eq s 0 k2
          clear h0 h1 h2 c0 c1
          go_wp2_with fail
          go_ret
          exact ⟨by rw [HR.out, ← HG.out]; rfl, rfl⟩
theorem is_any (s : ByteArray) (hsz : s.size ≤ 9223372036854775807) (w : World) : Calls Try.prog 50 #[.string s] w fun e w' => e = .returned (.bool (decide (IsT s))) ∧ w = w' := by
  refine is_walk s _ hsz (fun k hk hn => decide_eq_false fun c => hn (c.1 k hk)) (fun hall => ⟨fun h => decide_eq_false fun c => ?_, fun h => decide_eq_true ⟨hall, Or.inl h⟩, fun h => ?_⟩) w
  · rcases c.2 with c | c <;> omega
  · have h48 : 48 ≤ gb s 0 := (hall 0 (by omega)).1
    by_cases c : gb s 0 = 48
    · rw [decide_eq_false (fun x => by rcases x.2 with x | x <;> omega), c]; rfl
    · rw [decide_eq_true ⟨hall, Or.inr ⟨h, c⟩⟩]
      symm
      simp
      omega

set_option maxRecDepth 100000 in
set_option maxHeartbeats 4000000 in
theorem less_walk (a b : ByteArray) (r : Bool) (ha : a.size ≤ 9223372036854775807) (h1 : a.size ≠ b.size → r = decide (a.size < b.size))
    (h2 : a.size = b.size → ∀ k, k < a.size → (∀ j, j < k → gb a j = gb b j) → gb a k ≠ gb b k → r = decide ((gb a k : Int) < gb b k)) (h3 : a.size = b.size → (∀ j, j < a.size → gb a j = gb b j) → r = true) (w : World) :
    Calls Try.prog 51 #[.string a, .string b] w fun e w' => e = .returned (.bool r) ∧ Below w.heap.size w w' := by
  have H1 := Lib.hid h1
  have H2 := Lib.hid h2
  have H3 := Lib.hid h3
  have HZ := Lib.hid ha
  clear h1 h2 h3 ha
  by_cases hs : a.size = b.size
  · have d1 : ((a.size : Int) != (b.size : Int)) = false := by simp; omega
    have HS := Lib.hid hs
    clear hs
    go_enter Try.func51, Try.ntmps51
    go_wp2_with fail
    go_loopw [5] (fun i wr => ∃ k : Nat, k ≤ a.size ∧ i = .int .i64 k ∧ (∀ j, j < k → gb a j = gb b j) ∧ Below w.heap.size w wr) (fun i _ => ((a.size : Int) - intOf i).toNat)
    case atStart => exact ⟨0, Nat.zero_le _, rfl, fun j hj => absurd hj (by omega), Below.refl _ _⟩
    case round =>
      obtain ⟨k, hk, rfl, hj, hB⟩ := hrel
      have hse := HS.out
      by_cases hlt : k < a.size
      · have hltb : k < b.size := by omega
        have hd : decide (k < a.size) = true := decide_eq_true hlt
        have k0 : (0 : Int) ≤ k := by omega
        have k1 : (k : Int) < a.size := by omega
        have k2 : (k : Int) < b.size := by omega
        have hz := HZ.out
        have e9 : IntKind.i64.wrap ((k : Int) + 1) = ((k + 1 : Nat) : Int) := by rw [IntWalk.i64_in _ (by omega)]; omega
        have HK := Lib.hid hlt
        have HJ := Lib.hid hj
        have HB := Lib.hid hB
        have HGa : Hid ((a[k]'hlt).toNat = gb a k) := gb_eq a k hlt
        have HGb : Hid ((b[k]'hltb).toNat = gb b k) := gb_eq b k hltb
        by_cases c : gb a k = gb b k
        · have d2 : ((((a[k]'hlt).toNat : Nat) : Int) != (((b[k]'hltb).toNat : Nat) : Int)) = false := by rw [HGa.out, HGb.out]; simp; omega
          have HC := Lib.hid c
          clear hj hB hz hk hse c
          go_wp2_with fail
          go_region
          go_wp2_with fail
          go_roundw
          case rel =>
            refine ⟨k + 1, HK.out, rfl, fun j hj => ?_, HB.out.drew⟩
            rcases Nat.lt_succ_iff_lt_or_eq.mp hj with h | rfl
            · exact HJ.out j h
            · exact HC.out
          case measure => have := HK.out; simp [intOf]; omega
        · have d2 : ((((a[k]'hlt).toNat : Nat) : Int) != (((b[k]'hltb).toNat : Nat) : Int)) = true := by rw [HGa.out, HGb.out]; simp; omega
          have HR := Lib.hid (H2.out hse k hlt hj c)
          clear hj hB hz hk hse c
          go_wp2_with fail
          go_region
          go_wp2_with fail
          go_region
          go_wp2_with fail
          go_ret
          exact ⟨by rw [HR.out, ← HGa.out, ← HGb.out]; simp, HB.out.drew.drew⟩
      · have hd : decide (k < a.size) = false := decide_eq_false hlt
        have HR := Lib.hid (H3.out hse (fun j h => hj j (by omega)))
        have HB := Lib.hid hB
        clear hj hB hk hse hlt
        go_wp2_with fail
        go_ret
        exact ⟨by rw [HR.out]; rfl, HB.out⟩
  · have d1 : ((a.size : Int) != (b.size : Int)) = true := by simp; omega
    have HR := Lib.hid (H1.out hs)
    clear hs
    go_enter Try.func51, Try.ntmps51
    go_wp2_with fail
    go_ret
    exact ⟨by rw [HR.out]; simp, Below.refl _ _⟩

set_option maxRecDepth 100000 in
theorem mostText_any (w : World) : Calls Try.prog 52 #[] w fun e w' => e = .returned (.string (textN (MM - 1))) ∧ Below w.heap.size w w' := by
  have c := fun w => refprint_any (MM - 1) (by decide) w
  rw [ones] at c
  have C := Lib.hid c
  clear c
  generalize textN (MM - 1) = t at *
  go_enter Try.func52, Try.ntmps52
  go_wp2_with (first
    | (go_at_call 46; (with_reducible refine (C.out _).mono ?_); rintro e w1 ⟨rfl, hb1⟩; have HB1 := Lib.hid hb1; clear hb1))
  go_ret
  exact ⟨rfl, HB1.out⟩

end Go.Proofs.Ytcaeaepnobbjlaa

