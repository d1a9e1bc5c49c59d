import Derived.Test.YtcaeaepnobbjlaaG
namespace Go.Proofs.Ytcaeaepnobbjlaa
set_option linter.unusedVariables false
set_option linter.unusedSimpArgs false
open Go.RowKit

/-- One box filled anew, by its two words. -/
theorem Boxes.put {w W : World} {bs bs' : List (Nat × Nat × Nat × Nat)} (h : Boxes w W bs) (b t p q p' q' : Nat) (hm : (b, t, p, q) ∈ bs) (hg : w.heap.size ≤ b)
    (hbs : ∀ x ∈ bs', x = (b, t, p', q') ∨ (x ∈ bs ∧ x.1 ≠ b)) : Boxes w ((W.setCell ⟨b, 0, none⟩ (.int .u64 (p' : Int))).setCell ⟨b, 1, none⟩ (.int .u64 (q' : Int))) bs' := by
  refine ⟨(h.below.setCell hg _).setCell hg _, fun x hx => ?_⟩
  rcases hbs x hx with rfl | ⟨hx, hn⟩
  · exact pair_set (h.all _ hm) _ _
  · exact old_set _ hn (old_set _ hn (h.all x hx))
theorem Boxes.at {w W : World} {bs : List (Nat × Nat × Nat × Nat)} (h : Boxes w W bs) (b t p q : Nat) (hm : (b, t, p, q) ∈ bs) :
    (W.cell? ⟨b, 0, none⟩ = some (.int .u64 p) ∧ W.cell? ⟨b, 1, none⟩ = some (.int .u64 q)) ∧ W.frozen? ⟨b, 0, none⟩ = false ∧ W.frozen? ⟨b, 1, none⟩ = false :=
  ⟨two_cells (h.all _ hm), frozen_of_row _ _ _ _ _ (h.all _ hm), frozen_of_row _ _ _ _ _ (h.all _ hm)⟩
abbrev ML (w : World) (n m : Nat) : List (Nat × Nat × Nat × Nat) := [(w.heap.size, 27, 0, 0), (w.heap.size + 1, 27, n / M, n % M), (w.heap.size + 1 + 1, 27, m / M, m % M)]

theorem mul_round (a b k : Nat) : (if b / 2 ^ k % 2 = 1 then (a * (b % 2 ^ k) % MM + a * 2 ^ k % MM) % MM else a * (b % 2 ^ k) % MM) = a * (b % 2 ^ (k + 1)) % MM := by
  have hb : b % 2 ^ (k + 1) = b % 2 ^ k + 2 ^ k * (b / 2 ^ k % 2) := by rw [Nat.pow_succ, Nat.mod_mul]
  rw [hb]
  split
  · rename_i h
    rw [h, Nat.mul_one, Nat.mul_add, Nat.add_mod (a * (b % 2 ^ k))]
  · rename_i h
    rw [show b / 2 ^ k % 2 = 0 by omega, Nat.mul_zero, Nat.add_zero]

def bitOk (B n s r : Nat) : Prop := (if B % 2 = 1 then s else n) = r

set_option maxRecDepth 100000 in
set_option maxHeartbeats 8000000 in
theorem refmul_any (a b : Nat) (ha : a < M) (hb : b < M) (w : World) :
    Calls Try.prog 29 #[.int .u64 a, .int .u64 b] w fun e w' => e = .returned (W (a * b)) ∧ Below w.heap.size w w' := by
  have hpos : 0 < MM := by rw [MM_eq]; omega
  have hfin : a * (b % 2 ^ 64) % MM = a * b := by
    rw [Nat.mod_eq_of_lt (show b < 2 ^ 64 from M_pow ▸ hb), Nat.mod_eq_of_lt]
    have : a * b < M * M := Nat.mul_lt_mul'' ha hb
    rw [MM_eq]; rw [M_eq] at this; omega
  have HA := Lib.hid (fun n m (hn : n < MM) (hm : m < MM) w => refadd_any n m hn hm w)
  have HFin := Lib.hid hfin
  have HPos := Lib.hid hpos
  have HBl : Hid (b < 18446744073709551616) := by show _; rw [M_eq] at hb; exact hb
  have HAl : Hid (a < M) := ha
  clear hpos hfin hb ha
  rw [show W (a * b) = wv (a * b / M) (a * b % M) from rfl]
  obtain ⟨rh, hrh⟩ : ∃ rh, rh = a * b / M := ⟨_, rfl⟩
  obtain ⟨rl, hrl⟩ : ∃ rl, rl = a * b % M := ⟨_, rfl⟩
  rw [← hrh, ← hrl]
  have HRH : Hid (a * b / M = rh ∧ a * b % M = rl) := ⟨hrh.symm, hrl.symm⟩
  clear hrh hrl
  go_enter Try.func29, Try.ntmps29
  go_wp2_with fail
  have hI0 : Boxes w (((w.alloc (.cells #[.int .u64 0, .int .u64 0] 27)).alloc (.cells #[.int .u64 0, .int .u64 0] 27)).alloc (.cells #[.int .u64 0, .int .u64 a] 27)) (ML w (a * (b % 2 ^ 0) % MM) (a * 2 ^ 0 % MM)) := by
    have ha : a % MM = a := Nat.mod_eq_of_lt (by have := HAl.out; rw [M_eq] at this; rw [MM_eq]; omega)
    have h0 : a * (b % 2 ^ 0) % MM = 0 := by rw [Nat.pow_zero, Nat.mod_one, Nat.mul_zero, Nat.zero_mod]
    have hd : a / M = 0 := Nat.div_eq_of_lt HAl.out
    have hm : a % M = a := Nat.mod_eq_of_lt HAl.out
    rw [h0, Nat.pow_zero, Nat.mul_one, ha]
    refine ⟨(((Below.refl _ _).alloc (Nat.le_refl _) _).alloc (by simp) _).alloc (by simp; omega) _, fun x hx => ?_⟩
    simp only [ML, List.mem_cons, List.not_mem_nil, or_false] at hx
    rcases hx with rfl | rfl | rfl
    · exact heap_alloc3_old _ _ _ _
    · rw [Nat.zero_div, Nat.zero_mod]; exact heap_alloc3_mid _ _ _ _
    · rw [hd, hm]; exact heap_alloc3_new _ _ _ _
  have HI0 := Lib.hid hI0
  clear hI0
  generalize (((w.alloc (.cells #[.int .u64 0, .int .u64 0] 27)).alloc (.cells #[.int .u64 0, .int .u64 0] 27)).alloc (.cells #[.int .u64 0, .int .u64 a] 27)) = w0 at *
  go_loopw [1, 7] (fun v i wr => ∃ k : Nat, k ≤ 64 ∧ i = .int .i64 k ∧ v = .int .u64 ((b / 2 ^ k : Nat) : Int) ∧ Boxes w wr (ML w (a * (b % 2 ^ k) % MM) (a * 2 ^ k % MM))) (fun _ i _ => (64 - intOf i).toNat)
  case atStart => exact ⟨0, by omega, rfl, by rw [Nat.pow_zero, Nat.div_one], HI0.out⟩
  case round =>
    obtain ⟨k, hk, rfl, rfl, hI⟩ := hrel
    by_cases hlt : k < 64
    · have hd : decide ((k : Int) < 64) = true := by simp; omega
      have hr := mul_round a b k
      have hn : a * (b % 2 ^ k) % MM < MM := Nat.mod_lt _ HPos.out
      have hm : a * 2 ^ k % MM < MM := Nat.mod_lt _ HPos.out
      have hm2 : (a * 2 ^ k % MM + a * 2 ^ k % MM) % MM = a * 2 ^ (k + 1) % MM := by rw [← Nat.add_mod, Nat.pow_succ, ← Nat.mul_assoc, Nat.mul_two]
      have hdv : b / 2 ^ (k + 1) = b / 2 ^ k / 2 := by rw [Nat.pow_succ, Nat.div_div_eq_div_mul]
      have hB : b / 2 ^ k < 18446744073709551616 := Nat.lt_of_le_of_lt (Nat.div_le_self _ _) HBl.out
      obtain ⟨B, hBe⟩ : ∃ B, B = b / 2 ^ k := ⟨_, rfl⟩
      obtain ⟨n, hne⟩ : ∃ n, n = a * (b % 2 ^ k) % MM := ⟨_, rfl⟩
      obtain ⟨m, hme⟩ : ∃ m, m = a * 2 ^ k % MM := ⟨_, rfl⟩
      rw [← hBe] at hr hdv hB ⊢
      rw [← hne] at hr hn hI
      rw [← hme] at hr hm hm2 hI
      have HR := Lib.hid hr
      have HM2 := Lib.hid hm2
      have HDv := Lib.hid hdv
      have C1 := fun w => HA.out n m hn hm w
      have C2 := fun w => HA.out m m hm hm w
      unfold W at C1 C2
      unfold ML at hI
      generalize hs : (n + m) % MM = s at *
      generalize hdd : (m + m) % MM = d at *
      generalize hnh : n / M = nh at *
      generalize hnl : n % M = nl at *
      generalize m / M = mh at *
      generalize m % M = ml at *
      generalize hsh : s / M = sh at *
      generalize hsl : s % M = sl at *
      generalize hdh : d / M = dh at *
      generalize hdl : d % M = dl at *
      generalize decide (MM ≤ n + m) = o1 at *
      generalize decide (MM ≤ m + m) = o2 at *
      have C1 := Lib.hid C1
      have C2 := Lib.hid C2
      have HX := Lib.hid hI
      obtain ⟨⟨p0, p1⟩, y0, y1⟩ := hI.at (w.heap.size + 1) 27 nh nl (by simp)
      obtain ⟨⟨q0, q1⟩, z0, z1⟩ := hI.at (w.heap.size + 1 + 1) 27 mh ml (by simp)
      have td : (B : Int).tdiv 2 = ((B / 2 : Nat) : Int) := rfl
      have tw : IntKind.u64.wrap ((B / 2 : Nat) : Int) = ((B / 2 : Nat) : Int) := wrap_in _ (by omega)
      have HBits : Hid (bitOk B n s (a * (b % 2 ^ (k + 1)) % MM)) := hr
      have HSH : Hid (s / M = sh ∧ s % M = sl ∧ d / M = dh ∧ d % M = dl) := ⟨hsh, hsl, hdh, hdl⟩
      have HN2 : Hid (n / M = nh ∧ n % M = nl) := ⟨hnh, hnl⟩
      clear hr hm2 hdv hI hne hme hBe hB hn hm hs hdd hsh hsl hdh hdl hnh hnl HR
      by_cases hbit : B % 2 = 1
      · have tm : (B : Int).tmod 2 = 1 := by show ((B % 2 : Nat) : Int) = 1; rw [hbit]; rfl
        have HR : Hid (s = a * (b % 2 ^ (k + 1)) % MM) := by have := HBits.out; unfold bitOk at this; rw [if_pos hbit] at this; exact this
        clear hbit
        generalize B / 2 = B2 at *
        go_wp2_with (first
          | (go_at_call 20; with_reducible refine (C1.out _).mono ?_; rintro e w1 ⟨rfl, hb1⟩
             have HX1 := HX.out.next hb1
             obtain ⟨⟨p0, p1⟩, y0, y1⟩ := HX1.at (w.heap.size + 1) 27 nh nl (by simp)
             obtain ⟨⟨q0, q1⟩, z0, z1⟩ := HX1.at (w.heap.size + 1 + 1) 27 mh ml (by simp)
             have HX2 := Lib.hid (HX1.put (w.heap.size + 1) 27 nh nl sh sl (bs' := [(w.heap.size, 27, 0, 0), (w.heap.size + 1, 27, sh, sl), (w.heap.size + 1 + 1, 27, mh, ml)]) (by simp) (by omega) (by simp))
             clear hb1 HX1)
          | (go_at_call 20; with_reducible refine (C2.out _).mono ?_; rintro e w3 ⟨rfl, hb3⟩
             have HX3 := HX2.out.next hb3
             obtain ⟨⟨q0, q1⟩, z0, z1⟩ := HX3.at (w.heap.size + 1 + 1) 27 mh ml (by simp)
             have HX4 := Lib.hid (HX3.put (w.heap.size + 1 + 1) 27 mh ml dh dl (bs' := [(w.heap.size, 27, 0, 0), (w.heap.size + 1, 27, sh, sl), (w.heap.size + 1 + 1, 27, dh, dl)]) (by simp) (by omega) (by simp; try omega))
             clear hb3 HX3))
        go_roundw
        case rel =>
          refine ⟨k + 1, by omega, by go_num, by rw [HDv.out], ?_⟩
          have h4 := HX4.out
          unfold ML
          rw [← HR.out, ← HM2.out, HSH.out.1, HSH.out.2.1, HSH.out.2.2.1, HSH.out.2.2.2]
          exact h4
        case measure => simp [intOf]; omega
      · have tm : (B : Int).tmod 2 = 0 := by show ((B % 2 : Nat) : Int) = 0; rw [show B % 2 = 0 by omega]; rfl
        have HR : Hid (n = a * (b % 2 ^ (k + 1)) % MM) := by have := HBits.out; unfold bitOk at this; rw [if_neg hbit] at this; exact this
        clear hbit
        generalize B / 2 = B2 at *
        go_wp2_with (first
          | (go_at_call 20; with_reducible refine (C2.out _).mono ?_; rintro e w3 ⟨rfl, hb3⟩
             have HX3 := HX.out.next hb3
             obtain ⟨⟨q0, q1⟩, z0, z1⟩ := HX3.at (w.heap.size + 1 + 1) 27 mh ml (by simp)
             have HX4 := Lib.hid (HX3.put (w.heap.size + 1 + 1) 27 mh ml dh dl (bs' := [(w.heap.size, 27, 0, 0), (w.heap.size + 1, 27, nh, nl), (w.heap.size + 1 + 1, 27, dh, dl)]) (by simp) (by omega) (by simp; try omega))
             clear hb3 HX3))
        go_roundw
        case rel =>
          refine ⟨k + 1, by omega, by go_num, by rw [HDv.out], ?_⟩
          have h4 := HX4.out
          unfold ML
          rw [← HR.out, ← HM2.out, HN2.out.1, HN2.out.2, HSH.out.2.2.1, HSH.out.2.2.2]
          exact h4
        case measure => simp [intOf]; omega
    · obtain rfl : k = 64 := by omega
      rw [HFin.out] at hI
      unfold ML at hI
      rw [HRH.out.1, HRH.out.2] at hI
      have HP := Lib.hid (hI.put (w.heap.size) 27 0 0 rh rl (bs' := [(w.heap.size, 27, rh, rl)]) (by simp) (by omega) (by simp))
      obtain ⟨⟨p0, p1⟩, y0, y1⟩ := hI.at (w.heap.size + 1) 27 rh rl (by simp)
      obtain ⟨⟨q0, q1⟩, z0, z1⟩ := hI.at (w.heap.size) 27 0 0 (by simp)
      clear hI
      go_wp2_with fail
      have hP := HP.out
      generalize (wr.setCell ⟨w.heap.size, 0, none⟩ (.int .u64 rh)).setCell ⟨w.heap.size, 1, none⟩ (.int .u64 rl) = W1 at *
      obtain ⟨⟨r0, r1⟩, -, -⟩ := hP.at (w.heap.size) 27 rh rl (by simp)
      exact bodyPost_ret (v := wv rh rl) (by simp [results, Try.results29, go_sem, r0, r1]) rfl ⟨rfl, hP.below⟩

end Go.Proofs.Ytcaeaepnobbjlaa
