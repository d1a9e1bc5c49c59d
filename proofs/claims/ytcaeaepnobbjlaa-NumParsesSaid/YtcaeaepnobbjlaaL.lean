import Derived.Test.YtcaeaepnobbjlaaK
namespace Go.Proofs.Ytcaeaepnobbjlaa
set_option linter.unusedVariables false
set_option linter.unusedSimpArgs false
open Go.RowKit

theorem and_mask (n m : Nat) (hn : n < MM) (hm : m ≤ 128) : n &&& maskN m = 2 ^ (128 - m) * (n / 2 ^ (128 - m)) := by
  obtain ⟨e, he⟩ : ∃ e, m + e = 128 := ⟨128 - m, by omega⟩
  rw [show 128 - m = e by omega]
  have hM : maskN m = 2 ^ e * (2 ^ m - 1) := by
    unfold maskN
    rw [show 128 - m = e by omega, Nat.mul_sub, Nat.mul_one, ← Nat.pow_add, Nat.add_comm e m, he, MM_pow]
  have hp := Nat.two_pow_pos e
  have hlt : n / 2 ^ e < 2 ^ m := by
    rw [Nat.div_lt_iff_lt_mul hp, ← Nat.pow_add, he, ← MM_pow]; exact hn
  have h1 : (n &&& maskN m) / 2 ^ e = n / 2 ^ e := by
    rw [Nat.and_div_two_pow, hM, Nat.mul_div_cancel_left _ hp, Nat.and_two_pow_sub_one_eq_mod, Nat.mod_eq_of_lt hlt]
  have h2 : (n &&& maskN m) % 2 ^ e = 0 := by
    rw [Nat.and_mod_two_pow, hM, Nat.mul_mod_right, Nat.and_zero]
  rw [← Nat.div_add_mod (n &&& maskN m) (2 ^ e), h1, h2, Nat.add_zero]

theorem numOf_top (n k : Nat) (hn : n < MM) (hk : k ≤ 128) : numOf (bitOf n) k = n / 2 ^ (128 - k) := by
  rw [numOf_bits n k hk, Nat.mod_eq_of_lt]
  rw [Nat.div_lt_iff_lt_mul (Nat.two_pow_pos _), ← Nat.pow_add, show k + (128 - k) = 128 by omega, ← MM_pow]; exact hn

theorem top_same (n m k : Nat) (hn : n < MM) (hm : m < MM) (hk : k < 128) (hj : ∀ j, j < k → bitOf n j = bitOf m j) (h : bitOf n k = bitOf m k) : n &&& maskN (k + 1) = m &&& maskN (k + 1) := by
  rw [and_mask n _ hn (by omega), and_mask m _ hm (by omega), ← numOf_top n _ hn (by omega), ← numOf_top m _ hm (by omega), numOf, numOf, numOf_congr k hj, h]
theorem top_diff (n m k : Nat) (hn : n < MM) (hm : m < MM) (hk : k < 128) (hj : ∀ j, j < k → bitOf n j = bitOf m j) (h : bitOf n k ≠ bitOf m k) : n &&& maskN (k + 1) ≠ m &&& maskN (k + 1) := by
  rw [and_mask n _ hn (by omega), and_mask m _ hm (by omega), ← numOf_top n _ hn (by omega), ← numOf_top m _ hm (by omega), numOf, numOf, numOf_congr k hj]
  intro e
  have := Nat.eq_of_mul_eq_mul_left (Nat.two_pow_pos _) e
  omega

/-- How many first bits are alike: k are left. -/
def sameR (f g : Nat → Nat) : Nat → Nat
  | 0 => 128
  | k + 1 => if f (127 - k) = g (127 - k) then sameR f g k else 127 - k
theorem same_from (f g : Nat → Nat) : ∀ p, p ≤ 128 → (∀ j, j < p → f j = g j) → sameR f g 128 = sameR f g (128 - p)
  | 0, _, _ => rfl
  | p + 1, hp, h => by
    rw [same_from f g p (by omega) fun j hj => h j (by omega), show 128 - p = (128 - (p + 1)) + 1 by omega, sameR, show 127 - (128 - (p + 1)) = p by omega, if_pos (h p (by omega))]
theorem same_stop (f g : Nat → Nat) (p : Nat) (hp : p < 128) (h : ∀ j, j < p → f j = g j) (hn : f p ≠ g p) : sameR f g 128 = p := by
  rw [same_from f g p (by omega) h, show 128 - p = (127 - p) + 1 by omega, sameR, show 127 - (127 - p) = p by omega, if_neg hn]
theorem same_end (f g : Nat → Nat) (h : ∀ j, j < 128 → f j = g j) : sameR f g 128 = 128 := same_from f g 128 (by omega) h

abbrev SA (w : World) (ah al bh bl : Nat) : List (Nat × Nat × Nat × Nat) := [(w.heap.size, 24, ah, al), (w.heap.size + 1, 24, bh, bl)]

theorem W_inj (n m : Nat) (h : W n = W m) : n = m := by
  have h1 : (n / M : Int) = (m / M : Int) ∧ (n % M : Int) = (m % M : Int) := by
    simpa [W, wv] using h
  have e1 : n / M = m / M := by omega
  have e2 : n % M = m % M := by omega
  rw [← Nat.div_add_mod n M, ← Nat.div_add_mod m M, e1, e2]

set_option maxRecDepth 100000 in
set_option maxHeartbeats 4000000 in
theorem same_walk (ah al bh bl : Nat) (f g : Nat → Nat) (th tl uh ul : Nat → Nat) (ha : ∀ (k : Nat) w, Calls Try.prog 39 #[wv ah al, .int .i64 ((k : Int) + 1)] w fun e w' => e = .returned (wv (th k) (tl k)) ∧ Below w.heap.size w w')
    (hb : ∀ (k : Nat) w, Calls Try.prog 39 #[wv bh bl, .int .i64 ((k : Int) + 1)] w fun e w' => e = .returned (wv (uh k) (ul k)) ∧ Below w.heap.size w w')
    (hs : ∀ k, k < 128 → (∀ j, j < k → f j = g j) → f k = g k → th k = uh k ∧ tl k = ul k)
    (hd : ∀ k, k < 128 → (∀ j, j < k → f j = g j) → f k ≠ g k → ¬ (th k = uh k ∧ tl k = ul k)) (w : World) :
    Calls Try.prog 42 #[wv ah al, wv bh bl] w fun e w' => e = .returned (.int .i64 (sameR f g 128 : Nat)) ∧ Below w.heap.size w w' := by
  have HA := Lib.hid ha
  have HB := Lib.hid hb
  have HS := Lib.hid hs
  have HD := Lib.hid hd
  clear ha hb hs hd
  obtain ⟨r, hr⟩ : ∃ r, r = sameR f g 128 := ⟨_, rfl⟩
  rw [← hr]
  have HRes := Lib.hid hr
  clear hr
  go_enter Try.func42, Try.ntmps42
  go_wp2_with fail
  have hbx : Boxes w ((w.alloc (.cells #[.int .u64 ah, .int .u64 al] 24)).alloc (.cells #[.int .u64 bh, .int .u64 bl] 24)) (SA w ah al bh bl) :=
    ⟨((Below.refl _ _).alloc (Nat.le_refl _) _).alloc (by simp) _, by
      intro x hx
      simp only [SA, List.mem_cons, List.not_mem_nil, or_false] at hx
      rcases hx with rfl | rfl
      · exact heap_alloc2_old _ _ _
      · exact heap_alloc2_new _ _ _⟩
  generalize (w.alloc (.cells #[.int .u64 ah, .int .u64 al] 24)).alloc (.cells #[.int .u64 bh, .int .u64 bl] 24) = w0 at *
  have HB0 := Lib.hid hbx
  have HNk : Hid (∀ W, Boxes w W (SA w ah al bh bl) → (Boxes w W (SA w ah al bh bl) ∧ (W.cell? ⟨w.heap.size, 0, none⟩ = some (.int .u64 ah) ∧ W.cell? ⟨w.heap.size, 1, none⟩ = some (.int .u64 al)) ∧ (W.cell? ⟨w.heap.size + 1, 0, none⟩ = some (.int .u64 bh) ∧ W.cell? ⟨w.heap.size + 1, 1, none⟩ = some (.int .u64 bl)))) := fun W h => ⟨h, two_cells (h.all (w.heap.size, 24, ah, al) (by simp [SA])), two_cells (h.all (w.heap.size + 1, 24, bh, bl) (by simp [SA]))⟩
  have HN : Hid (∀ W V, (Boxes w W (SA w ah al bh bl) ∧ (W.cell? ⟨w.heap.size, 0, none⟩ = some (.int .u64 ah) ∧ W.cell? ⟨w.heap.size, 1, none⟩ = some (.int .u64 al)) ∧ (W.cell? ⟨w.heap.size + 1, 0, none⟩ = some (.int .u64 bh) ∧ W.cell? ⟨w.heap.size + 1, 1, none⟩ = some (.int .u64 bl))) → Below W.heap.size W V → (Boxes w V (SA w ah al bh bl) ∧ (V.cell? ⟨w.heap.size, 0, none⟩ = some (.int .u64 ah) ∧ V.cell? ⟨w.heap.size, 1, none⟩ = some (.int .u64 al)) ∧ (V.cell? ⟨w.heap.size + 1, 0, none⟩ = some (.int .u64 bh) ∧ V.cell? ⟨w.heap.size + 1, 1, none⟩ = some (.int .u64 bl)))) := fun W V h hb => HNk.out _ (h.1.next hb)
  clear hbx
  go_loopw [6] (fun i wr => ∃ k : Nat, k ≤ 128 ∧ i = .int .i64 k ∧ Boxes w wr (SA w ah al bh bl) ∧ ∀ j, j < k → f j = g j) (fun i _ => (128 - intOf i).toNat)
  case atStart => exact ⟨0, by omega, rfl, HB0.out, fun j hj => absurd hj (by omega)⟩
  case round =>
    obtain ⟨k, hk, rfl, hI, hj⟩ := hrel
    by_cases hlt : k < 128
    · have hd : decide ((k : Int) < 128) = true := by simp; omega
      have e1 : IntKind.i64.wrap ((k : Int) + 1) = ((k + 1 : Nat) : Int) := by rw [IntKind.wrap_i64]; omega
      have HS0 := Lib.hid (HN.out wr wr.drew (HNk.out _ hI) ⟨rfl, rfl, rfl, Nat.le_refl _, fun _ _ => rfl⟩)
      have C1 := Lib.hid (HA.out k)
      have C2 := Lib.hid (HB.out k)
      have D1 := HS.out k hlt hj
      have D2 := HD.out k hlt hj
      have HJ := Lib.hid hj
      have HF : Hid (∀ W, (Boxes w W (SA w ah al bh bl) ∧ (W.cell? ⟨w.heap.size, 0, none⟩ = some (.int .u64 ah) ∧ W.cell? ⟨w.heap.size, 1, none⟩ = some (.int .u64 al)) ∧ (W.cell? ⟨w.heap.size + 1, 0, none⟩ = some (.int .u64 bh) ∧ W.cell? ⟨w.heap.size + 1, 1, none⟩ = some (.int .u64 bl))) → Boxes w W (SA w ah al bh bl)) := fun W h => h.1
      clear hI hj
      by_cases hfg : f k = g k
      · obtain ⟨q1, q2⟩ := D1 hfg
        have HFG := Lib.hid hfg
        rw [q1, q2] at C1
        clear D1 D2 q1 q2 hfg
        generalize uh k = x at *
        generalize ul k = y at *
        go_wp2_with fail
        go_region_held3 (fun W => (Boxes w W (SA w ah al bh bl) ∧ (W.cell? ⟨w.heap.size, 0, none⟩ = some (.int .u64 ah) ∧ W.cell? ⟨w.heap.size, 1, none⟩ = some (.int .u64 al)) ∧ (W.cell? ⟨w.heap.size + 1, 0, none⟩ = some (.int .u64 bh) ∧ W.cell? ⟨w.heap.size + 1, 1, none⟩ = some (.int .u64 bl)))) (first | exact HS0.out | assumption)
          (first
            | (go_at_call 39; with_reducible refine (C1.out _).mono ?_; rintro e w1 ⟨rfl, hb1⟩; have hS1 := HN.out _ _ (by assumption) hb1; clear hb1)
            | (go_at_call 39; with_reducible refine (C2.out _).mono ?_; rintro e w1 ⟨rfl, hb1⟩; have hS1 := HN.out _ _ (by assumption) hb1; clear hb1))
        go_wp2_with fail
        go_roundw
        case rel =>
          refine ⟨k + 1, by omega, by go_num, HF.out _ (by assumption), fun j hj => ?_⟩
          rcases Nat.lt_succ_iff_lt_or_eq.mp hj with h | rfl
          · exact HJ.out j h
          · exact HFG.out
        case measure => simp [intOf]; omega
      · have hne := D2 hfg
        have HR : Hid (r = k) := by show _ = _; rw [HRes.out]; exact same_stop f g k hlt HJ.out hfg
        clear D1 D2 hfg
        generalize th k = x2 at *
        generalize tl k = y2 at *
        generalize uh k = x at *
        generalize ul k = y at *
        by_cases c : x2 = x
        · subst c
          have hy : ¬ y2 = y := fun h => hne ⟨rfl, h⟩
          have hy1 : ((y2 : Int) == (y : Int)) = false := by simp; omega
          have hy2 : decide ((y2 : Int) = (y : Int)) = false := by simp; omega
          clear hne
          go_wp2_with fail
          go_region_held3 (fun W => (Boxes w W (SA w ah al bh bl) ∧ (W.cell? ⟨w.heap.size, 0, none⟩ = some (.int .u64 ah) ∧ W.cell? ⟨w.heap.size, 1, none⟩ = some (.int .u64 al)) ∧ (W.cell? ⟨w.heap.size + 1, 0, none⟩ = some (.int .u64 bh) ∧ W.cell? ⟨w.heap.size + 1, 1, none⟩ = some (.int .u64 bl)))) (first | exact HS0.out | assumption)
            (first
              | (go_at_call 39; with_reducible refine (C1.out _).mono ?_; rintro e w1 ⟨rfl, hb1⟩; have hS1 := HN.out _ _ (by assumption) hb1; clear hb1)
              | (go_at_call 39; with_reducible refine (C2.out _).mono ?_; rintro e w1 ⟨rfl, hb1⟩; have hS1 := HN.out _ _ (by assumption) hb1; clear hb1))
          go_wp2_with fail
          go_ret
          exact ⟨by rw [HR.out]; rfl, (HF.out _ (by assumption)).below⟩
        · have hy1 : ((x2 : Int) == (x : Int)) = false := by simp; omega
          have hy2 : decide ((x2 : Int) = (x : Int)) = false := by simp; omega
          clear hne
          go_wp2_with fail
          go_region_held3 (fun W => (Boxes w W (SA w ah al bh bl) ∧ (W.cell? ⟨w.heap.size, 0, none⟩ = some (.int .u64 ah) ∧ W.cell? ⟨w.heap.size, 1, none⟩ = some (.int .u64 al)) ∧ (W.cell? ⟨w.heap.size + 1, 0, none⟩ = some (.int .u64 bh) ∧ W.cell? ⟨w.heap.size + 1, 1, none⟩ = some (.int .u64 bl)))) (first | exact HS0.out | assumption)
            (first
              | (go_at_call 39; with_reducible refine (C1.out _).mono ?_; rintro e w1 ⟨rfl, hb1⟩; have hS1 := HN.out _ _ (by assumption) hb1; clear hb1)
              | (go_at_call 39; with_reducible refine (C2.out _).mono ?_; rintro e w1 ⟨rfl, hb1⟩; have hS1 := HN.out _ _ (by assumption) hb1; clear hb1))
          go_wp2_with fail
          go_ret
          exact ⟨by rw [HR.out]; rfl, (HF.out _ (by assumption)).below⟩
    · have he : k = 128 := by omega
      subst he
      have HR : Hid (r = 128) := by show _ = _; rw [HRes.out]; exact same_end f g hj
      have hb := hI.below
      clear hI hj
      go_wp2_with fail
      go_ret
      exact ⟨by rw [HR.out]; rfl, hb⟩

theorem same_any (n m : Nat) (hn : n < MM) (hm : m < MM) (w : World) :
    Calls Try.prog 42 #[W n, W m] w fun e w' => e = .returned (.int .i64 (sameR (bitOf n) (bitOf m) 128 : Nat)) ∧ Below w.heap.size w w' := by
  have ht : ∀ (x : Nat) (hx : x < MM) (k : Nat) w, Calls Try.prog 39 #[W x, .int .i64 ((k : Int) + 1)] w fun e w' => e = .returned (W (x &&& maskN (min (k + 1) 128))) ∧ Below w.heap.size w w' := fun x hx k w => by
    have h := top_any x hx ((k : Int) + 1) w
    rwa [show ((k : Int) + 1).toNat = k + 1 by omega] at h
  refine same_walk (n / M) (n % M) (m / M) (m % M) (bitOf n) (bitOf m) (fun k => (n &&& maskN (min (k + 1) 128)) / M) (fun k => (n &&& maskN (min (k + 1) 128)) % M)
    (fun k => (m &&& maskN (min (k + 1) 128)) / M) (fun k => (m &&& maskN (min (k + 1) 128)) % M) (fun k w => ht n hn k w) (fun k w => ht m hm k w) ?_ ?_ w
  · intro k hk hj h
    have e := top_same n m k hn hm hk hj h
    rw [show min (k + 1) 128 = k + 1 by omega, e]
    exact ⟨rfl, rfl⟩
  · intro k hk hj h
    have e := top_diff n m k hn hm hk hj h
    rw [show min (k + 1) 128 = k + 1 by omega]
    rintro ⟨h1, h2⟩
    exact e (by rw [← Nat.div_add_mod (n &&& maskN (k + 1)) M, ← Nat.div_add_mod (m &&& maskN (k + 1)) M, h1, h2])

end Go.Proofs.Ytcaeaepnobbjlaa
