import Derived.Test.YtcaeaepnobbjlaaNg
namespace Go.Proofs.Ytcaeaepnobbjlaa
set_option linter.unusedVariables false
set_option linter.unusedSimpArgs false
open Go.RowKit

set_option maxRecDepth 100000 in
theorem back6_long (ah al bh bl : Nat) (s : ByteArray) (h : 200 < s.size) (w : World) : Calls Try.prog 11 #[wv ah al, wv bh bl, .string s] w fun e w' => e = .returned (.bool true) ∧ Below w.heap.size w w' := by
  have hd : decide ((200 : Int) < s.size) = true := by simp; omega
  have hd2 : decide (200 < s.size) = true := decide_eq_true h
  have HX0 : Hid (Boxes w ((w.alloc (.cells #[.int .u64 ah, .int .u64 al] 24)).alloc (.cells #[.int .u64 bh, .int .u64 bl] 24)) [(w.heap.size + 1, 24, bh, bl), (w.heap.size, 24, ah, al)]) := by
    have hX := ((Boxes.nil w).new 24 ah al).new 24 bh bl
    simp only [size_alloc] at hX
    exact hX
  clear h
  go_enter Try.func11, Try.ntmps11
  go_wp2_with (first
    | (go_at_call 44; (with_reducible refine (alive06_any _).mono ?_); rintro e v1 ⟨rfl, hb1⟩; have HY1 := Lib.hid (HX0.out.next hb1); clear hb1))
  go_ret
  exact ⟨rfl, HY1.out.below⟩

set_option maxRecDepth 100000 in
set_option maxHeartbeats 16000000 in
theorem back6_walk (ah al bh bl gh gl : Nat) (s t u v lt : ByteArray) (h : Int) (k : Int) (hs : s.size ≤ 200)
    (o1 : t.size < u.size → decide (k < 0) = true) (o2 : t.size = u.size → decide (k < 0) = Op.bytesLess t.toList u.toList) (o3 : u.size < t.size → decide (k < 0) = false)
    (c1 : ∀ w, Calls Try.prog 45 #[wv ah al] w fun e w' => e = .returned (.string t) ∧ Below w.heap.size w w')
    (c2 : ∀ w, Calls Try.prog 45 #[wv bh bl] w fun e w' => e = .returned (.string u) ∧ Below w.heap.size w w')
    (c3 : ∀ w, Calls Try.prog 49 #[.string t] w fun e w' => e = .returned (.tuple #[wv ah al, .int .i64 0]) ∧ Below w.heap.size w w')
    (c4 : ∀ w, Calls Try.prog 47 #[.int .u64 al] w fun e w' => e = .returned (.string lt) ∧ Below w.heap.size w w')
    (c5 : ∀ w, Calls Try.prog 48 #[.string lt, .int .u64 al] w fun e w' => e = .returned (.tuple #[.int .u64 al, .int .i64 0]) ∧ Below w.heap.size w w')
    (c6 : ∀ w, Calls Try.prog 49 #[.string s] w fun e w' => e = .returned (.tuple #[wv gh gl, .int .i64 h]) ∧ Below w.heap.size w w')
    (c7 : h = 0 → ∀ w, Calls Try.prog 45 #[wv gh gl] w fun e w' => e = .returned (.string s) ∧ Below w.heap.size w w')
    (c8 : ∀ w, Calls Try.prog 25 #[wv ah al, wv bh bl] w fun e w' => e = .returned (.int .i64 k) ∧ Below w.heap.size w w')
    (w : World) :
    Calls Try.prog 11 #[wv ah al, wv bh bl, .string s] w fun e w' => e = .returned (.bool true) ∧ Below w.heap.size w w' := by
  have hd : decide ((200 : Int) < s.size) = false := by simp; omega
  have hd2 : decide (200 < s.size) = false := decide_eq_false (by omega)
  have C1 := Lib.hid c1
  have C2 := Lib.hid c2
  have C3 := Lib.hid c3
  have C4 := Lib.hid c4
  have C5 := Lib.hid c5
  have C6 := Lib.hid c6
  have C7 := Lib.hid c7
  have C8 := Lib.hid c8
  have O1 := Lib.hid o1
  have O2 := Lib.hid o2
  have O3 := Lib.hid o3
  clear c1 c2 c3 c4 c5 c6 c7 c8 hs o1 o2 o3
  go_enter Try.func11, Try.ntmps11
  go_wp2_with fail
  have hX := ((Boxes.nil w).new 24 ah al).new 24 bh bl
  (try simp only [size_alloc] at hX)
  generalize (w.alloc (.cells #[.int .u64 ah, .int .u64 al] 24)).alloc (.cells #[.int .u64 bh, .int .u64 bl] 24) = w0 at *
  have HX0 : Hid (Boxes w w0 [(w.heap.size + 1, 24, bh, bl), (w.heap.size, 24, ah, al)]) := hX
  clear hX
  have HNk : ∀ W, Boxes w W [(w.heap.size + 1, 24, bh, bl), (w.heap.size, 24, ah, al)] → (Boxes w W [(w.heap.size + 1, 24, bh, bl), (w.heap.size, 24, ah, al)] ∧ (W.cell? ⟨w.heap.size + 1, 0, none⟩ = some (.int .u64 bh) ∧ W.cell? ⟨w.heap.size + 1, 1, none⟩ = some (.int .u64 bl)) ∧ (W.cell? ⟨w.heap.size, 0, none⟩ = some (.int .u64 ah) ∧ W.cell? ⟨w.heap.size, 1, none⟩ = some (.int .u64 al))) := fun W h => ⟨h, two_cells (h.all (w.heap.size + 1, 24, bh, bl) (by simp)), two_cells (h.all (w.heap.size, 24, ah, al) (by simp))⟩
  have HN : Hid (∀ W V, (Boxes w W [(w.heap.size + 1, 24, bh, bl), (w.heap.size, 24, ah, al)] ∧ (W.cell? ⟨w.heap.size + 1, 0, none⟩ = some (.int .u64 bh) ∧ W.cell? ⟨w.heap.size + 1, 1, none⟩ = some (.int .u64 bl)) ∧ (W.cell? ⟨w.heap.size, 0, none⟩ = some (.int .u64 ah) ∧ W.cell? ⟨w.heap.size, 1, none⟩ = some (.int .u64 al))) → Below W.heap.size W V → (Boxes w V [(w.heap.size + 1, 24, bh, bl), (w.heap.size, 24, ah, al)] ∧ (V.cell? ⟨w.heap.size + 1, 0, none⟩ = some (.int .u64 bh) ∧ V.cell? ⟨w.heap.size + 1, 1, none⟩ = some (.int .u64 bl)) ∧ (V.cell? ⟨w.heap.size, 0, none⟩ = some (.int .u64 ah) ∧ V.cell? ⟨w.heap.size, 1, none⟩ = some (.int .u64 al)))) := fun W V h hb => HNk _ (h.1.next hb)
  have HF : Hid (∀ W, (Boxes w W [(w.heap.size + 1, 24, bh, bl), (w.heap.size, 24, ah, al)] ∧ (W.cell? ⟨w.heap.size + 1, 0, none⟩ = some (.int .u64 bh) ∧ W.cell? ⟨w.heap.size + 1, 1, none⟩ = some (.int .u64 bl)) ∧ (W.cell? ⟨w.heap.size, 0, none⟩ = some (.int .u64 ah) ∧ W.cell? ⟨w.heap.size, 1, none⟩ = some (.int .u64 al))) → Below w.heap.size w W) := fun W h => h.1.below
  have hS0 := HNk _ HX0.out
  clear HNk HX0
  go_region_held3 (fun W => Boxes w W [(w.heap.size + 1, 24, bh, bl), (w.heap.size, 24, ah, al)] ∧ (W.cell? ⟨w.heap.size + 1, 0, none⟩ = some (.int .u64 bh) ∧ W.cell? ⟨w.heap.size + 1, 1, none⟩ = some (.int .u64 bl)) ∧ (W.cell? ⟨w.heap.size, 0, none⟩ = some (.int .u64 ah) ∧ W.cell? ⟨w.heap.size, 1, none⟩ = some (.int .u64 al))) (first | assumption | exact HN.out _ _ (by assumption) (Below.refl _ _).drew)
    (first
      | (go_at_call 45; (with_reducible refine (C1.out _).mono ?_); rintro e w1 ⟨rfl, hb1⟩; have hS1 := HN.out _ _ (by assumption) hb1; clear hb1)
      | (go_at_call 45; (with_reducible refine (C2.out _).mono ?_); rintro e w1 ⟨rfl, hb1⟩; have hS1 := HN.out _ _ (by assumption) hb1; clear hb1))
  go_wp2_with (first
    | (go_at_call 49; (with_reducible refine (C3.out _).mono ?_); rintro e v3 ⟨rfl, hb1⟩; have hS3 := HN.out _ _ (by assumption) hb1; clear hb1)
    | (obtain ⟨w3, hw⟩ : ∃ w3, v3.alloc (.cells #[.int .u64 ah, .int .u64 al] 24) = w3 := ⟨_, rfl⟩
       rewrite [hw]
       have HX3 : Hid (Boxes w w3 [(v3.heap.size, 24, ah, al), (w.heap.size + 1, 24, bh, bl), (w.heap.size, 24, ah, al)]) := by rewrite [← hw]; exact hS3.1.new 24 ah al
       clear hw
       generalize v3.heap.size = b9 at *))
  clear HN HF
  have HNk : ∀ W, Boxes w W [(b9, 24, ah, al), (w.heap.size + 1, 24, bh, bl), (w.heap.size, 24, ah, al)] → (Boxes w W [(b9, 24, ah, al), (w.heap.size + 1, 24, bh, bl), (w.heap.size, 24, ah, al)] ∧ (W.cell? ⟨b9, 0, none⟩ = some (.int .u64 ah) ∧ W.cell? ⟨b9, 1, none⟩ = some (.int .u64 al)) ∧ (W.cell? ⟨w.heap.size + 1, 0, none⟩ = some (.int .u64 bh) ∧ W.cell? ⟨w.heap.size + 1, 1, none⟩ = some (.int .u64 bl)) ∧ (W.cell? ⟨w.heap.size, 0, none⟩ = some (.int .u64 ah) ∧ W.cell? ⟨w.heap.size, 1, none⟩ = some (.int .u64 al))) := fun W h => ⟨h, two_cells (h.all (b9, 24, ah, al) (by simp)), two_cells (h.all (w.heap.size + 1, 24, bh, bl) (by simp)), two_cells (h.all (w.heap.size, 24, ah, al) (by simp))⟩
  have HN : Hid (∀ W V, (Boxes w W [(b9, 24, ah, al), (w.heap.size + 1, 24, bh, bl), (w.heap.size, 24, ah, al)] ∧ (W.cell? ⟨b9, 0, none⟩ = some (.int .u64 ah) ∧ W.cell? ⟨b9, 1, none⟩ = some (.int .u64 al)) ∧ (W.cell? ⟨w.heap.size + 1, 0, none⟩ = some (.int .u64 bh) ∧ W.cell? ⟨w.heap.size + 1, 1, none⟩ = some (.int .u64 bl)) ∧ (W.cell? ⟨w.heap.size, 0, none⟩ = some (.int .u64 ah) ∧ W.cell? ⟨w.heap.size, 1, none⟩ = some (.int .u64 al))) → Below W.heap.size W V → (Boxes w V [(b9, 24, ah, al), (w.heap.size + 1, 24, bh, bl), (w.heap.size, 24, ah, al)] ∧ (V.cell? ⟨b9, 0, none⟩ = some (.int .u64 ah) ∧ V.cell? ⟨b9, 1, none⟩ = some (.int .u64 al)) ∧ (V.cell? ⟨w.heap.size + 1, 0, none⟩ = some (.int .u64 bh) ∧ V.cell? ⟨w.heap.size + 1, 1, none⟩ = some (.int .u64 bl)) ∧ (V.cell? ⟨w.heap.size, 0, none⟩ = some (.int .u64 ah) ∧ V.cell? ⟨w.heap.size, 1, none⟩ = some (.int .u64 al)))) := fun W V h hb => HNk _ (h.1.next hb)
  have HF : Hid (∀ W, (Boxes w W [(b9, 24, ah, al), (w.heap.size + 1, 24, bh, bl), (w.heap.size, 24, ah, al)] ∧ (W.cell? ⟨b9, 0, none⟩ = some (.int .u64 ah) ∧ W.cell? ⟨b9, 1, none⟩ = some (.int .u64 al)) ∧ (W.cell? ⟨w.heap.size + 1, 0, none⟩ = some (.int .u64 bh) ∧ W.cell? ⟨w.heap.size + 1, 1, none⟩ = some (.int .u64 bl)) ∧ (W.cell? ⟨w.heap.size, 0, none⟩ = some (.int .u64 ah) ∧ W.cell? ⟨w.heap.size, 1, none⟩ = some (.int .u64 al))) → Below w.heap.size w W) := fun W h => h.1.below
  have hS0 := HNk _ HX3.out
  clear HNk HX3
  go_region_held3 (fun W => Boxes w W [(b9, 24, ah, al), (w.heap.size + 1, 24, bh, bl), (w.heap.size, 24, ah, al)] ∧ (W.cell? ⟨b9, 0, none⟩ = some (.int .u64 ah) ∧ W.cell? ⟨b9, 1, none⟩ = some (.int .u64 al)) ∧ (W.cell? ⟨w.heap.size + 1, 0, none⟩ = some (.int .u64 bh) ∧ W.cell? ⟨w.heap.size + 1, 1, none⟩ = some (.int .u64 bl)) ∧ (W.cell? ⟨w.heap.size, 0, none⟩ = some (.int .u64 ah) ∧ W.cell? ⟨w.heap.size, 1, none⟩ = some (.int .u64 al))) (first | assumption | exact HN.out _ _ (by assumption) (Below.refl _ _).drew)
    (first
      | (go_at_call 47; (with_reducible refine (C4.out _).mono ?_); rintro e w1 ⟨rfl, hb1⟩; have hS1 := HN.out _ _ (by assumption) hb1; clear hb1)
      | (go_at_call 48; (with_reducible refine (C5.out _).mono ?_); rintro e w1 ⟨rfl, hb1⟩; have hS1 := HN.out _ _ (by assumption) hb1; clear hb1))
  by_cases hh : h = 0
  · have C7b := Lib.hid (C7.out hh)
    subst hh
    clear C7
    go_wp2_with (first
      | (go_at_call 49; (with_reducible refine (C6.out _).mono ?_); rintro e v5 ⟨rfl, hb1⟩; have hS5 := HN.out _ _ (by assumption) hb1; clear hb1)
      | (obtain ⟨w5, hw⟩ : ∃ w5, v5.alloc (.cells #[.int .u64 gh, .int .u64 gl] 24) = w5 := ⟨_, rfl⟩
         rewrite [hw]
         have HX5 : Hid (Boxes w w5 [(v5.heap.size, 24, gh, gl), (b9, 24, ah, al), (w.heap.size + 1, 24, bh, bl), (w.heap.size, 24, ah, al)]) := by rewrite [← hw]; exact hS5.1.new 24 gh gl
         clear hw
         generalize v5.heap.size = b13 at *
         obtain ⟨⟨r0, s0⟩, -, -⟩ := HX5.out.at (b13) 24 gh gl (by simp)
         obtain ⟨⟨r1, s1⟩, -, -⟩ := HX5.out.at (b9) 24 ah al (by simp)
         obtain ⟨⟨r2, s2⟩, -, -⟩ := HX5.out.at (w.heap.size + 1) 24 bh bl (by simp)
         obtain ⟨⟨r3, s3⟩, -, -⟩ := HX5.out.at (w.heap.size) 24 ah al (by simp))
      | (go_at_call 45; (with_reducible refine (C7b.out _).mono ?_); rintro e v6 ⟨rfl, hb1⟩; have HX6 := Lib.hid (HX5.out.next hb1); clear hb1
         obtain ⟨⟨r0, s0⟩, -, -⟩ := HX6.out.at (b13) 24 gh gl (by simp)
         obtain ⟨⟨r1, s1⟩, -, -⟩ := HX6.out.at (b9) 24 ah al (by simp)
         obtain ⟨⟨r2, s2⟩, -, -⟩ := HX6.out.at (w.heap.size + 1) 24 bh bl (by simp)
         obtain ⟨⟨r3, s3⟩, -, -⟩ := HX6.out.at (w.heap.size) 24 ah al (by simp))
      | (go_at_call 44; (with_reducible refine (alive06_any _).mono ?_); rintro e v7 ⟨rfl, hb1⟩; have HX7 := Lib.hid (Boxes.next (by first | exact HX6.out | exact HX5.out) hb1); clear hb1
         obtain ⟨⟨r0, s0⟩, -, -⟩ := HX7.out.at (b13) 24 gh gl (by simp)
         obtain ⟨⟨r1, s1⟩, -, -⟩ := HX7.out.at (b9) 24 ah al (by simp)
         obtain ⟨⟨r2, s2⟩, -, -⟩ := HX7.out.at (w.heap.size + 1) 24 bh bl (by simp)
         obtain ⟨⟨r3, s3⟩, -, -⟩ := HX7.out.at (w.heap.size) 24 ah al (by simp))
      | (go_at_call 25; (with_reducible refine (C8.out _).mono ?_); rintro e v8 ⟨rfl, hb1⟩; have HX8 := Lib.hid (HX7.out.next hb1); clear hb1))
    all_goals go_ret
    all_goals refine ⟨?_, HX8.out.below⟩
    all_goals first
      | exact congrArg (fun x => Ending.returned (Value.bool x)) (by rw [O2.out (by omega)]; simp; omega : _ = true)
      | exact congrArg (fun x => Ending.returned (Value.bool x)) (by rw [O3.out (by omega)]; simp; omega : _ = true)
      | exact congrArg (fun x => Ending.returned (Value.bool x)) (by rw [O1.out (by omega)] : _ = true)
      | (trace_state; sorry)
  · have hh2 : (h == 0) = false := by simpa using hh
    clear C7 hh
    go_wp2_with (first
      | (go_at_call 49; (with_reducible refine (C6.out _).mono ?_); rintro e v5 ⟨rfl, hb1⟩; have hS5 := HN.out _ _ (by assumption) hb1; clear hb1)
      | (obtain ⟨w5, hw⟩ : ∃ w5, v5.alloc (.cells #[.int .u64 gh, .int .u64 gl] 24) = w5 := ⟨_, rfl⟩
         rewrite [hw]
         have HX5 : Hid (Boxes w w5 [(v5.heap.size, 24, gh, gl), (b9, 24, ah, al), (w.heap.size + 1, 24, bh, bl), (w.heap.size, 24, ah, al)]) := by rewrite [← hw]; exact hS5.1.new 24 gh gl
         clear hw
         generalize v5.heap.size = b13 at *
         obtain ⟨⟨r0, s0⟩, -, -⟩ := HX5.out.at (b13) 24 gh gl (by simp)
         obtain ⟨⟨r1, s1⟩, -, -⟩ := HX5.out.at (b9) 24 ah al (by simp)
         obtain ⟨⟨r2, s2⟩, -, -⟩ := HX5.out.at (w.heap.size + 1) 24 bh bl (by simp)
         obtain ⟨⟨r3, s3⟩, -, -⟩ := HX5.out.at (w.heap.size) 24 ah al (by simp))
      | (go_at_call 45; (with_reducible refine (C7b.out _).mono ?_); rintro e v6 ⟨rfl, hb1⟩; have HX6 := Lib.hid (HX5.out.next hb1); clear hb1
         obtain ⟨⟨r0, s0⟩, -, -⟩ := HX6.out.at (b13) 24 gh gl (by simp)
         obtain ⟨⟨r1, s1⟩, -, -⟩ := HX6.out.at (b9) 24 ah al (by simp)
         obtain ⟨⟨r2, s2⟩, -, -⟩ := HX6.out.at (w.heap.size + 1) 24 bh bl (by simp)
         obtain ⟨⟨r3, s3⟩, -, -⟩ := HX6.out.at (w.heap.size) 24 ah al (by simp))
      | (go_at_call 44; (with_reducible refine (alive06_any _).mono ?_); rintro e v7 ⟨rfl, hb1⟩; have HX7 := Lib.hid (Boxes.next (by first | exact HX6.out | exact HX5.out) hb1); clear hb1
         obtain ⟨⟨r0, s0⟩, -, -⟩ := HX7.out.at (b13) 24 gh gl (by simp)
         obtain ⟨⟨r1, s1⟩, -, -⟩ := HX7.out.at (b9) 24 ah al (by simp)
         obtain ⟨⟨r2, s2⟩, -, -⟩ := HX7.out.at (w.heap.size + 1) 24 bh bl (by simp)
         obtain ⟨⟨r3, s3⟩, -, -⟩ := HX7.out.at (w.heap.size) 24 ah al (by simp))
      | (go_at_call 25; (with_reducible refine (C8.out _).mono ?_); rintro e v8 ⟨rfl, hb1⟩; have HX8 := Lib.hid (HX7.out.next hb1); clear hb1))
    all_goals go_ret
    all_goals refine ⟨?_, HX8.out.below⟩
    all_goals first
      | exact congrArg (fun x => Ending.returned (Value.bool x)) (by rw [O2.out (by omega)]; simp; omega : _ = true)
      | exact congrArg (fun x => Ending.returned (Value.bool x)) (by rw [O3.out (by omega)]; simp; omega : _ = true)
      | exact congrArg (fun x => Ending.returned (Value.bool x)) (by rw [O1.out (by omega)] : _ = true)
      | (trace_state; sorry)

end Go.Proofs.Ytcaeaepnobbjlaa

