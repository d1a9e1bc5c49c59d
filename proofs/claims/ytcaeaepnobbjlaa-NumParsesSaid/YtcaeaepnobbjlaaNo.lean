import Derived.Test.YtcaeaepnobbjlaaNm
namespace Go.Proofs.Ytcaeaepnobbjlaa
set_option linter.unusedVariables false
set_option linter.unusedSimpArgs false
open Go.RowKit

set_option maxRecDepth 100000 in
theorem parses_long (s : ByteArray) (most : Nat) (h : 200 < s.size) (w : World) : Calls Try.prog 10 #[.string s, .int .u64 most] w fun e w' => e = .returned (.bool true) ∧ Below w.heap.size w w' := by
  have hd : decide ((200 : Int) < s.size) = true := by simp; omega
  have hd2 : decide (200 < s.size) = true := decide_eq_true h
  have HX0 : Hid (Boxes w w []) := Boxes.nil w
  clear h
  go_enter Try.func10, Try.ntmps10
  go_wp2_with (first
    | (go_at_call 44; (with_reducible refine (alive06_any _).mono ?_); rintro e v1 ⟨rfl, hb1⟩; have HY1 := Lib.hid (HX0.out.next hb1); clear hb1))
  go_ret
  exact ⟨rfl, HY1.out.below⟩

set_option maxRecDepth 100000 in
set_option maxHeartbeats 16000000 in
theorem parses_form (s : ByteArray) (most : Nat) (ah al : Nat) (hs : s.size ≤ 200) (g1 : ((ah : Int) == 0) = true) (g2 : ((al : Int) == 0) = true)
    (c1 : ∀ w, Calls Try.prog 48 #[.string s, .int .u64 most] w fun e w' => e = .returned (.tuple #[.int .u64 0, .int .i64 3]) ∧ Below w.heap.size w w')
    (c2 : ∀ w, Calls Try.prog 49 #[.string s] w fun e w' => e = .returned (.tuple #[wv ah al, .int .i64 3]) ∧ Below w.heap.size w w')
    (c3 : ∀ w, Calls Try.prog 50 #[.string s] w fun e w' => e = .returned (.bool false) ∧ Below w.heap.size w w') (w : World) :
    Calls Try.prog 10 #[.string s, .int .u64 most] w fun e w' => e = .returned (.bool true) ∧ Below w.heap.size w w' := by
  have hd : decide ((200 : Int) < s.size) = false := by simp; omega
  have hd2 : decide (200 < s.size) = false := decide_eq_false (by omega)
  have C1 := Lib.hid c1
  have C2 := Lib.hid c2
  have C3 := Lib.hid c3
  have HX0 : Hid (Boxes w w []) := Boxes.nil w
  clear hs c1 c2 c3
  go_enter Try.func10, Try.ntmps10
  go_wp2_with (first
    | (go_at_call 48; with_reducible refine (C1.out _).mono ?_; rintro e v1 ⟨rfl, hb1⟩
       have HY1 := Lib.hid (HX0.out.next hb1)
       clear hb1  HX0)
    | (go_at_call 49; with_reducible refine (C2.out _).mono ?_; rintro e v2 ⟨rfl, hb1⟩
       have HY2 := Lib.hid (HY1.out.next hb1)
       clear hb1  HY1)
    | (obtain ⟨w2, hw⟩ : ∃ w2, v2.alloc (.cells #[.int .u64 ah, .int .u64 al] 24) = w2 := ⟨_, rfl⟩
       rewrite [hw]
       have HX2 : Hid (Boxes w w2 [(v2.heap.size, 24, ah, al)]) := by rewrite [← hw]; exact HY2.out.new 24 ah al
       clear hw HY2
       generalize v2.heap.size = c2 at *
       obtain ⟨⟨r0, s0⟩, -, -⟩ := HX2.out.at (c2) 24 ah al (by simp))
    | (go_at_call 50; with_reducible refine (C3.out _).mono ?_; rintro e v3 ⟨rfl, hb1⟩
       have HY3 := Lib.hid (HX2.out.next hb1)
       clear hb1 r0 s0 HX2
       obtain ⟨⟨r0, s0⟩, -, -⟩ := HY3.out.at (c2) 24 ah al (by simp))
    | (go_at_call 44; (with_reducible refine (alive06_any _).mono ?_); rintro e v4 ⟨rfl, hb1⟩
       have HY4 := Lib.hid (HY3.out.next hb1)
       clear hb1 r0 s0
       obtain ⟨⟨r0, s0⟩, -, -⟩ := HY4.out.at (c2) 24 ah al (by simp)))
  go_ret
  exact ⟨rfl, HY4.out.below⟩

set_option maxRecDepth 100000 in
set_option maxHeartbeats 16000000 in
theorem parses_great (s : ByteArray) (most : Nat) (ah al : Nat) (t : ByteArray) (hs : s.size ≤ 200) (g1 : ((ah : Int) == 0) = true) (g2 : ((al : Int) == 0) = true)
    (c1 : ∀ w, Calls Try.prog 48 #[.string s, .int .u64 most] w fun e w' => e = .returned (.tuple #[.int .u64 0, .int .i64 11]) ∧ Below w.heap.size w w')
    (c2 : ∀ w, Calls Try.prog 49 #[.string s] w fun e w' => e = .returned (.tuple #[wv ah al, .int .i64 11]) ∧ Below w.heap.size w w')
    (c3 : ∀ w, Calls Try.prog 50 #[.string s] w fun e w' => e = .returned (.bool true) ∧ Below w.heap.size w w')
    (c4 : ∀ w, Calls Try.prog 52 #[] w fun e w' => e = .returned (.string t) ∧ Below w.heap.size w w')
    (c5 : ∀ w, Calls Try.prog 51 #[.string s, .string t] w fun e w' => e = .returned (.bool false) ∧ Below w.heap.size w w') (w : World) :
    Calls Try.prog 10 #[.string s, .int .u64 most] w fun e w' => e = .returned (.bool true) ∧ Below w.heap.size w w' := by
  have hd : decide ((200 : Int) < s.size) = false := by simp; omega
  have hd2 : decide (200 < s.size) = false := decide_eq_false (by omega)
  have C1 := Lib.hid c1
  have C2 := Lib.hid c2
  have C3 := Lib.hid c3
  have C4 := Lib.hid c4
  have C5 := Lib.hid c5
  have HX0 : Hid (Boxes w w []) := Boxes.nil w
  clear hs c1 c2 c3 c4 c5
  go_enter Try.func10, Try.ntmps10
  go_wp2_with (first
    | (go_at_call 48; with_reducible refine (C1.out _).mono ?_; rintro e v1 ⟨rfl, hb1⟩
       have HY1 := Lib.hid (HX0.out.next hb1)
       clear hb1  HX0)
    | (go_at_call 49; with_reducible refine (C2.out _).mono ?_; rintro e v2 ⟨rfl, hb1⟩
       have HY2 := Lib.hid (HY1.out.next hb1)
       clear hb1  HY1)
    | (obtain ⟨w2, hw⟩ : ∃ w2, v2.alloc (.cells #[.int .u64 ah, .int .u64 al] 24) = w2 := ⟨_, rfl⟩
       rewrite [hw]
       have HX2 : Hid (Boxes w w2 [(v2.heap.size, 24, ah, al)]) := by rewrite [← hw]; exact HY2.out.new 24 ah al
       clear hw HY2
       generalize v2.heap.size = c2 at *
       obtain ⟨⟨r0, s0⟩, -, -⟩ := HX2.out.at (c2) 24 ah al (by simp))
    | (go_at_call 50; with_reducible refine (C3.out _).mono ?_; rintro e v3 ⟨rfl, hb1⟩
       have HY3 := Lib.hid (HX2.out.next hb1)
       clear hb1 r0 s0 HX2
       obtain ⟨⟨r0, s0⟩, -, -⟩ := HY3.out.at (c2) 24 ah al (by simp))
    | (go_at_call 52; with_reducible refine (C4.out _).mono ?_; rintro e v4 ⟨rfl, hb1⟩
       have HY4 := Lib.hid (HY3.out.next hb1)
       clear hb1 r0 s0 HY3
       obtain ⟨⟨r0, s0⟩, -, -⟩ := HY4.out.at (c2) 24 ah al (by simp))
    | (go_at_call 51; with_reducible refine (C5.out _).mono ?_; rintro e v5 ⟨rfl, hb1⟩
       have HY5 := Lib.hid (HY4.out.next hb1)
       clear hb1 r0 s0 HY4
       obtain ⟨⟨r0, s0⟩, -, -⟩ := HY5.out.at (c2) 24 ah al (by simp))
    | (go_at_call 44; (with_reducible refine (alive06_any _).mono ?_); rintro e v6 ⟨rfl, hb1⟩
       have HY6 := Lib.hid (HY5.out.next hb1)
       clear hb1 r0 s0
       obtain ⟨⟨r0, s0⟩, -, -⟩ := HY6.out.at (c2) 24 ah al (by simp)))
  go_ret
  exact ⟨rfl, HY6.out.below⟩

set_option maxRecDepth 100000 in
set_option maxHeartbeats 16000000 in
theorem parses_most (s : ByteArray) (most : Nat) (ah al : Nat) (t u : ByteArray) (hs : s.size ≤ 200) 
    (c1 : ∀ w, Calls Try.prog 48 #[.string s, .int .u64 most] w fun e w' => e = .returned (.tuple #[.int .u64 0, .int .i64 11]) ∧ Below w.heap.size w w')
    (c2 : ∀ w, Calls Try.prog 49 #[.string s] w fun e w' => e = .returned (.tuple #[wv ah al, .int .i64 0]) ∧ Below w.heap.size w w')
    (c3 : ∀ w, Calls Try.prog 50 #[.string s] w fun e w' => e = .returned (.bool true) ∧ Below w.heap.size w w')
    (c4 : ∀ w, Calls Try.prog 52 #[] w fun e w' => e = .returned (.string t) ∧ Below w.heap.size w w')
    (c5 : ∀ w, Calls Try.prog 51 #[.string s, .string t] w fun e w' => e = .returned (.bool true) ∧ Below w.heap.size w w')
    (c6 : ∀ w, Calls Try.prog 53 #[.string s] w fun e w' => e = .returned (wv ah al) ∧ Below w.heap.size w w')
    (c7 : ∀ w, Calls Try.prog 46 #[.agg #[.int .u64 0, .int .u64 most]] w fun e w' => e = .returned (.string u) ∧ Below w.heap.size w w')
    (c8 : ∀ w, Calls Try.prog 51 #[.string s, .string u] w fun e w' => e = .returned (.bool false) ∧ Below w.heap.size w w')
    (c9 : ∀ w, Calls Try.prog 21 #[wv ah al] w fun e w' => e = .returned (wv ah al) ∧ Below w.heap.size w w') (w : World) :
    Calls Try.prog 10 #[.string s, .int .u64 most] w fun e w' => e = .returned (.bool true) ∧ Below w.heap.size w w' := by
  have hd : decide ((200 : Int) < s.size) = false := by simp; omega
  have hd2 : decide (200 < s.size) = false := decide_eq_false (by omega)
  have C1 := Lib.hid c1
  have C2 := Lib.hid c2
  have C3 := Lib.hid c3
  have C4 := Lib.hid c4
  have C5 := Lib.hid c5
  have C6 := Lib.hid c6
  have C7 := Lib.hid c7
  have C8 := Lib.hid c8
  have C9 := Lib.hid c9
  have HX0 : Hid (Boxes w w []) := Boxes.nil w
  clear hs c1 c2 c3 c4 c5 c6 c7 c8 c9
  go_enter Try.func10, Try.ntmps10
  go_wp2_with (first
    | (go_at_call 48; with_reducible refine (C1.out _).mono ?_; rintro e v1 ⟨rfl, hb1⟩
       have HY1 := Lib.hid (HX0.out.next hb1)
       clear hb1  HX0)
    | (go_at_call 49; with_reducible refine (C2.out _).mono ?_; rintro e v2 ⟨rfl, hb1⟩
       have HY2 := Lib.hid (HY1.out.next hb1)
       clear hb1  HY1)
    | (obtain ⟨w2, hw⟩ : ∃ w2, v2.alloc (.cells #[.int .u64 ah, .int .u64 al] 24) = w2 := ⟨_, rfl⟩
       rewrite [hw]
       have HX2 : Hid (Boxes w w2 [(v2.heap.size, 24, ah, al)]) := by rewrite [← hw]; exact HY2.out.new 24 ah al
       clear hw HY2
       generalize v2.heap.size = c2 at *
       obtain ⟨⟨r0, s0⟩, -, -⟩ := HX2.out.at (c2) 24 ah al (by simp))
    | (go_at_call 50; with_reducible refine (C3.out _).mono ?_; rintro e v3 ⟨rfl, hb1⟩
       have HY3 := Lib.hid (HX2.out.next hb1)
       clear hb1 r0 s0 HX2
       obtain ⟨⟨r0, s0⟩, -, -⟩ := HY3.out.at (c2) 24 ah al (by simp))
    | (go_at_call 52; with_reducible refine (C4.out _).mono ?_; rintro e v4 ⟨rfl, hb1⟩
       have HY4 := Lib.hid (HY3.out.next hb1)
       clear hb1 r0 s0 HY3
       obtain ⟨⟨r0, s0⟩, -, -⟩ := HY4.out.at (c2) 24 ah al (by simp))
    | (go_at_call 51; with_reducible refine (C5.out _).mono ?_; rintro e v5 ⟨rfl, hb1⟩
       have HY5 := Lib.hid (HY4.out.next hb1)
       clear hb1 r0 s0 HY4
       obtain ⟨⟨r0, s0⟩, -, -⟩ := HY5.out.at (c2) 24 ah al (by simp))
    | (go_at_call 53; with_reducible refine (C6.out _).mono ?_; rintro e v6 ⟨rfl, hb1⟩
       have HY6 := Lib.hid (HY5.out.next hb1)
       clear hb1 r0 s0 HY5)
    | (obtain ⟨w6, hw⟩ : ∃ w6, v6.alloc (.cells #[.int .u64 ah, .int .u64 al] 27) = w6 := ⟨_, rfl⟩
       rewrite [hw]
       have HX6 : Hid (Boxes w w6 [(v6.heap.size, 27, ah, al), (c2, 24, ah, al)]) := by rewrite [← hw]; exact HY6.out.new 27 ah al
       clear hw HY6
       generalize v6.heap.size = c6 at *
       obtain ⟨⟨r0, s0⟩, -, -⟩ := HX6.out.at (c6) 27 ah al (by simp)
       obtain ⟨⟨r1, s1⟩, -, -⟩ := HX6.out.at (c2) 24 ah al (by simp))
    | (go_at_call 46; with_reducible refine (C7.out _).mono ?_; rintro e v7 ⟨rfl, hb1⟩
       have HY7 := Lib.hid (HX6.out.next hb1)
       clear hb1 r0 s0 r1 s1 HX6
       obtain ⟨⟨r0, s0⟩, -, -⟩ := HY7.out.at (c6) 27 ah al (by simp)
       obtain ⟨⟨r1, s1⟩, -, -⟩ := HY7.out.at (c2) 24 ah al (by simp))
    | (go_at_call 51; with_reducible refine (C8.out _).mono ?_; rintro e v8 ⟨rfl, hb1⟩
       have HY8 := Lib.hid (HY7.out.next hb1)
       clear hb1 r0 s0 r1 s1 HY7
       obtain ⟨⟨r0, s0⟩, -, -⟩ := HY8.out.at (c6) 27 ah al (by simp)
       obtain ⟨⟨r1, s1⟩, -, -⟩ := HY8.out.at (c2) 24 ah al (by simp)))
  have HNk : ∀ W, Boxes w W [(c6, 27, ah, al), (c2, 24, ah, al)] → (Boxes w W [(c6, 27, ah, al), (c2, 24, ah, al)] ∧ (W.cell? ⟨c6, 0, none⟩ = some (.int .u64 ah) ∧ W.cell? ⟨c6, 1, none⟩ = some (.int .u64 al)) ∧ (W.cell? ⟨c2, 0, none⟩ = some (.int .u64 ah) ∧ W.cell? ⟨c2, 1, none⟩ = some (.int .u64 al))) := fun W h => ⟨h, two_cells (h.all (c6, 27, ah, al) (by simp)), two_cells (h.all (c2, 24, ah, al) (by simp))⟩
  have HN : Hid (∀ W V, (Boxes w W [(c6, 27, ah, al), (c2, 24, ah, al)] ∧ (W.cell? ⟨c6, 0, none⟩ = some (.int .u64 ah) ∧ W.cell? ⟨c6, 1, none⟩ = some (.int .u64 al)) ∧ (W.cell? ⟨c2, 0, none⟩ = some (.int .u64 ah) ∧ W.cell? ⟨c2, 1, none⟩ = some (.int .u64 al))) → Below W.heap.size W V → (Boxes w V [(c6, 27, ah, al), (c2, 24, ah, al)] ∧ (V.cell? ⟨c6, 0, none⟩ = some (.int .u64 ah) ∧ V.cell? ⟨c6, 1, none⟩ = some (.int .u64 al)) ∧ (V.cell? ⟨c2, 0, none⟩ = some (.int .u64 ah) ∧ V.cell? ⟨c2, 1, none⟩ = some (.int .u64 al)))) := fun W V h hb => HNk _ (h.1.next hb)
  have HS0 : Hid (Boxes w v8.drew [(c6, 27, ah, al), (c2, 24, ah, al)] ∧ (v8.drew.cell? ⟨c6, 0, none⟩ = some (.int .u64 ah) ∧ v8.drew.cell? ⟨c6, 1, none⟩ = some (.int .u64 al)) ∧ (v8.drew.cell? ⟨c2, 0, none⟩ = some (.int .u64 ah) ∧ v8.drew.cell? ⟨c2, 1, none⟩ = some (.int .u64 al))) := HNk _ (HY8.out.next ⟨rfl, rfl, rfl, Nat.le_refl _, fun _ _ => rfl⟩)
  have HF : Hid (∀ W, (Boxes w W [(c6, 27, ah, al), (c2, 24, ah, al)] ∧ (W.cell? ⟨c6, 0, none⟩ = some (.int .u64 ah) ∧ W.cell? ⟨c6, 1, none⟩ = some (.int .u64 al)) ∧ (W.cell? ⟨c2, 0, none⟩ = some (.int .u64 ah) ∧ W.cell? ⟨c2, 1, none⟩ = some (.int .u64 al))) → Below w.heap.size w W) := fun W h => h.1.below
  clear HNk r0 s0 r1 s1
  go_region_held3 (fun W => Boxes w W [(c6, 27, ah, al), (c2, 24, ah, al)] ∧ (W.cell? ⟨c6, 0, none⟩ = some (.int .u64 ah) ∧ W.cell? ⟨c6, 1, none⟩ = some (.int .u64 al)) ∧ (W.cell? ⟨c2, 0, none⟩ = some (.int .u64 ah) ∧ W.cell? ⟨c2, 1, none⟩ = some (.int .u64 al))) (first | exact HS0.out | assumption)
    (first
      | (go_at_call 44; with_reducible refine (alive06_any _).mono ?_; rintro e w1 ⟨rfl, hb1⟩; have hS1 := HN.out _ _ (by assumption) hb1; clear hb1)
      | (go_at_call 21; with_reducible refine (C9.out _).mono ?_; rintro e w1 ⟨rfl, hb1⟩; have hS1 := HN.out _ _ (by assumption) hb1; clear hb1))
  all_goals (go_wp2_with fail; go_ret)
  all_goals exact ⟨by simp, HF.out _ (by assumption)⟩

set_option maxRecDepth 100000 in
set_option maxHeartbeats 16000000 in
theorem parses_fine (s : ByteArray) (most : Nat) (ah al : Nat) (t u : ByteArray) (hs : s.size ≤ 200) 
    (c1 : ∀ w, Calls Try.prog 48 #[.string s, .int .u64 most] w fun e w' => e = .returned (.tuple #[.int .u64 al, .int .i64 0]) ∧ Below w.heap.size w w')
    (c2 : ∀ w, Calls Try.prog 49 #[.string s] w fun e w' => e = .returned (.tuple #[wv ah al, .int .i64 0]) ∧ Below w.heap.size w w')
    (c3 : ∀ w, Calls Try.prog 50 #[.string s] w fun e w' => e = .returned (.bool true) ∧ Below w.heap.size w w')
    (c4 : ∀ w, Calls Try.prog 52 #[] w fun e w' => e = .returned (.string t) ∧ Below w.heap.size w w')
    (c5 : ∀ w, Calls Try.prog 51 #[.string s, .string t] w fun e w' => e = .returned (.bool true) ∧ Below w.heap.size w w')
    (c6 : ∀ w, Calls Try.prog 53 #[.string s] w fun e w' => e = .returned (wv ah al) ∧ Below w.heap.size w w')
    (c7 : ∀ w, Calls Try.prog 46 #[.agg #[.int .u64 0, .int .u64 most]] w fun e w' => e = .returned (.string u) ∧ Below w.heap.size w w')
    (c8 : ∀ w, Calls Try.prog 51 #[.string s, .string u] w fun e w' => e = .returned (.bool true) ∧ Below w.heap.size w w')
    (c9 : ∀ w, Calls Try.prog 21 #[wv ah al] w fun e w' => e = .returned (wv ah al) ∧ Below w.heap.size w w') (w : World) :
    Calls Try.prog 10 #[.string s, .int .u64 most] w fun e w' => e = .returned (.bool true) ∧ Below w.heap.size w w' := by
  have hd : decide ((200 : Int) < s.size) = false := by simp; omega
  have hd2 : decide (200 < s.size) = false := decide_eq_false (by omega)
  have C1 := Lib.hid c1
  have C2 := Lib.hid c2
  have C3 := Lib.hid c3
  have C4 := Lib.hid c4
  have C5 := Lib.hid c5
  have C6 := Lib.hid c6
  have C7 := Lib.hid c7
  have C8 := Lib.hid c8
  have C9 := Lib.hid c9
  have HX0 : Hid (Boxes w w []) := Boxes.nil w
  clear hs c1 c2 c3 c4 c5 c6 c7 c8 c9
  go_enter Try.func10, Try.ntmps10
  go_wp2_with (first
    | (go_at_call 48; with_reducible refine (C1.out _).mono ?_; rintro e v1 ⟨rfl, hb1⟩
       have HY1 := Lib.hid (HX0.out.next hb1)
       clear hb1  HX0)
    | (go_at_call 49; with_reducible refine (C2.out _).mono ?_; rintro e v2 ⟨rfl, hb1⟩
       have HY2 := Lib.hid (HY1.out.next hb1)
       clear hb1  HY1)
    | (obtain ⟨w2, hw⟩ : ∃ w2, v2.alloc (.cells #[.int .u64 ah, .int .u64 al] 24) = w2 := ⟨_, rfl⟩
       rewrite [hw]
       have HX2 : Hid (Boxes w w2 [(v2.heap.size, 24, ah, al)]) := by rewrite [← hw]; exact HY2.out.new 24 ah al
       clear hw HY2
       generalize v2.heap.size = c2 at *
       obtain ⟨⟨r0, s0⟩, -, -⟩ := HX2.out.at (c2) 24 ah al (by simp))
    | (go_at_call 50; with_reducible refine (C3.out _).mono ?_; rintro e v3 ⟨rfl, hb1⟩
       have HY3 := Lib.hid (HX2.out.next hb1)
       clear hb1 r0 s0 HX2
       obtain ⟨⟨r0, s0⟩, -, -⟩ := HY3.out.at (c2) 24 ah al (by simp))
    | (go_at_call 52; with_reducible refine (C4.out _).mono ?_; rintro e v4 ⟨rfl, hb1⟩
       have HY4 := Lib.hid (HY3.out.next hb1)
       clear hb1 r0 s0 HY3
       obtain ⟨⟨r0, s0⟩, -, -⟩ := HY4.out.at (c2) 24 ah al (by simp))
    | (go_at_call 51; with_reducible refine (C5.out _).mono ?_; rintro e v5 ⟨rfl, hb1⟩
       have HY5 := Lib.hid (HY4.out.next hb1)
       clear hb1 r0 s0 HY4
       obtain ⟨⟨r0, s0⟩, -, -⟩ := HY5.out.at (c2) 24 ah al (by simp))
    | (go_at_call 53; with_reducible refine (C6.out _).mono ?_; rintro e v6 ⟨rfl, hb1⟩
       have HY6 := Lib.hid (HY5.out.next hb1)
       clear hb1 r0 s0 HY5)
    | (obtain ⟨w6, hw⟩ : ∃ w6, v6.alloc (.cells #[.int .u64 ah, .int .u64 al] 27) = w6 := ⟨_, rfl⟩
       rewrite [hw]
       have HX6 : Hid (Boxes w w6 [(v6.heap.size, 27, ah, al), (c2, 24, ah, al)]) := by rewrite [← hw]; exact HY6.out.new 27 ah al
       clear hw HY6
       generalize v6.heap.size = c6 at *
       obtain ⟨⟨r0, s0⟩, -, -⟩ := HX6.out.at (c6) 27 ah al (by simp)
       obtain ⟨⟨r1, s1⟩, -, -⟩ := HX6.out.at (c2) 24 ah al (by simp))
    | (go_at_call 46; with_reducible refine (C7.out _).mono ?_; rintro e v7 ⟨rfl, hb1⟩
       have HY7 := Lib.hid (HX6.out.next hb1)
       clear hb1 r0 s0 r1 s1 HX6
       obtain ⟨⟨r0, s0⟩, -, -⟩ := HY7.out.at (c6) 27 ah al (by simp)
       obtain ⟨⟨r1, s1⟩, -, -⟩ := HY7.out.at (c2) 24 ah al (by simp))
    | (go_at_call 51; with_reducible refine (C8.out _).mono ?_; rintro e v8 ⟨rfl, hb1⟩
       have HY8 := Lib.hid (HY7.out.next hb1)
       clear hb1 r0 s0 r1 s1 HY7
       obtain ⟨⟨r0, s0⟩, -, -⟩ := HY8.out.at (c6) 27 ah al (by simp)
       obtain ⟨⟨r1, s1⟩, -, -⟩ := HY8.out.at (c2) 24 ah al (by simp)))
  have HNk : ∀ W, Boxes w W [(c6, 27, ah, al), (c2, 24, ah, al)] → (Boxes w W [(c6, 27, ah, al), (c2, 24, ah, al)] ∧ (W.cell? ⟨c6, 0, none⟩ = some (.int .u64 ah) ∧ W.cell? ⟨c6, 1, none⟩ = some (.int .u64 al)) ∧ (W.cell? ⟨c2, 0, none⟩ = some (.int .u64 ah) ∧ W.cell? ⟨c2, 1, none⟩ = some (.int .u64 al))) := fun W h => ⟨h, two_cells (h.all (c6, 27, ah, al) (by simp)), two_cells (h.all (c2, 24, ah, al) (by simp))⟩
  have HN : Hid (∀ W V, (Boxes w W [(c6, 27, ah, al), (c2, 24, ah, al)] ∧ (W.cell? ⟨c6, 0, none⟩ = some (.int .u64 ah) ∧ W.cell? ⟨c6, 1, none⟩ = some (.int .u64 al)) ∧ (W.cell? ⟨c2, 0, none⟩ = some (.int .u64 ah) ∧ W.cell? ⟨c2, 1, none⟩ = some (.int .u64 al))) → Below W.heap.size W V → (Boxes w V [(c6, 27, ah, al), (c2, 24, ah, al)] ∧ (V.cell? ⟨c6, 0, none⟩ = some (.int .u64 ah) ∧ V.cell? ⟨c6, 1, none⟩ = some (.int .u64 al)) ∧ (V.cell? ⟨c2, 0, none⟩ = some (.int .u64 ah) ∧ V.cell? ⟨c2, 1, none⟩ = some (.int .u64 al)))) := fun W V h hb => HNk _ (h.1.next hb)
  have HS0 : Hid (Boxes w v8.drew [(c6, 27, ah, al), (c2, 24, ah, al)] ∧ (v8.drew.cell? ⟨c6, 0, none⟩ = some (.int .u64 ah) ∧ v8.drew.cell? ⟨c6, 1, none⟩ = some (.int .u64 al)) ∧ (v8.drew.cell? ⟨c2, 0, none⟩ = some (.int .u64 ah) ∧ v8.drew.cell? ⟨c2, 1, none⟩ = some (.int .u64 al))) := HNk _ (HY8.out.next ⟨rfl, rfl, rfl, Nat.le_refl _, fun _ _ => rfl⟩)
  have HF : Hid (∀ W, (Boxes w W [(c6, 27, ah, al), (c2, 24, ah, al)] ∧ (W.cell? ⟨c6, 0, none⟩ = some (.int .u64 ah) ∧ W.cell? ⟨c6, 1, none⟩ = some (.int .u64 al)) ∧ (W.cell? ⟨c2, 0, none⟩ = some (.int .u64 ah) ∧ W.cell? ⟨c2, 1, none⟩ = some (.int .u64 al))) → Below w.heap.size w W) := fun W h => h.1.below
  clear HNk r0 s0 r1 s1
  go_region_held3 (fun W => Boxes w W [(c6, 27, ah, al), (c2, 24, ah, al)] ∧ (W.cell? ⟨c6, 0, none⟩ = some (.int .u64 ah) ∧ W.cell? ⟨c6, 1, none⟩ = some (.int .u64 al)) ∧ (W.cell? ⟨c2, 0, none⟩ = some (.int .u64 ah) ∧ W.cell? ⟨c2, 1, none⟩ = some (.int .u64 al))) (first | exact HS0.out | assumption)
    (first
      | (go_at_call 44; with_reducible refine (alive06_any _).mono ?_; rintro e w1 ⟨rfl, hb1⟩; have hS1 := HN.out _ _ (by assumption) hb1; clear hb1)
      | (go_at_call 21; with_reducible refine (C9.out _).mono ?_; rintro e w1 ⟨rfl, hb1⟩; have hS1 := HN.out _ _ (by assumption) hb1; clear hb1))
  all_goals (go_wp2_with fail; go_ret)
  all_goals exact ⟨by simp, HF.out _ (by assumption)⟩

theorem parsesLaw_any (s : ByteArray) (most : Nat) (hm : most < M) (hs : s.size ≤ 9223372036854775807) (w : World) :
    Calls Try.prog 10 #[.string s, .int .u64 most] w fun e w' => e = .returned (.bool true) ∧ Below w.heap.size w w' := by
  by_cases hl : 200 < s.size
  · exact parses_long s most hl w
  have hMM : M ≤ MM := by decide
  have hM : M = 18446744073709551616 := M_eq
  have c1 := fun w => parse_any s most hs hm w
  have c2 := fun w => parsewide_any s hs w
  have c3 : ∀ w, Calls Try.prog 50 #[.string s] w fun e w' => e = .returned (.bool (decide (IsT s))) ∧ Below w.heap.size w w' := fun w => (is_any s hs w).mono (by rintro e w1 ⟨rfl, rfl⟩; exact ⟨rfl, Below.refl _ _⟩)
  have c4 := fun w => mostText_any w
  have z1 : (((0 / M : Nat) : Int) == 0) = true := by rw [Nat.zero_div]; rfl
  have z2 : (((0 % M : Nat) : Int) == 0) = true := by rw [Nat.zero_mod]; rfl
  by_cases hT : IsT s
  · have eb := text_back s hT
    have less : ∀ b w, Calls Try.prog 51 #[.string s, .string (textN b)] w fun e w' => e = .returned (.bool (decide (pv s s.size ≤ b))) ∧ Below w.heap.size w w' := fun b w => by
      have h := less_any (pv s s.size) b (by rw [eb]; exact hs) w
      rw [eb] at h
      exact h
    have c5 := fun w => less (MM - 1) w
    rw [decide_eq_true hT] at c3
    by_cases hlt : pv s s.size < MM
    · have e1 : pwN s = pv s s.size := if_pos ⟨hT, hlt⟩
      have e2 : pwE s = 0 := by rw [pwE, if_pos hT, if_pos hlt]
      have c6 := fun w => refparse_any s hs hT.1 w
      have c7 := fun w => refprint_any most (by omega) w
      have c8 := fun w => less most w
      have ew : W most = .agg #[.int .u64 0, .int .u64 most] := by rw [W, Nat.div_eq_of_lt hm, Nat.mod_eq_of_lt hm]; rfl
      rw [Nat.mod_eq_of_lt hlt] at c6
      rw [ew] at c7
      rw [e1, e2] at c2
      rw [decide_eq_true (show pv s s.size ≤ MM - 1 by omega)] at c5
      by_cases hle : pv s s.size ≤ most
      · have e3 : psN s most = pv s s.size % M := by rw [psN, e2, if_neg (by simp), e1, if_neg (by omega), Nat.mod_eq_of_lt (by omega)]
        have e4 : psE s most = 0 := by rw [psE, e2, if_neg (by simp), e1, if_neg (by omega)]
        rw [e3, e4] at c1
        rw [decide_eq_true hle] at c8
        exact parses_fine s most (pv s s.size / M) (pv s s.size % M) _ _ (by omega) c1 c2 c3 c4 c5 c6 c7 c8 (fun w => as_any _ w) w
      · have e3 : psN s most = 0 := by rw [psN, e2, if_neg (by simp), e1, if_pos (by omega)]
        have e4 : psE s most = 11 := by rw [psE, e2, if_neg (by simp), e1, if_pos (by omega)]
        rw [e3, e4] at c1
        rw [decide_eq_false hle] at c8
        exact parses_most s most (pv s s.size / M) (pv s s.size % M) _ _ (by omega) c1 c2 c3 c4 c5 c6 c7 c8 (fun w => as_any _ w) w
    · have e1 : pwN s = 0 := if_neg (fun c => hlt c.2)
      have e2 : pwE s = 11 := by rw [pwE, if_pos hT, if_neg hlt]
      have e3 : psN s most = 0 := by rw [psN, e2, if_pos (by simp)]
      have e4 : psE s most = 11 := by rw [psE, e2, if_pos (by simp)]
      rw [e1, e2] at c2
      rw [e3, e4] at c1
      rw [decide_eq_false (show ¬ pv s s.size ≤ MM - 1 by rw [MM_eq] at hlt ⊢; omega)] at c5
      exact parses_great s most (0 / M) (0 % M) _ (by omega) z1 z2 c1 c2 c3 c4 c5 w
  · have e1 : pwN s = 0 := if_neg (fun c => hT c.1)
    have e2 : pwE s = 3 := if_neg hT
    have e3 : psN s most = 0 := by rw [psN, e2, if_pos (by simp)]
    have e4 : psE s most = 3 := by rw [psE, e2, if_pos (by simp)]
    rw [e1, e2] at c2
    rw [e3, e4] at c1
    rw [decide_eq_false hT] at c3
    exact parses_form s most (0 / M) (0 % M) (by omega) z1 z2 c1 c2 c3 w

end Go.Proofs.Ytcaeaepnobbjlaa

