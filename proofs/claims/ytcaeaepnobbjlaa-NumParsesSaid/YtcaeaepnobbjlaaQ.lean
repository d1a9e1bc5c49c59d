import Derived.Test.YtcaeaepnobbjlaaN
namespace Go.Proofs.Ytcaeaepnobbjlaa
set_option linter.unusedVariables false
set_option linter.unusedSimpArgs false
open Go.RowKit

theorem Boxes.nil (w : World) : Boxes w w [] := ⟨Below.refl _ _, fun x hx => by simp at hx⟩
theorem Boxes.new {w W : World} {bs : List (Nat × Nat × Nat × Nat)} (h : Boxes w W bs) (t p q : Nat) :
    Boxes w (W.alloc (.cells #[.int .u64 (p : Int), .int .u64 (q : Int)] t)) ((W.heap.size, t, p, q) :: bs) := by
  refine ⟨below_alloc h.below _, fun x hx => ?_⟩
  rcases List.mem_cons.1 hx with rfl | hx
  · exact heap_alloc_new _ _
  · exact old_alloc _ (h.all x hx)
theorem Boxes.fresh {w W : World} {bs : List (Nat × Nat × Nat × Nat)} (h : Boxes w W bs) (t p q : Nat) {x y : Value} :
    Boxes w ((W.alloc (.cells #[x, y] t)).setRow W.heap.size #[.int .u64 (p : Int), .int .u64 (q : Int)]) ((W.heap.size, t, p, q) :: bs) := by
  refine ⟨below_setRow (below_alloc h.below _) _ _ h.below.size, fun z hz => ?_⟩
  rcases List.mem_cons.1 hz with rfl | hz
  · exact setRow_heap _ _ #[x, y] _ t (0, 0) (heap_alloc_new _ _)
  · refine old_row _ ?_ (old_alloc _ (h.all z hz))
    have := (Array.getElem?_eq_some_iff.1 (h.all z hz)).1
    omega

set_option maxRecDepth 100000 in
set_option maxHeartbeats 8000000 in
theorem back_walk (ah al bh bl ch cl sh sl uh ul vh vl : Nat) (o1 o2 o3 o4 o5 o6 : Bool) (k : Int)
    (c1 : ∀ w, Calls Try.prog 19 #[wv ah al, wv bh bl] w fun e w' => e = .returned (.tuple #[wv sh sl, .bool o1]) ∧ Below w.heap.size w w')
    (c2 : ∀ w, Calls Try.prog 19 #[wv bh bl, wv ah al] w fun e w' => e = .returned (.tuple #[wv sh sl, .bool o2]) ∧ Below w.heap.size w w')
    (c3 : ∀ w, Calls Try.prog 22 #[wv sh sl, wv bh bl] w fun e w' => e = .returned (.tuple #[wv ah al, .bool o3]) ∧ Below w.heap.size w w')
    (c4 : ∀ w, Calls Try.prog 19 #[wv sh sl, wv ch cl] w fun e w' => e = .returned (.tuple #[wv uh ul, .bool o4]) ∧ Below w.heap.size w w')
    (c5 : ∀ w, Calls Try.prog 19 #[wv bh bl, wv ch cl] w fun e w' => e = .returned (.tuple #[wv vh vl, .bool o5]) ∧ Below w.heap.size w w')
    (c6 : ∀ w, Calls Try.prog 19 #[wv ah al, wv vh vl] w fun e w' => e = .returned (.tuple #[wv uh ul, .bool o6]) ∧ Below w.heap.size w w')
    (c7 : ∀ w, Calls Try.prog 25 #[wv sh sl, wv ah al] w fun e w' => e = .returned (.int .i64 k) ∧ Below w.heap.size w w')
    (hk : decide (k < 0) = o1) (w : World) :
    Calls Try.prog 5 #[wv ah al, wv bh bl, wv ch cl] w fun e w' => e = .returned (.bool true) ∧ Below w.heap.size w w' := by
  have C1 := Lib.hid c1
  have C2 := Lib.hid c2
  have C3 := Lib.hid c3
  have C4 := Lib.hid c4
  have C5 := Lib.hid c5
  have C6 := Lib.hid c6
  have C7 := Lib.hid c7
  clear c1 c2 c3 c4 c5 c6 c7
  go_enter Try.func5, Try.ntmps5
  go_wp2_with fail
  have hX := (((Boxes.nil w).new 24 ah al).new 24 bh bl).new 24 ch cl
  simp only [size_alloc] at hX
  generalize ((w.alloc (.cells #[.int .u64 ah, .int .u64 al] 24)).alloc (.cells #[.int .u64 bh, .int .u64 bl] 24)).alloc (.cells #[.int .u64 ch, .int .u64 cl] 24) = w0 at *
  have HX0 : Hid (Boxes w w0 [(w.heap.size + 1 + 1, 24, ch, cl), (w.heap.size + 1, 24, bh, bl), (w.heap.size, 24, ah, al)]) := hX
  clear hX
  obtain ⟨⟨r0, s0⟩, -, -⟩ := HX0.out.at (w.heap.size + 1 + 1) 24 ch cl (by simp)
  obtain ⟨⟨r1, s1⟩, -, -⟩ := HX0.out.at (w.heap.size + 1) 24 bh bl (by simp)
  obtain ⟨⟨r2, s2⟩, -, -⟩ := HX0.out.at (w.heap.size) 24 ah al (by simp)
  go_wp2_with (first
    | (go_at_call 19; with_reducible refine (C1.out _).mono ?_; rintro e v1 ⟨rfl, hb1⟩
       have HY1 := Lib.hid (HX0.out.next hb1)
       clear hb1 r0 s0 r1 s1 r2 s2 HX0)
    | (obtain ⟨w1, hw⟩ : ∃ w1, v1.alloc (.cells #[.int .u64 sh, .int .u64 sl] 24) = w1 := ⟨_, rfl⟩
       rewrite [hw]
       have HX1 : Hid (Boxes w w1 [(v1.heap.size, 24, sh, sl), (w.heap.size + 1 + 1, 24, ch, cl), (w.heap.size + 1, 24, bh, bl), (w.heap.size, 24, ah, al)]) := by rewrite [← hw]; exact HY1.out.new 24 sh sl
       clear hw HY1
       generalize v1.heap.size = c1 at *
       obtain ⟨⟨r0, s0⟩, -, -⟩ := HX1.out.at (c1) 24 sh sl (by simp)
       obtain ⟨⟨r1, s1⟩, -, -⟩ := HX1.out.at (w.heap.size + 1 + 1) 24 ch cl (by simp)
       obtain ⟨⟨r2, s2⟩, -, -⟩ := HX1.out.at (w.heap.size + 1) 24 bh bl (by simp)
       obtain ⟨⟨r3, s3⟩, -, -⟩ := HX1.out.at (w.heap.size) 24 ah al (by simp))
    | (go_at_call 19; with_reducible refine (C2.out _).mono ?_; rintro e v2 ⟨rfl, hb1⟩
       have HY2 := Lib.hid (HX1.out.next hb1)
       clear hb1 r0 s0 r1 s1 r2 s2 r3 s3 HX1)
    | (obtain ⟨w2, hw⟩ : ∃ w2, v2.alloc (.cells #[.int .u64 sh, .int .u64 sl] 24) = w2 := ⟨_, rfl⟩
       rewrite [hw]
       have HX2 : Hid (Boxes w w2 [(v2.heap.size, 24, sh, sl), (c1, 24, sh, sl), (w.heap.size + 1 + 1, 24, ch, cl), (w.heap.size + 1, 24, bh, bl), (w.heap.size, 24, ah, al)]) := by rewrite [← hw]; exact HY2.out.new 24 sh sl
       clear hw HY2
       generalize v2.heap.size = c2 at *
       obtain ⟨⟨r0, s0⟩, -, -⟩ := HX2.out.at (c2) 24 sh sl (by simp)
       obtain ⟨⟨r1, s1⟩, -, -⟩ := HX2.out.at (c1) 24 sh sl (by simp)
       obtain ⟨⟨r2, s2⟩, -, -⟩ := HX2.out.at (w.heap.size + 1 + 1) 24 ch cl (by simp)
       obtain ⟨⟨r3, s3⟩, -, -⟩ := HX2.out.at (w.heap.size + 1) 24 bh bl (by simp)
       obtain ⟨⟨r4, s4⟩, -, -⟩ := HX2.out.at (w.heap.size) 24 ah al (by simp))
    | (go_at_call 22; with_reducible refine (C3.out _).mono ?_; rintro e v3 ⟨rfl, hb1⟩
       have HY3 := Lib.hid (HX2.out.next hb1)
       clear hb1 r0 s0 r1 s1 r2 s2 r3 s3 r4 s4 HX2)
    | (obtain ⟨w3, hw⟩ : ∃ w3, v3.alloc (.cells #[.int .u64 ah, .int .u64 al] 24) = w3 := ⟨_, rfl⟩
       rewrite [hw]
       have HX3 : Hid (Boxes w w3 [(v3.heap.size, 24, ah, al), (c2, 24, sh, sl), (c1, 24, sh, sl), (w.heap.size + 1 + 1, 24, ch, cl), (w.heap.size + 1, 24, bh, bl), (w.heap.size, 24, ah, al)]) := by rewrite [← hw]; exact HY3.out.new 24 ah al
       clear hw HY3
       generalize v3.heap.size = c3 at *
       obtain ⟨⟨r0, s0⟩, -, -⟩ := HX3.out.at (c3) 24 ah al (by simp)
       obtain ⟨⟨r1, s1⟩, -, -⟩ := HX3.out.at (c2) 24 sh sl (by simp)
       obtain ⟨⟨r2, s2⟩, -, -⟩ := HX3.out.at (c1) 24 sh sl (by simp)
       obtain ⟨⟨r3, s3⟩, -, -⟩ := HX3.out.at (w.heap.size + 1 + 1) 24 ch cl (by simp)
       obtain ⟨⟨r4, s4⟩, -, -⟩ := HX3.out.at (w.heap.size + 1) 24 bh bl (by simp)
       obtain ⟨⟨r5, s5⟩, -, -⟩ := HX3.out.at (w.heap.size) 24 ah al (by simp))
    | (go_at_call 19; with_reducible refine (C4.out _).mono ?_; rintro e v4 ⟨rfl, hb1⟩
       have HY4 := Lib.hid (HX3.out.next hb1)
       clear hb1 r0 s0 r1 s1 r2 s2 r3 s3 r4 s4 r5 s5 HX3)
    | (obtain ⟨w4, hw⟩ : ∃ w4, v4.alloc (.cells #[.int .u64 uh, .int .u64 ul] 24) = w4 := ⟨_, rfl⟩
       rewrite [hw]
       have HX4 : Hid (Boxes w w4 [(v4.heap.size, 24, uh, ul), (c3, 24, ah, al), (c2, 24, sh, sl), (c1, 24, sh, sl), (w.heap.size + 1 + 1, 24, ch, cl), (w.heap.size + 1, 24, bh, bl), (w.heap.size, 24, ah, al)]) := by rewrite [← hw]; exact HY4.out.new 24 uh ul
       clear hw HY4
       generalize v4.heap.size = c4 at *
       obtain ⟨⟨r0, s0⟩, -, -⟩ := HX4.out.at (c4) 24 uh ul (by simp)
       obtain ⟨⟨r1, s1⟩, -, -⟩ := HX4.out.at (c3) 24 ah al (by simp)
       obtain ⟨⟨r2, s2⟩, -, -⟩ := HX4.out.at (c2) 24 sh sl (by simp)
       obtain ⟨⟨r3, s3⟩, -, -⟩ := HX4.out.at (c1) 24 sh sl (by simp)
       obtain ⟨⟨r4, s4⟩, -, -⟩ := HX4.out.at (w.heap.size + 1 + 1) 24 ch cl (by simp)
       obtain ⟨⟨r5, s5⟩, -, -⟩ := HX4.out.at (w.heap.size + 1) 24 bh bl (by simp)
       obtain ⟨⟨r6, s6⟩, -, -⟩ := HX4.out.at (w.heap.size) 24 ah al (by simp))
    | (go_at_call 19; with_reducible refine (C5.out _).mono ?_; rintro e v5 ⟨rfl, hb1⟩
       have HY5 := Lib.hid (HX4.out.next hb1)
       clear hb1 r0 s0 r1 s1 r2 s2 r3 s3 r4 s4 r5 s5 r6 s6 HX4)
    | (obtain ⟨w5, hw⟩ : ∃ w5, v5.alloc (.cells #[.int .u64 vh, .int .u64 vl] 24) = w5 := ⟨_, rfl⟩
       rewrite [hw]
       have HX5 : Hid (Boxes w w5 [(v5.heap.size, 24, vh, vl), (c4, 24, uh, ul), (c3, 24, ah, al), (c2, 24, sh, sl), (c1, 24, sh, sl), (w.heap.size + 1 + 1, 24, ch, cl), (w.heap.size + 1, 24, bh, bl), (w.heap.size, 24, ah, al)]) := by rewrite [← hw]; exact HY5.out.new 24 vh vl
       clear hw HY5
       generalize v5.heap.size = c5 at *
       obtain ⟨⟨r0, s0⟩, -, -⟩ := HX5.out.at (c5) 24 vh vl (by simp)
       obtain ⟨⟨r1, s1⟩, -, -⟩ := HX5.out.at (c4) 24 uh ul (by simp)
       obtain ⟨⟨r2, s2⟩, -, -⟩ := HX5.out.at (c3) 24 ah al (by simp)
       obtain ⟨⟨r3, s3⟩, -, -⟩ := HX5.out.at (c2) 24 sh sl (by simp)
       obtain ⟨⟨r4, s4⟩, -, -⟩ := HX5.out.at (c1) 24 sh sl (by simp)
       obtain ⟨⟨r5, s5⟩, -, -⟩ := HX5.out.at (w.heap.size + 1 + 1) 24 ch cl (by simp)
       obtain ⟨⟨r6, s6⟩, -, -⟩ := HX5.out.at (w.heap.size + 1) 24 bh bl (by simp)
       obtain ⟨⟨r7, s7⟩, -, -⟩ := HX5.out.at (w.heap.size) 24 ah al (by simp))
    | (go_at_call 19; with_reducible refine (C6.out _).mono ?_; rintro e v6 ⟨rfl, hb1⟩
       have HY6 := Lib.hid (HX5.out.next hb1)
       clear hb1 r0 s0 r1 s1 r2 s2 r3 s3 r4 s4 r5 s5 r6 s6 r7 s7 HX5)
    | (obtain ⟨w6, hw⟩ : ∃ w6, v6.alloc (.cells #[.int .u64 uh, .int .u64 ul] 24) = w6 := ⟨_, rfl⟩
       rewrite [hw]
       have HX6 : Hid (Boxes w w6 [(v6.heap.size, 24, uh, ul), (c5, 24, vh, vl), (c4, 24, uh, ul), (c3, 24, ah, al), (c2, 24, sh, sl), (c1, 24, sh, sl), (w.heap.size + 1 + 1, 24, ch, cl), (w.heap.size + 1, 24, bh, bl), (w.heap.size, 24, ah, al)]) := by rewrite [← hw]; exact HY6.out.new 24 uh ul
       clear hw HY6
       generalize v6.heap.size = c6 at *
       obtain ⟨⟨r0, s0⟩, -, -⟩ := HX6.out.at (c6) 24 uh ul (by simp)
       obtain ⟨⟨r1, s1⟩, -, -⟩ := HX6.out.at (c5) 24 vh vl (by simp)
       obtain ⟨⟨r2, s2⟩, -, -⟩ := HX6.out.at (c4) 24 uh ul (by simp)
       obtain ⟨⟨r3, s3⟩, -, -⟩ := HX6.out.at (c3) 24 ah al (by simp)
       obtain ⟨⟨r4, s4⟩, -, -⟩ := HX6.out.at (c2) 24 sh sl (by simp)
       obtain ⟨⟨r5, s5⟩, -, -⟩ := HX6.out.at (c1) 24 sh sl (by simp)
       obtain ⟨⟨r6, s6⟩, -, -⟩ := HX6.out.at (w.heap.size + 1 + 1) 24 ch cl (by simp)
       obtain ⟨⟨r7, s7⟩, -, -⟩ := HX6.out.at (w.heap.size + 1) 24 bh bl (by simp)
       obtain ⟨⟨r8, s8⟩, -, -⟩ := HX6.out.at (w.heap.size) 24 ah al (by simp))
    | (go_at_call 24; refine (alive_any _).mono ?_; rintro e v7 ⟨rfl, hb1⟩
       have HY7 := Lib.hid (HX6.out.next hb1)
       clear hb1 r0 s0 r1 s1 r2 s2 r3 s3 r4 s4 r5 s5 r6 s6 r7 s7 r8 s8 HX6
       obtain ⟨⟨r0, s0⟩, -, -⟩ := HY7.out.at (c6) 24 uh ul (by simp)
       obtain ⟨⟨r1, s1⟩, -, -⟩ := HY7.out.at (c5) 24 vh vl (by simp)
       obtain ⟨⟨r2, s2⟩, -, -⟩ := HY7.out.at (c4) 24 uh ul (by simp)
       obtain ⟨⟨r3, s3⟩, -, -⟩ := HY7.out.at (c3) 24 ah al (by simp)
       obtain ⟨⟨r4, s4⟩, -, -⟩ := HY7.out.at (c2) 24 sh sl (by simp)
       obtain ⟨⟨r5, s5⟩, -, -⟩ := HY7.out.at (c1) 24 sh sl (by simp)
       obtain ⟨⟨r6, s6⟩, -, -⟩ := HY7.out.at (w.heap.size + 1 + 1) 24 ch cl (by simp)
       obtain ⟨⟨r7, s7⟩, -, -⟩ := HY7.out.at (w.heap.size + 1) 24 bh bl (by simp)
       obtain ⟨⟨r8, s8⟩, -, -⟩ := HY7.out.at (w.heap.size) 24 ah al (by simp))
    | (go_at_call 25; with_reducible refine (C7.out _).mono ?_; rintro e v8 ⟨rfl, hb1⟩
       have HY8 := Lib.hid (HY7.out.next hb1)
       clear hb1 r0 s0 r1 s1 r2 s2 r3 s3 r4 s4 r5 s5 r6 s6 r7 s7 r8 s8 HY7
       obtain ⟨⟨r0, s0⟩, -, -⟩ := HY8.out.at (c6) 24 uh ul (by simp)
       obtain ⟨⟨r1, s1⟩, -, -⟩ := HY8.out.at (c5) 24 vh vl (by simp)
       obtain ⟨⟨r2, s2⟩, -, -⟩ := HY8.out.at (c4) 24 uh ul (by simp)
       obtain ⟨⟨r3, s3⟩, -, -⟩ := HY8.out.at (c3) 24 ah al (by simp)
       obtain ⟨⟨r4, s4⟩, -, -⟩ := HY8.out.at (c2) 24 sh sl (by simp)
       obtain ⟨⟨r5, s5⟩, -, -⟩ := HY8.out.at (c1) 24 sh sl (by simp)
       obtain ⟨⟨r6, s6⟩, -, -⟩ := HY8.out.at (w.heap.size + 1 + 1) 24 ch cl (by simp)
       obtain ⟨⟨r7, s7⟩, -, -⟩ := HY8.out.at (w.heap.size + 1) 24 bh bl (by simp)
       obtain ⟨⟨r8, s8⟩, -, -⟩ := HY8.out.at (w.heap.size) 24 ah al (by simp)))
  all_goals go_ret
  all_goals exact ⟨by simp [hk], HY8.out.below⟩

end Go.Proofs.Ytcaeaepnobbjlaa
