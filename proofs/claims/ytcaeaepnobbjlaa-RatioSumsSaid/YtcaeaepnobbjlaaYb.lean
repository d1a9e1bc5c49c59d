import Derived.Test.YtcaeaepnobbjlaaYa
namespace Go.Proofs.Ytcaeaepnobbjlaa
set_option linter.unusedVariables false
set_option linter.unusedSimpArgs false
open Go.RowKit

set_option maxRecDepth 100000 in
set_option maxHeartbeats 16000000 in
theorem clips_walk (n p q m pq mq r1 r2 r3 ph pl mh ml xh xl yh yl : Nat)
    (c1 : ∀ w, Calls Try.prog 27 #[.int .u64 p] w fun e w' => e = .returned (wv ph pl) ∧ Below w.heap.size w w')
    (c2 : ∀ w, Calls Try.prog 27 #[.int .u64 m] w fun e w' => e = .returned (wv mh ml) ∧ Below w.heap.size w w')
    (c3 : ∀ w, Calls Try.prog 27 #[.int .u64 pq] w fun e w' => e = .returned (wv xh xl) ∧ Below w.heap.size w w')
    (c4 : ∀ w, Calls Try.prog 27 #[.int .u64 mq] w fun e w' => e = .returned (wv yh yl) ∧ Below w.heap.size w w')
    (c5 : ∀ w, Calls Try.prog 67 #[.int .u64 n, wv ph pl, wv mh ml] w fun e w' => e = .returned (.int .u64 r1) ∧ Below w.heap.size w w')
    (c6 : ∀ w, Calls Try.prog 67 #[.int .u64 n, wv xh xl, wv mh ml] w fun e w' => e = .returned (.int .u64 r2) ∧ Below w.heap.size w w')
    (c7 : ∀ w, Calls Try.prog 67 #[.int .u64 n, wv ph pl, wv yh yl] w fun e w' => e = .returned (.int .u64 r3) ∧ Below w.heap.size w w')
    (c8 : ∀ w, Calls Try.prog 67 #[.int .u64 n, wv mh ml, wv mh ml] w fun e w' => e = .returned (.int .u64 n) ∧ Below w.heap.size w w')
    (e1 : IntKind.u64.wrap (p : Int) = p) (e2 : IntKind.u64.wrap (q : Int) = q) (e3 : IntKind.u64.wrap (m : Int) = m) (e4 : IntKind.u64.wrap ((p : Int) + q) = pq) (e5 : IntKind.u64.wrap ((m : Int) + q) = mq)
    (d1 : decide (r1 ≤ n) = true) (d2 : decide (r1 ≤ r2) = true) (d3 : decide (r3 ≤ r1) = true) (w : World) :
    Calls Try.prog 18 #[.int .u64 n, .int .u32 p, .int .u32 q, .int .u32 m] w fun e w' => e = .returned (.bool true) ∧ Below w.heap.size w w' := by
  have C1 := Lib.hid c1
  have C2 := Lib.hid c2
  have C3 := Lib.hid c3
  have C4 := Lib.hid c4
  have C5 := Lib.hid c5
  have C6 := Lib.hid c6
  have C7 := Lib.hid c7
  have C8 := Lib.hid c8
  clear c1 c2 c3 c4 c5 c6 c7 c8
  have hS0 : Below w.heap.size w w := Below.refl _ _
  go_enter Try.func18, Try.ntmps18
  go_wp2_with (first
    | (go_at_call 27; (with_reducible refine (C1.out _).mono ?_); rintro e v1 ⟨rfl, hb1⟩; have HY1 := Lib.hid ((Boxes.nil w).next hb1); clear hb1)
    | (go_at_call 27; (with_reducible refine (C2.out _).mono ?_); rintro e v2 ⟨rfl, hb1⟩; have HY2 := Lib.hid (HY1.out.next hb1); clear hb1)
    | (obtain ⟨w3, hw⟩ : ∃ w3, (v2.alloc (.cells #[.int .u64 ph, .int .u64 pl] 24)).alloc (.cells #[.int .u64 mh, .int .u64 ml] 24) = w3 := ⟨_, rfl⟩
       rewrite [hw]
       have HX3 : Hid (Boxes w w3 [(v2.heap.size + 1, 24, mh, ml), (v2.heap.size, 24, ph, pl)]) := by
         have h := (HY2.out.new 24 ph pl).new 24 mh ml
         rewrite [hw, size_alloc] at h
         exact h
       clear hw HY2 HY1 hS0
       generalize hb2 : v2.heap.size + 1 = b2 at *
       generalize v2.heap.size = b1 at *
       clear hb2
       obtain ⟨⟨r0, s0⟩, -, -⟩ := HX3.out.at b1 24 ph pl (by simp)
       obtain ⟨⟨r1, s1⟩, -, -⟩ := HX3.out.at b2 24 mh ml (by simp))
    | (go_at_call 67; (with_reducible refine (C5.out _).mono ?_); rintro e w4 ⟨rfl, hb1⟩; have HX4 := Lib.hid (HX3.out.next hb1); clear hb1 r0 s0 r1 s1))
  have HNk : ∀ W, Boxes w W [(b2, 24, mh, ml), (b1, 24, ph, pl)] → (Boxes w W [(b2, 24, mh, ml), (b1, 24, ph, pl)] ∧ (W.cell? ⟨b2, 0, none⟩ = some (.int .u64 mh) ∧ W.cell? ⟨b2, 1, none⟩ = some (.int .u64 ml)) ∧ (W.cell? ⟨b1, 0, none⟩ = some (.int .u64 ph) ∧ W.cell? ⟨b1, 1, none⟩ = some (.int .u64 pl))) := fun W h => ⟨h, two_cells (h.all (b2, 24, mh, ml) (by simp)), two_cells (h.all (b1, 24, ph, pl) (by simp))⟩
  have HN : Hid (∀ W V, (Boxes w W [(b2, 24, mh, ml), (b1, 24, ph, pl)] ∧ (W.cell? ⟨b2, 0, none⟩ = some (.int .u64 mh) ∧ W.cell? ⟨b2, 1, none⟩ = some (.int .u64 ml)) ∧ (W.cell? ⟨b1, 0, none⟩ = some (.int .u64 ph) ∧ W.cell? ⟨b1, 1, none⟩ = some (.int .u64 pl))) → Below W.heap.size W V → (Boxes w V [(b2, 24, mh, ml), (b1, 24, ph, pl)] ∧ (V.cell? ⟨b2, 0, none⟩ = some (.int .u64 mh) ∧ V.cell? ⟨b2, 1, none⟩ = some (.int .u64 ml)) ∧ (V.cell? ⟨b1, 0, none⟩ = some (.int .u64 ph) ∧ V.cell? ⟨b1, 1, none⟩ = some (.int .u64 pl)))) := fun W V h hb => HNk _ (h.1.next hb)
  have HF : Hid (∀ W, (Boxes w W [(b2, 24, mh, ml), (b1, 24, ph, pl)] ∧ (W.cell? ⟨b2, 0, none⟩ = some (.int .u64 mh) ∧ W.cell? ⟨b2, 1, none⟩ = some (.int .u64 ml)) ∧ (W.cell? ⟨b1, 0, none⟩ = some (.int .u64 ph) ∧ W.cell? ⟨b1, 1, none⟩ = some (.int .u64 pl))) → Below w.heap.size w W) := fun W h => h.1.below
  have hS0 := HNk _ HX4.out
  clear HNk HX4
  go_region_held3 (fun W => Boxes w W [(b2, 24, mh, ml), (b1, 24, ph, pl)] ∧ (W.cell? ⟨b2, 0, none⟩ = some (.int .u64 mh) ∧ W.cell? ⟨b2, 1, none⟩ = some (.int .u64 ml)) ∧ (W.cell? ⟨b1, 0, none⟩ = some (.int .u64 ph) ∧ W.cell? ⟨b1, 1, none⟩ = some (.int .u64 pl))) (first | assumption | exact HN.out _ _ (by assumption) (Below.refl _ _).drew)
    (first
      | (go_at_call 27; (with_reducible refine (C3.out _).mono ?_); rintro e w1 ⟨rfl, hb1⟩; have hS1 := HN.out _ _ (by assumption) hb1; clear hb1)
      | (go_at_call 67; (with_reducible refine (C6.out _).mono ?_); rintro e w1 ⟨rfl, hb1⟩; have hS1 := HN.out _ _ (by assumption) hb1; clear hb1))
  go_wp2_with fail
  go_region_held3 (fun W => Boxes w W [(b2, 24, mh, ml), (b1, 24, ph, pl)] ∧ (W.cell? ⟨b2, 0, none⟩ = some (.int .u64 mh) ∧ W.cell? ⟨b2, 1, none⟩ = some (.int .u64 ml)) ∧ (W.cell? ⟨b1, 0, none⟩ = some (.int .u64 ph) ∧ W.cell? ⟨b1, 1, none⟩ = some (.int .u64 pl))) (first | assumption | exact HN.out _ _ (by assumption) (Below.refl _ _).drew)
    (first
      | (go_at_call 27; (with_reducible refine (C4.out _).mono ?_); rintro e w1 ⟨rfl, hb1⟩; have hS1 := HN.out _ _ (by assumption) hb1; clear hb1)
      | (go_at_call 67; (with_reducible refine (C7.out _).mono ?_); rintro e w1 ⟨rfl, hb1⟩; have hS1 := HN.out _ _ (by assumption) hb1; clear hb1))
  go_wp2_with (first
    | (go_at_call 54; (with_reducible refine (alive12_any _).mono ?_); rintro e w1 ⟨rfl, hb1⟩; have hS1 := HN.out _ _ (by assumption) hb1; obtain ⟨_, ⟨r0, s0⟩, ⟨r1, s1⟩⟩ := id hS1; clear hb1)
    | (go_at_call 67; (with_reducible refine (C8.out _).mono ?_); rintro e w1 ⟨rfl, hb1⟩; have hS1 := HN.out _ _ (by assumption) hb1; obtain ⟨_, ⟨r0, s0⟩, ⟨r1, s1⟩⟩ := id hS1; clear hb1))
  all_goals go_ret
  all_goals exact ⟨by simp, HF.out _ (by assumption)⟩

set_option maxRecDepth 100000 in
theorem most_law_zero (k a b : Int) (n : Nat) (c1 : ∀ w, Calls Try.prog 55 #[.int .i64 k, .int .i64 a, .int .i64 b] w fun e w' => e = .returned (.bool false) ∧ Below w.heap.size w w')
    (c2 : ∀ w, Calls Try.prog 63 #[.int .i64 k, .int .i64 a, .int .i64 b] w fun e w' => e = .returned (.int .i64 0) ∧ Below w.heap.size w w') (w : World) :
    Calls Try.prog 17 #[.int .i64 k, .int .i64 a, .int .i64 b, .int .u32 n] w fun e w' => e = .returned (.bool true) ∧ Below w.heap.size w w' := by
  have C1 := Lib.hid c1
  have C2 := Lib.hid c2
  clear c1 c2
  have hS0 : Below w.heap.size w w := Below.refl _ _
  go_enter Try.func17, Try.ntmps17
  go_wp2_with (first
    | (go_at_call 55; (with_reducible refine (C1.out _).mono ?_); rintro e w1 ⟨rfl, hb1⟩; have hS1 := below_next (by assumption) hb1; clear hb1)
    | (go_at_call 63; (with_reducible refine (C2.out _).mono ?_); rintro e w1 ⟨rfl, hb1⟩; have hS1 := below_next (by assumption) hb1; clear hb1)
    | (go_at_call 54; (with_reducible refine (alive12_any _).mono ?_); rintro e w1 ⟨rfl, hb1⟩; have hS1 := below_next (by assumption) hb1; clear hb1))
  go_ret
  exact ⟨by simp, by assumption⟩

set_option maxRecDepth 100000 in
set_option maxHeartbeats 16000000 in
theorem most_law_walk (K A B n m m1 q d bk dm dm1 wh wl fh fl gh gl : Nat) (k1 k2 : Int) (o : Bool)
    (c1 : ∀ w, Calls Try.prog 55 #[.int .i64 K, .int .i64 A, .int .i64 B] w fun e w' => e = .returned (.bool true) ∧ Below w.heap.size w w')
    (c2 : ∀ w, Calls Try.prog 63 #[.int .i64 K, .int .i64 A, .int .i64 B] w fun e w' => e = .returned (.int .i64 m) ∧ Below w.heap.size w w')
    (c3 : ∀ w, Calls Try.prog 28 #[.int .u64 bk, .int .u64 n] w fun e w' => e = .returned (wv wh wl) ∧ Below w.heap.size w w')
    (c4 : ∀ w, Calls Try.prog 28 #[.int .u64 dm, .int .u64 n] w fun e w' => e = .returned (wv fh fl) ∧ Below w.heap.size w w')
    (c5 : ∀ w, Calls Try.prog 25 #[wv fh fl, wv wh wl] w fun e w' => e = .returned (.int .i64 k1) ∧ Below w.heap.size w w')
    (c6 : ∀ w, Calls Try.prog 28 #[.int .u64 dm1, .int .u64 n] w fun e w' => e = .returned (wv gh gl) ∧ Below w.heap.size w w')
    (c7 : ∀ w, Calls Try.prog 25 #[wv gh gl, wv wh wl] w fun e w' => e = .returned (.int .i64 k2) ∧ Below w.heap.size w w')
    (e1 : IntKind.i64.wrap ((A : Int) * K) = q) (e2 : IntKind.i64.wrap ((q : Int) - B) = d) (e3 : IntKind.u64.wrap (d : Int) = d) (e4 : IntKind.u64.wrap (B : Int) = B) (e5 : IntKind.u64.wrap (K : Int) = K)
    (e6 : IntKind.u64.wrap ((B : Int) * K) = bk) (e7 : IntKind.u64.wrap (n : Int) = n) (e8 : IntKind.u64.wrap (m : Int) = m) (e9 : IntKind.u64.wrap ((d : Int) * m) = dm) (e10 : IntKind.i64.wrap ((m : Int) + 1) = m1)
    (e11 : IntKind.u64.wrap (m1 : Int) = m1) (e12 : IntKind.u64.wrap ((d : Int) * m1) = dm1)
    (d1 : decide (k1 ≤ 0) = true) (d2 : decide (0 < k2) = o) (d3 : decide (0 < n) = o) (hm : 1 ≤ m) (w : World) :
    Calls Try.prog 17 #[.int .i64 K, .int .i64 A, .int .i64 B, .int .u32 n] w fun e w' => e = .returned (.bool true) ∧ Below w.heap.size w w' := by
  have d4 : decide ((m : Int) ≥ 1) = true := by simp; omega
  have d5 : decide (1 ≤ m) = true := decide_eq_true hm
  have C1 := Lib.hid c1
  have C2 := Lib.hid c2
  have C3 := Lib.hid c3
  have C4 := Lib.hid c4
  have C5 := Lib.hid c5
  have C6 := Lib.hid c6
  have C7 := Lib.hid c7
  clear c1 c2 c3 c4 c5 c6 c7 hm
  have HX0 : Hid (Boxes w w []) := Boxes.nil w
  go_enter Try.func17, Try.ntmps17
  go_wp2_with (first
    | (go_at_call 55; (with_reducible refine (C1.out _).mono ?_); rintro e v1 ⟨rfl, hb1⟩; have HY1 := Lib.hid (HX0.out.next hb1); clear hb1)
    | (go_at_call 63; (with_reducible refine (C2.out _).mono ?_); rintro e v2 ⟨rfl, hb1⟩; have HY2 := Lib.hid (HY1.out.next hb1); clear hb1)
    | (go_at_call 28; (with_reducible refine (C3.out _).mono ?_); rintro e v3 ⟨rfl, hb1⟩; have HY3 := Lib.hid (HY2.out.next hb1); clear hb1)
    | (obtain ⟨w3, hw⟩ : ∃ w3, v3.alloc (.cells #[.int .u64 wh, .int .u64 wl] 24) = w3 := ⟨_, rfl⟩
       rewrite [hw]
       have HX3 : Hid (Boxes w w3 [(v3.heap.size, 24, wh, wl)]) := by rewrite [← hw]; exact HY3.out.new 24 wh wl
       clear hw HY2 HY1 HY3
       generalize v3.heap.size = b1 at *))
  have HNk : ∀ W, Boxes w W [(b1, 24, wh, wl)] → (Boxes w W [(b1, 24, wh, wl)] ∧ (W.cell? ⟨b1, 0, none⟩ = some (.int .u64 wh) ∧ W.cell? ⟨b1, 1, none⟩ = some (.int .u64 wl))) := fun W h => ⟨h, two_cells (h.all (b1, 24, wh, wl) (by simp))⟩
  have HN : Hid (∀ W V, (Boxes w W [(b1, 24, wh, wl)] ∧ (W.cell? ⟨b1, 0, none⟩ = some (.int .u64 wh) ∧ W.cell? ⟨b1, 1, none⟩ = some (.int .u64 wl))) → Below W.heap.size W V → (Boxes w V [(b1, 24, wh, wl)] ∧ (V.cell? ⟨b1, 0, none⟩ = some (.int .u64 wh) ∧ V.cell? ⟨b1, 1, none⟩ = some (.int .u64 wl)))) := fun W V h hb => HNk _ (h.1.next hb)
  have HF : Hid (∀ W, (Boxes w W [(b1, 24, wh, wl)] ∧ (W.cell? ⟨b1, 0, none⟩ = some (.int .u64 wh) ∧ W.cell? ⟨b1, 1, none⟩ = some (.int .u64 wl))) → Below w.heap.size w W) := fun W h => h.1.below
  have hS0 := HNk _ HX3.out
  clear HNk HX3
  go_region_held3 (fun W => Boxes w W [(b1, 24, wh, wl)] ∧ (W.cell? ⟨b1, 0, none⟩ = some (.int .u64 wh) ∧ W.cell? ⟨b1, 1, none⟩ = some (.int .u64 wl))) (first | assumption | exact HN.out _ _ (by assumption) (Below.refl _ _).drew)
    (first
      | (go_at_call 28; (with_reducible refine (C4.out _).mono ?_); rintro e w1 ⟨rfl, hb1⟩; have hS1 := HN.out _ _ (by assumption) hb1; clear hb1)
      | (go_at_call 25; (with_reducible refine (C5.out _).mono ?_); rintro e w1 ⟨rfl, hb1⟩; have hS1 := HN.out _ _ (by assumption) hb1; clear hb1))
  go_wp2_with fail
  go_region_held3 (fun W => Boxes w W [(b1, 24, wh, wl)] ∧ (W.cell? ⟨b1, 0, none⟩ = some (.int .u64 wh) ∧ W.cell? ⟨b1, 1, none⟩ = some (.int .u64 wl))) (first | assumption | exact HN.out _ _ (by assumption) (Below.refl _ _).drew)
    (first
      | (go_at_call 28; (with_reducible refine (C6.out _).mono ?_); rintro e w1 ⟨rfl, hb1⟩; have hS1 := HN.out _ _ (by assumption) hb1; clear hb1)
      | (go_at_call 25; (with_reducible refine (C7.out _).mono ?_); rintro e w1 ⟨rfl, hb1⟩; have hS1 := HN.out _ _ (by assumption) hb1; clear hb1))
  go_wp2_with (first
    | (go_at_call 54; (with_reducible refine (alive12_any _).mono ?_); rintro e w1 ⟨rfl, hb1⟩; have hS1 := HN.out _ _ (by assumption) hb1; obtain ⟨_, r0, s0⟩ := id hS1; clear hb1))
  all_goals go_ret
  all_goals exact ⟨by simp, HF.out _ (by assumption)⟩

end Go.Proofs.Ytcaeaepnobbjlaa

