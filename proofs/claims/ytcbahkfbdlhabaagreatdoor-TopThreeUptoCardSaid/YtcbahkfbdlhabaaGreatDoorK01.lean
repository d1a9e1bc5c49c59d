/- A part of the proof that the law TopThree returns true for all arguments of bulk at most 1048576 (no other condition). Here: Keys: Right, ofPath, cut, Cut. Keys and dimensions: Right, cut, Cut, On. -/
import Derived.Test.YtcbahkfbdlhabaaGreatDoorK00
import Derived.BigGuard
import Derived.Deep.DeepCutAuto
namespace Go.Proofs.YtcbahkfbdlhabaaGreatDoor
set_option linter.unusedVariables false
set_option linter.unusedSimpArgs false
open Go.RowKit

theorem ite3 (a b c : Prop) [Decidable a] [Decidable b] [Decidable c] (w : World) : (if a then if b then if c then Result.ok (Next.value (.bool true)) w else Result.ok (Next.value (.bool false)) w else Result.ok (Next.value (.bool false)) w else Result.ok (Next.value (.bool false)) w) = Result.ok (Next.value (.bool (decide (a ∧ b ∧ c)))) w := by
  by_cases ha : a <;> by_cases hb : b <;> by_cases hc : c <;> simp [ha, hb, hc]
theorem ite2 (a b : Prop) [Decidable a] [Decidable b] (w : World) : (if a then if b then Result.ok (Next.value (.bool true)) w else Result.ok (Next.value (.bool false)) w else Result.ok (Next.value (.bool false)) w) = Result.ok (Next.value (.bool (decide (a ∧ b)))) w := by
  by_cases ha : a <;> by_cases hb : b <;> simp [ha, hb]
/-- What is known of the labels' functions. -/
structure LabelFns (ok : ByteArray → Bool) (len : ByteArray → Int) (top : ByteArray → Int → ByteArray) : Prop where
  small : ∀ p n, (top p n).size < 4294967281
  right : ∀ p, p.size < 4294967281 → Gives 50 #[.string p] (.bool (ok p))
  len : ∀ p, p.size < 4294967281 → Gives 60 #[.string p] (.int .i64 (len p))
  top : ∀ p n, p.size < 4294967281 → Gives 182 #[.string p, .int .i64 n] (.string (top p n))

set_option maxRecDepth 100000 in
theorem keyRight1_neg (l : Int) (hi lo : Nat) (p : ByteArray) (h : decide (0 ≤ l) = false) (w : World) : Calls Tryz.prog 36 #[.agg #[.int .i64 1, .int .i64 l, .int .u64 (hi : Int), .int .u64 (lo : Int), .string p]] w fun e w' => e = .returned (.bool false) ∧ Below w.heap.size w w' := by
  go_enter Tryz.func36, Tryz.ntmps36
  go_wp2_with (first
    | (obtain ⟨v0, hw⟩ : ∃ v0, w.alloc (.cells #[.int .i64 1, .int .i64 l, .int .u64 (hi : Int), .int .u64 (lo : Int), .string p] 31) = v0 := ⟨_, rfl⟩
       rewrite [hw]
       have hX := Bx.new (Bx.nil w) 31 #[.int .i64 1, .int .i64 l, .int .u64 (hi : Int), .int .u64 (lo : Int), .string p]
       (try simp only [World.size_alloc] at hX)
       rewrite [hw] at hX
       have HX0 : Hid (Bx w v0 [(w.heap.size, 31, #[.int .i64 1, .int .i64 l, .int .u64 (hi : Int), .int .u64 (lo : Int), .string p])]) := hX
       clear hw hX
       obtain ⟨r0_0, r0_1, r0_2, r0_3, r0_4⟩ := cells5 HX0.out.1))
  clear r0_0 r0_1 r0_2 r0_3 r0_4
  refine wp_region_Bx (by kernel_rfl) HX0.out ?_
  dsimp only
  repeat (first
    | go_big_quiet_skip
    | (go_big_quiet_want
       (refine qv (v := ?_) ?_ ?_; rotate_left; · (intro w9 hS9; obtain ⟨k0_0, k0_1, k0_2, k0_3, k0_4⟩ := cells5 hS9.1; go_simp); all_goals (with_reducible rfl))
       (try simp only [Act.put, zA, zB, zC])
       go_big_quiet_on))
  refine wpQuiet_nil ?_
  intro wq hq
  go_wp2_with fail
  go_ret
  exact ⟨rfl, Bx.below hq⟩
set_option maxRecDepth 100000 in
theorem keyRight1_long (l : Int) (hi lo : Nat) (p : ByteArray) (h : decide (0 ≤ l) = true) (h2 : decide (l ≤ widthI 1) = false) (w : World) : Calls Tryz.prog 36 #[.agg #[.int .i64 1, .int .i64 l, .int .u64 (hi : Int), .int .u64 (lo : Int), .string p]] w fun e w' => e = .returned (.bool false) ∧ Below w.heap.size w w' := by
  go_enter Tryz.func36, Tryz.ntmps36
  go_wp2_with (first
    | (obtain ⟨v0, hw⟩ : ∃ v0, w.alloc (.cells #[.int .i64 1, .int .i64 l, .int .u64 (hi : Int), .int .u64 (lo : Int), .string p] 31) = v0 := ⟨_, rfl⟩
       rewrite [hw]
       have hX := Bx.new (Bx.nil w) 31 #[.int .i64 1, .int .i64 l, .int .u64 (hi : Int), .int .u64 (lo : Int), .string p]
       (try simp only [World.size_alloc] at hX)
       rewrite [hw] at hX
       have HX0 : Hid (Bx w v0 [(w.heap.size, 31, #[.int .i64 1, .int .i64 l, .int .u64 (hi : Int), .int .u64 (lo : Int), .string p])]) := hX
       clear hw hX
       obtain ⟨r0_0, r0_1, r0_2, r0_3, r0_4⟩ := cells5 HX0.out.1))
  clear r0_0 r0_1 r0_2 r0_3 r0_4
  refine wp_region_Bx (by kernel_rfl) HX0.out ?_
  dsimp only
  repeat (first
    | go_big_quiet_skip
    | (go_big_quiet_want
       (first | (refine qv (v := ?_) ?_ ?_; rotate_left; · (intro w9 hS9; obtain ⟨k0_0, k0_1, k0_2, k0_3, k0_4⟩ := cells5 hS9.1; go_simp); all_goals (with_reducible rfl)) | (refine qg Bx.stay (width_gives 1) ?_ ?_; · (intro w9 hS9; obtain ⟨k0_0, k0_1, k0_2, k0_3, k0_4⟩ := cells5 hS9.1; go_simp)))
       (try simp only [Act.put, zA, zB, zC])
       go_big_quiet_on))
  refine wpQuiet_nil ?_
  intro wq hq
  go_wp2_with fail
  go_ret
  exact ⟨rfl, Bx.below hq⟩
set_option maxRecDepth 100000 in
set_option maxHeartbeats 1000000 in
theorem keyRight1_in (l : Int) (hi lo r s : Nat) (p : ByteArray) (h : decide (0 ≤ l) = true) (h2 : decide (l ≤ widthI 1) = true) (ho : Gives 49 #[.int .i64 1, .int .i64 l, wv hi lo] (kv 1 l (r : Int) (s : Int) ⟨#[]⟩)) (w : World) : Calls Tryz.prog 36 #[.agg #[.int .i64 1, .int .i64 l, .int .u64 (hi : Int), .int .u64 (lo : Int), .string p]] w fun e w' => e = .returned (.bool (decide ((hi : Int) = r) && (decide ((lo : Int) = s) && decide (p.toList = [])))) ∧ Below w.heap.size w w' := by
  go_enter Tryz.func36, Tryz.ntmps36
  go_wp2_with (first
    | (obtain ⟨v0, hw⟩ : ∃ v0, w.alloc (.cells #[.int .i64 1, .int .i64 l, .int .u64 (hi : Int), .int .u64 (lo : Int), .string p] 31) = v0 := ⟨_, rfl⟩
       rewrite [hw]
       have hX := Bx.new (Bx.nil w) 31 #[.int .i64 1, .int .i64 l, .int .u64 (hi : Int), .int .u64 (lo : Int), .string p]
       (try simp only [World.size_alloc] at hX)
       rewrite [hw] at hX
       have HX0 : Hid (Bx w v0 [(w.heap.size, 31, #[.int .i64 1, .int .i64 l, .int .u64 (hi : Int), .int .u64 (lo : Int), .string p])]) := hX
       clear hw hX
       obtain ⟨r0_0, r0_1, r0_2, r0_3, r0_4⟩ := cells5 HX0.out.1))
  clear r0_0 r0_1 r0_2 r0_3 r0_4
  refine wp_region_Bx (by kernel_rfl) HX0.out ?_
  dsimp only
  repeat (first
    | go_big_quiet_skip
    | (go_big_quiet_want
       (first | (refine qv (v := ?_) ?_ ?_; rotate_left; · (intro w9 hS9; obtain ⟨k0_0, k0_1, k0_2, k0_3, k0_4⟩ := cells5 hS9.1; go_simp); all_goals (first | with_reducible rfl | (simp only [ite3]; with_reducible rfl))) | (refine qg Bx.stay (width_gives 1) ?_ ?_; · (intro w9 hS9; obtain ⟨k0_0, k0_1, k0_2, k0_3, k0_4⟩ := cells5 hS9.1; go_simp)) | (refine qg Bx.stay (bits_gives0 1 l (hi : Int) (lo : Int) p) ?_ ?_; · (intro w9 hS9; obtain ⟨k0_0, k0_1, k0_2, k0_3, k0_4⟩ := cells5 hS9.1; go_simp)) | (refine qg Bx.stay (ho) ?_ ?_; · (intro w9 hS9; obtain ⟨k0_0, k0_1, k0_2, k0_3, k0_4⟩ := cells5 hS9.1; go_simp)))
       (try simp only [Act.put, zA, zB, zC])
       go_big_quiet_on))
  refine wpQuiet_nil ?_
  intro wq hq
  go_wp2_with fail
  go_ret
  exact ⟨rfl, Bx.below hq⟩
set_option maxRecDepth 100000 in
theorem keyRight2_neg (l : Int) (hi lo : Nat) (p : ByteArray) (h : decide (0 ≤ l) = false) (w : World) : Calls Tryz.prog 36 #[.agg #[.int .i64 2, .int .i64 l, .int .u64 (hi : Int), .int .u64 (lo : Int), .string p]] w fun e w' => e = .returned (.bool false) ∧ Below w.heap.size w w' := by
  go_enter Tryz.func36, Tryz.ntmps36
  go_wp2_with (first
    | (obtain ⟨v0, hw⟩ : ∃ v0, w.alloc (.cells #[.int .i64 2, .int .i64 l, .int .u64 (hi : Int), .int .u64 (lo : Int), .string p] 31) = v0 := ⟨_, rfl⟩
       rewrite [hw]
       have hX := Bx.new (Bx.nil w) 31 #[.int .i64 2, .int .i64 l, .int .u64 (hi : Int), .int .u64 (lo : Int), .string p]
       (try simp only [World.size_alloc] at hX)
       rewrite [hw] at hX
       have HX0 : Hid (Bx w v0 [(w.heap.size, 31, #[.int .i64 2, .int .i64 l, .int .u64 (hi : Int), .int .u64 (lo : Int), .string p])]) := hX
       clear hw hX
       obtain ⟨r0_0, r0_1, r0_2, r0_3, r0_4⟩ := cells5 HX0.out.1))
  clear r0_0 r0_1 r0_2 r0_3 r0_4
  refine wp_region_Bx (by kernel_rfl) HX0.out ?_
  dsimp only
  repeat (first
    | go_big_quiet_skip
    | (go_big_quiet_want
       (refine qv (v := ?_) ?_ ?_; rotate_left; · (intro w9 hS9; obtain ⟨k0_0, k0_1, k0_2, k0_3, k0_4⟩ := cells5 hS9.1; go_simp); all_goals (with_reducible rfl))
       (try simp only [Act.put, zA, zB, zC])
       go_big_quiet_on))
  refine wpQuiet_nil ?_
  intro wq hq
  go_wp2_with fail
  go_ret
  exact ⟨rfl, Bx.below hq⟩
set_option maxRecDepth 100000 in
theorem keyRight2_long (l : Int) (hi lo : Nat) (p : ByteArray) (h : decide (0 ≤ l) = true) (h2 : decide (l ≤ widthI 2) = false) (w : World) : Calls Tryz.prog 36 #[.agg #[.int .i64 2, .int .i64 l, .int .u64 (hi : Int), .int .u64 (lo : Int), .string p]] w fun e w' => e = .returned (.bool false) ∧ Below w.heap.size w w' := by
  go_enter Tryz.func36, Tryz.ntmps36
  go_wp2_with (first
    | (obtain ⟨v0, hw⟩ : ∃ v0, w.alloc (.cells #[.int .i64 2, .int .i64 l, .int .u64 (hi : Int), .int .u64 (lo : Int), .string p] 31) = v0 := ⟨_, rfl⟩
       rewrite [hw]
       have hX := Bx.new (Bx.nil w) 31 #[.int .i64 2, .int .i64 l, .int .u64 (hi : Int), .int .u64 (lo : Int), .string p]
       (try simp only [World.size_alloc] at hX)
       rewrite [hw] at hX
       have HX0 : Hid (Bx w v0 [(w.heap.size, 31, #[.int .i64 2, .int .i64 l, .int .u64 (hi : Int), .int .u64 (lo : Int), .string p])]) := hX
       clear hw hX
       obtain ⟨r0_0, r0_1, r0_2, r0_3, r0_4⟩ := cells5 HX0.out.1))
  clear r0_0 r0_1 r0_2 r0_3 r0_4
  refine wp_region_Bx (by kernel_rfl) HX0.out ?_
  dsimp only
  repeat (first
    | go_big_quiet_skip
    | (go_big_quiet_want
       (first | (refine qv (v := ?_) ?_ ?_; rotate_left; · (intro w9 hS9; obtain ⟨k0_0, k0_1, k0_2, k0_3, k0_4⟩ := cells5 hS9.1; go_simp); all_goals (with_reducible rfl)) | (refine qg Bx.stay (width_gives 2) ?_ ?_; · (intro w9 hS9; obtain ⟨k0_0, k0_1, k0_2, k0_3, k0_4⟩ := cells5 hS9.1; go_simp)))
       (try simp only [Act.put, zA, zB, zC])
       go_big_quiet_on))
  refine wpQuiet_nil ?_
  intro wq hq
  go_wp2_with fail
  go_ret
  exact ⟨rfl, Bx.below hq⟩
set_option maxRecDepth 100000 in
set_option maxHeartbeats 1000000 in
theorem keyRight2_in (l : Int) (hi lo r s : Nat) (p : ByteArray) (h : decide (0 ≤ l) = true) (h2 : decide (l ≤ widthI 2) = true) (ho : Gives 49 #[.int .i64 2, .int .i64 l, wv hi lo] (kv 2 l (r : Int) (s : Int) ⟨#[]⟩)) (w : World) : Calls Tryz.prog 36 #[.agg #[.int .i64 2, .int .i64 l, .int .u64 (hi : Int), .int .u64 (lo : Int), .string p]] w fun e w' => e = .returned (.bool (decide ((hi : Int) = r) && (decide ((lo : Int) = s) && decide (p.toList = [])))) ∧ Below w.heap.size w w' := by
  go_enter Tryz.func36, Tryz.ntmps36
  go_wp2_with (first
    | (obtain ⟨v0, hw⟩ : ∃ v0, w.alloc (.cells #[.int .i64 2, .int .i64 l, .int .u64 (hi : Int), .int .u64 (lo : Int), .string p] 31) = v0 := ⟨_, rfl⟩
       rewrite [hw]
       have hX := Bx.new (Bx.nil w) 31 #[.int .i64 2, .int .i64 l, .int .u64 (hi : Int), .int .u64 (lo : Int), .string p]
       (try simp only [World.size_alloc] at hX)
       rewrite [hw] at hX
       have HX0 : Hid (Bx w v0 [(w.heap.size, 31, #[.int .i64 2, .int .i64 l, .int .u64 (hi : Int), .int .u64 (lo : Int), .string p])]) := hX
       clear hw hX
       obtain ⟨r0_0, r0_1, r0_2, r0_3, r0_4⟩ := cells5 HX0.out.1))
  clear r0_0 r0_1 r0_2 r0_3 r0_4
  refine wp_region_Bx (by kernel_rfl) HX0.out ?_
  dsimp only
  repeat (first
    | go_big_quiet_skip
    | (go_big_quiet_want
       (first | (refine qv (v := ?_) ?_ ?_; rotate_left; · (intro w9 hS9; obtain ⟨k0_0, k0_1, k0_2, k0_3, k0_4⟩ := cells5 hS9.1; go_simp); all_goals (first | with_reducible rfl | (simp only [ite3]; with_reducible rfl))) | (refine qg Bx.stay (width_gives 2) ?_ ?_; · (intro w9 hS9; obtain ⟨k0_0, k0_1, k0_2, k0_3, k0_4⟩ := cells5 hS9.1; go_simp)) | (refine qg Bx.stay (bits_gives0 2 l (hi : Int) (lo : Int) p) ?_ ?_; · (intro w9 hS9; obtain ⟨k0_0, k0_1, k0_2, k0_3, k0_4⟩ := cells5 hS9.1; go_simp)) | (refine qg Bx.stay (ho) ?_ ?_; · (intro w9 hS9; obtain ⟨k0_0, k0_1, k0_2, k0_3, k0_4⟩ := cells5 hS9.1; go_simp)))
       (try simp only [Act.put, zA, zB, zC])
       go_big_quiet_on))
  refine wpQuiet_nil ?_
  intro wq hq
  go_wp2_with fail
  go_ret
  exact ⟨rfl, Bx.below hq⟩
set_option maxRecDepth 100000 in
theorem ofPath_gives (p : ByteArray) (n : Int) (hl : Gives 60 #[.string p] (.int .i64 n)) (w : World) : Calls Tryz.prog 51 #[.string p] w fun e w' => e = .returned (kv 3 n 0 0 p) ∧ Below w.heap.size w w' := by
  have HL := hl
  go_enter Tryz.func51, Tryz.ntmps51
  go_wp2_with (first
    | (obtain ⟨v0, hw⟩ : ∃ v0, w.alloc (.cells #[.int .i64 0, .int .i64 0, .int .u64 0, .int .u64 0, .string ⟨#[]⟩] 31) = v0 := ⟨_, rfl⟩
       rewrite [hw]
       have hX := Bx.new (Bx.nil w) 31 #[.int .i64 0, .int .i64 0, .int .u64 0, .int .u64 0, .string ⟨#[]⟩]
       (try simp only [World.size_alloc] at hX)
       rewrite [hw] at hX
       have HX0 : Hid (Bx w v0 [(w.heap.size, 31, #[.int .i64 0, .int .i64 0, .int .u64 0, .int .u64 0, .string ⟨#[]⟩])]) := hX
       clear hw hX
       obtain ⟨r0_0, r0_1, r0_2, r0_3, r0_4⟩ := cells5 HX0.out.1)
    | (go_at_call 60; (with_reducible refine ((HL) _).mono ?_); rintro e v1 ⟨rfl, hb⟩
       have HX1 := Lib.hid (Bx.next hb HX0.out)
       clear hb r0_0 r0_1 r0_2 r0_3 r0_4
       obtain ⟨r0_0, r0_1, r0_2, r0_3, r0_4⟩ := cells5 HX1.out.1)
    | (refine wpList_store_row rfl 31 _ _ rfl (w.heap.size) #[.int .i64 3, .int .i64 n, .int .u64 0, .int .u64 0, .string p] rfl rfl 31 #[.int .i64 0, .int .i64 0, .int .u64 0, .int .u64 0, .string ⟨#[]⟩] HX1.out.1 size31 rfl (one5 ..) ?_
       have HB := Lib.hid (Bx.below (Bx.keep (l := []) (w.heap.size) #[.int .i64 3, .int .i64 n, .int .u64 0, .int .u64 0, .string p] (by omega) HX1.out.below (fun _ hy => by simp at hy)))
       obtain ⟨q0, q1, q2, q3, q4⟩ := cells5 (setRow_heap _ _ #[.int .i64 0, .int .i64 0, .int .u64 0, .int .u64 0, .string ⟨#[]⟩] #[.int .i64 3, .int .i64 n, .int .u64 0, .int .u64 0, .string p] 31 (0, 0) HX1.out.1)
       generalize v1.setRow (w.heap.size) #[.int .i64 3, .int .i64 n, .int .u64 0, .int .u64 0, .string p] = W1 at *))
  exact bodyPost_ret (v := .agg #[.int .i64 3, .int .i64 n, .int .u64 0, .int .u64 0, .string p]) (by simp [results, Tryz.results51, go_sem, q0, q1, q2, q3, q4]) rfl ⟨rfl, HB.out⟩
set_option maxRecDepth 100000 in
theorem keyRight3_bad (l : Int) (hi lo : Nat) (p : ByteArray) (hr : Gives 50 #[.string p] (.bool false)) (w : World) : Calls Tryz.prog 36 #[.agg #[.int .i64 3, .int .i64 l, .int .u64 (hi : Int), .int .u64 (lo : Int), .string p]] w fun e w' => e = .returned (.bool false) ∧ Below w.heap.size w w' := by
  go_enter Tryz.func36, Tryz.ntmps36
  go_wp2_with (first
    | (obtain ⟨v0, hw⟩ : ∃ v0, w.alloc (.cells #[.int .i64 3, .int .i64 l, .int .u64 (hi : Int), .int .u64 (lo : Int), .string p] 31) = v0 := ⟨_, rfl⟩
       rewrite [hw]
       have hX := Bx.new (Bx.nil w) 31 #[.int .i64 3, .int .i64 l, .int .u64 (hi : Int), .int .u64 (lo : Int), .string p]
       (try simp only [World.size_alloc] at hX)
       rewrite [hw] at hX
       have HX0 : Hid (Bx w v0 [(w.heap.size, 31, #[.int .i64 3, .int .i64 l, .int .u64 (hi : Int), .int .u64 (lo : Int), .string p])]) := hX
       clear hw hX
       obtain ⟨r0_0, r0_1, r0_2, r0_3, r0_4⟩ := cells5 HX0.out.1))
  clear r0_0 r0_1 r0_2 r0_3 r0_4
  refine wp_region_Bx (by kernel_rfl) HX0.out ?_
  dsimp only
  repeat (first
    | go_big_quiet_skip
    | (go_big_quiet_want
       (first | (refine qv (v := ?_) ?_ ?_; rotate_left; · (intro w9 hS9; obtain ⟨k0_0, k0_1, k0_2, k0_3, k0_4⟩ := cells5 hS9.1; go_simp); all_goals (with_reducible rfl)) | (refine qg Bx.stay (hr) ?_ ?_; · (intro w9 hS9; obtain ⟨k0_0, k0_1, k0_2, k0_3, k0_4⟩ := cells5 hS9.1; go_simp)))
       (try simp only [Act.put, zA, zB, zC])
       go_big_quiet_on))
  refine wpQuiet_nil ?_
  intro wq hq
  go_wp2_with fail
  go_ret
  exact ⟨rfl, Bx.below hq⟩
set_option maxRecDepth 100000 in
theorem keyRight3_in (l n : Int) (hi lo : Nat) (p : ByteArray) (hr : Gives 50 #[.string p] (.bool true)) (hl : Gives 60 #[.string p] (.int .i64 n)) (w : World) : Calls Tryz.prog 36 #[.agg #[.int .i64 3, .int .i64 l, .int .u64 (hi : Int), .int .u64 (lo : Int), .string p]] w fun e w' => e = .returned (.bool (decide (l = n) && (decide (hi = 0) && decide (lo = 0)))) ∧ Below w.heap.size w w' := by
  go_enter Tryz.func36, Tryz.ntmps36
  go_wp2_with (first
    | (obtain ⟨v0, hw⟩ : ∃ v0, w.alloc (.cells #[.int .i64 3, .int .i64 l, .int .u64 (hi : Int), .int .u64 (lo : Int), .string p] 31) = v0 := ⟨_, rfl⟩
       rewrite [hw]
       have hX := Bx.new (Bx.nil w) 31 #[.int .i64 3, .int .i64 l, .int .u64 (hi : Int), .int .u64 (lo : Int), .string p]
       (try simp only [World.size_alloc] at hX)
       rewrite [hw] at hX
       have HX0 : Hid (Bx w v0 [(w.heap.size, 31, #[.int .i64 3, .int .i64 l, .int .u64 (hi : Int), .int .u64 (lo : Int), .string p])]) := hX
       clear hw hX
       obtain ⟨r0_0, r0_1, r0_2, r0_3, r0_4⟩ := cells5 HX0.out.1))
  clear r0_0 r0_1 r0_2 r0_3 r0_4
  refine wp_region_Bx (by kernel_rfl) HX0.out ?_
  dsimp only
  repeat (first
    | go_big_quiet_skip
    | (go_big_quiet_want
       (first | (refine qv (v := ?_) ?_ ?_; rotate_left; · (intro w9 hS9; obtain ⟨k0_0, k0_1, k0_2, k0_3, k0_4⟩ := cells5 hS9.1; go_simp); all_goals (first | with_reducible rfl | (simp only [ite3]; with_reducible rfl))) | (refine qg Bx.stay (hr) ?_ ?_; · (intro w9 hS9; obtain ⟨k0_0, k0_1, k0_2, k0_3, k0_4⟩ := cells5 hS9.1; go_simp)) | (refine qg Bx.stay (ofPath_gives p n hl) ?_ ?_; · (intro w9 hS9; obtain ⟨k0_0, k0_1, k0_2, k0_3, k0_4⟩ := cells5 hS9.1; go_simp)))
       (try simp only [Act.put, zA, zB, zC])
       go_big_quiet_on))
  refine wpQuiet_nil ?_
  intro wq hq
  go_wp2_with fail
  go_ret
  exact ⟨rfl, Bx.below hq⟩
set_option maxRecDepth 100000 in
theorem keyRight0 (k l : Int) (hi lo : Nat) (p : ByteArray) (h1 : (k == 1) = false) (h2 : (k == 2) = false) (h3 : (k == 3) = false) (w : World) : Calls Tryz.prog 36 #[.agg #[.int .i64 k, .int .i64 l, .int .u64 (hi : Int), .int .u64 (lo : Int), .string p]] w fun e w' => e = .returned (.bool false) ∧ Below w.heap.size w w' := by
  go_enter Tryz.func36, Tryz.ntmps36
  go_wp2_with (first
    | (obtain ⟨v0, hw⟩ : ∃ v0, w.alloc (.cells #[.int .i64 k, .int .i64 l, .int .u64 (hi : Int), .int .u64 (lo : Int), .string p] 31) = v0 := ⟨_, rfl⟩
       rewrite [hw]
       have hX := Bx.new (Bx.nil w) 31 #[.int .i64 k, .int .i64 l, .int .u64 (hi : Int), .int .u64 (lo : Int), .string p]
       (try simp only [World.size_alloc] at hX)
       rewrite [hw] at hX
       have HX0 : Hid (Bx w v0 [(w.heap.size, 31, #[.int .i64 k, .int .i64 l, .int .u64 (hi : Int), .int .u64 (lo : Int), .string p])]) := hX
       clear hw hX
       obtain ⟨r0_0, r0_1, r0_2, r0_3, r0_4⟩ := cells5 HX0.out.1))
  go_ret
  exact ⟨rfl, Bx.below HX0.out⟩

end Go.Proofs.YtcbahkfbdlhabaaGreatDoor
namespace Go.Proofs.YtcbahkfbdlhabaaGreatDoor
set_option linter.unusedVariables false
set_option linter.unusedSimpArgs false
open Go.RowKit

/-- The halves of the first l bits of a number of two halves. -/
def topH (hi lo : Nat) (l : Int) : Nat := topN (hi * M + lo) l / M
def topL (hi lo : Nat) (l : Int) : Nat := topN (hi * M + lo) l % M
theorem join_lt {hi lo : Nat} (h1 : hi < M) (h2 : lo < M) : hi * M + lo < MM := by
  have e : MM = M * M := MM_MM.symm
  have : (hi + 1) * M ≤ M * M := Nat.mul_le_mul_right _ h1
  rw [Nat.add_mul] at this
  omega
theorem ofBits_kv (k l : Int) (hi lo : Nat) (h1 : hi < M) (h2 : lo < M) : Gives 49 #[.int .i64 k, .int .i64 l, wv hi lo] (kv k l ((topH hi lo l : Nat) : Int) ((topL hi lo l : Nat) : Int) ⟨#[]⟩) := by
  have h := ofBits_gives k l (hi * M + lo) (join_lt h1 h2)
  rw [← wv_W hi lo h2] at h
  exact h
def keyR (ok : ByteArray → Bool) (len : ByteArray → Int) (k l : Int) (hi lo : Nat) (p : ByteArray) : Bool :=
  if k = 1 ∨ k = 2 then decide (0 ≤ l) && (decide (l ≤ widthI k) && (decide ((hi : Int) = topH hi lo l) && (decide ((lo : Int) = topL hi lo l) && decide (p.toList = []))))
  else if k = 3 then ok p && (decide (l = len p) && (decide (hi = 0) && decide (lo = 0))) else false
theorem keyRight_gives {ok : ByteArray → Bool} {len : ByteArray → Int} {top : ByteArray → Int → ByteArray} (L : LabelFns ok len top) (k l : Int) (hi lo : Nat) (p : ByteArray) (h1 : hi < M) (h2 : lo < M) (hp : p.size < 4294967281) :
    Gives 36 #[kv k l hi lo p] (.bool (keyR ok len k l hi lo p)) := fun w => by
  unfold keyR
  by_cases k1 : k = 1
  · subst k1
    rw [if_pos (Or.inl rfl)]
    cases a : decide (0 ≤ l)
    · exact keyRight1_neg l hi lo p a w
    · cases b : decide (l ≤ widthI 1)
      · exact keyRight1_long l hi lo p a b w
      · exact keyRight1_in l hi lo _ _ p a b (ofBits_kv 1 l hi lo h1 h2) w
  · by_cases k2 : k = 2
    · subst k2
      rw [if_pos (Or.inr rfl)]
      cases a : decide (0 ≤ l)
      · exact keyRight2_neg l hi lo p a w
      · cases b : decide (l ≤ widthI 2)
        · exact keyRight2_long l hi lo p a b w
        · exact keyRight2_in l hi lo _ _ p a b (ofBits_kv 2 l hi lo h1 h2) w
    · rw [if_neg (by omega)]
      by_cases k3 : k = 3
      · subst k3
        rw [if_pos rfl]
        have hr := L.right p hp
        cases a : ok p
        · rw [a] at hr
          exact keyRight3_bad l hi lo p hr w
        · rw [a] at hr
          exact keyRight3_in l _ hi lo p hr (L.len p hp) w
      · rw [if_neg k3]
        exact keyRight0 k l hi lo p (by simpa using k1) (by simpa using k2) (by simpa using k3) w
set_option maxRecDepth 100000 in
set_option maxHeartbeats 1000000 in
theorem cut_bits (k l n a m : Int) (hi lo r s : Nat) (p : ByteArray) (hk : (k == 3) = false) (hm : (if n < 0 then 0 else n) = a) (hm2 : (if l < a then l else a) = m) (ho : Gives 49 #[.int .i64 k, .int .i64 m, wv hi lo] (kv k m (r : Int) (s : Int) ⟨#[]⟩)) (w : World) : Calls Tryz.prog 181 #[.agg #[.int .i64 k, .int .i64 l, .int .u64 (hi : Int), .int .u64 (lo : Int), .string p], .int .i64 n] w fun e w' => e = .returned (kv k m (r : Int) (s : Int) ⟨#[]⟩) ∧ Below w.heap.size w w' := by
  have HO := ho
  go_enter Tryz.func181, Tryz.ntmps181
  go_wp2_with (first
    | (obtain ⟨v0, hw⟩ : ∃ v0, (w.alloc (.cells #[.int .i64 k, .int .i64 l, .int .u64 (hi : Int), .int .u64 (lo : Int), .string p] 31)).alloc (.cells #[.int .i64 0, .int .i64 0, .int .u64 0, .int .u64 0, .string ⟨#[]⟩] 31) = v0 := ⟨_, rfl⟩
       rewrite [hw]
       have hX := Bx.new (Bx.new (Bx.nil w) 31 #[.int .i64 k, .int .i64 l, .int .u64 (hi : Int), .int .u64 (lo : Int), .string p]) 31 #[.int .i64 0, .int .i64 0, .int .u64 0, .int .u64 0, .string ⟨#[]⟩]
       (try simp only [World.size_alloc] at hX)
       rewrite [hw] at hX
       have HX0 : Hid (Bx w v0 [(w.heap.size + 1, 31, #[.int .i64 0, .int .i64 0, .int .u64 0, .int .u64 0, .string ⟨#[]⟩]), (w.heap.size, 31, #[.int .i64 k, .int .i64 l, .int .u64 (hi : Int), .int .u64 (lo : Int), .string p])]) := hX
       clear hw hX
       obtain ⟨r0_0, r0_1, r0_2, r0_3, r0_4⟩ := cells5 HX0.out.1
       obtain ⟨r1_0, r1_1, r1_2, r1_3, r1_4⟩ := cells5 HX0.out.2.1))
  clear r0_0 r0_1 r0_2 r0_3 r0_4 r1_0 r1_1 r1_2 r1_3 r1_4
  have HNk : ∀ W, Bx w W [(w.heap.size, 31, #[.int .i64 k, .int .i64 l, .int .u64 (hi : Int), .int .u64 (lo : Int), .string p])] → Rx W (w.heap.size + 1) 31 5 → (Bx w W [(w.heap.size, 31, #[.int .i64 k, .int .i64 l, .int .u64 (hi : Int), .int .u64 (lo : Int), .string p])] ∧ Rx W (w.heap.size + 1) 31 5 ∧ (W.cell? ⟨w.heap.size, 0, none⟩ = some (.int .i64 k) ∧ W.cell? ⟨w.heap.size, 1, none⟩ = some (.int .i64 l) ∧ W.cell? ⟨w.heap.size, 2, none⟩ = some (.int .u64 (hi : Int)) ∧ W.cell? ⟨w.heap.size, 3, none⟩ = some (.int .u64 (lo : Int)) ∧ W.cell? ⟨w.heap.size, 4, none⟩ = some (.string p))) := fun W h hr => ⟨h, hr, cells5 h.1⟩
  have HN : Hid (∀ W V, (Bx w W [(w.heap.size, 31, #[.int .i64 k, .int .i64 l, .int .u64 (hi : Int), .int .u64 (lo : Int), .string p])] ∧ Rx W (w.heap.size + 1) 31 5 ∧ (W.cell? ⟨w.heap.size, 0, none⟩ = some (.int .i64 k) ∧ W.cell? ⟨w.heap.size, 1, none⟩ = some (.int .i64 l) ∧ W.cell? ⟨w.heap.size, 2, none⟩ = some (.int .u64 (hi : Int)) ∧ W.cell? ⟨w.heap.size, 3, none⟩ = some (.int .u64 (lo : Int)) ∧ W.cell? ⟨w.heap.size, 4, none⟩ = some (.string p))) → Below W.heap.size W V → (Bx w V [(w.heap.size, 31, #[.int .i64 k, .int .i64 l, .int .u64 (hi : Int), .int .u64 (lo : Int), .string p])] ∧ Rx V (w.heap.size + 1) 31 5 ∧ (V.cell? ⟨w.heap.size, 0, none⟩ = some (.int .i64 k) ∧ V.cell? ⟨w.heap.size, 1, none⟩ = some (.int .i64 l) ∧ V.cell? ⟨w.heap.size, 2, none⟩ = some (.int .u64 (hi : Int)) ∧ V.cell? ⟨w.heap.size, 3, none⟩ = some (.int .u64 (lo : Int)) ∧ V.cell? ⟨w.heap.size, 4, none⟩ = some (.string p)))) := fun W V h hb => HNk _ (Bx.next hb h.1) (Rx.next hb h.2.1)
  have HC : Hid (∀ W i v, (Bx w W [(w.heap.size, 31, #[.int .i64 k, .int .i64 l, .int .u64 (hi : Int), .int .u64 (lo : Int), .string p])] ∧ Rx W (w.heap.size + 1) 31 5 ∧ (W.cell? ⟨w.heap.size, 0, none⟩ = some (.int .i64 k) ∧ W.cell? ⟨w.heap.size, 1, none⟩ = some (.int .i64 l) ∧ W.cell? ⟨w.heap.size, 2, none⟩ = some (.int .u64 (hi : Int)) ∧ W.cell? ⟨w.heap.size, 3, none⟩ = some (.int .u64 (lo : Int)) ∧ W.cell? ⟨w.heap.size, 4, none⟩ = some (.string p))) → (Bx w (W.setCell ⟨w.heap.size + 1, i, none⟩ v) [(w.heap.size, 31, #[.int .i64 k, .int .i64 l, .int .u64 (hi : Int), .int .u64 (lo : Int), .string p])] ∧ Rx (W.setCell ⟨w.heap.size + 1, i, none⟩ v) (w.heap.size + 1) 31 5 ∧ ((W.setCell ⟨w.heap.size + 1, i, none⟩ v).cell? ⟨w.heap.size, 0, none⟩ = some (.int .i64 k) ∧ (W.setCell ⟨w.heap.size + 1, i, none⟩ v).cell? ⟨w.heap.size, 1, none⟩ = some (.int .i64 l) ∧ (W.setCell ⟨w.heap.size + 1, i, none⟩ v).cell? ⟨w.heap.size, 2, none⟩ = some (.int .u64 (hi : Int)) ∧ (W.setCell ⟨w.heap.size + 1, i, none⟩ v).cell? ⟨w.heap.size, 3, none⟩ = some (.int .u64 (lo : Int)) ∧ (W.setCell ⟨w.heap.size + 1, i, none⟩ v).cell? ⟨w.heap.size, 4, none⟩ = some (.string p)))) := fun W i v h => HNk _ (Bx.cell _ i v (by omega) h.1 (fun y hy => by simp at hy; (try subst hy); simp; try omega)) (Rx.set h.2.1 i v)
  have HS0 : Hid (Bx w v0.drew [(w.heap.size, 31, #[.int .i64 k, .int .i64 l, .int .u64 (hi : Int), .int .u64 (lo : Int), .string p])] ∧ Rx v0.drew (w.heap.size + 1) 31 5 ∧ (v0.drew.cell? ⟨w.heap.size, 0, none⟩ = some (.int .i64 k) ∧ v0.drew.cell? ⟨w.heap.size, 1, none⟩ = some (.int .i64 l) ∧ v0.drew.cell? ⟨w.heap.size, 2, none⟩ = some (.int .u64 (hi : Int)) ∧ v0.drew.cell? ⟨w.heap.size, 3, none⟩ = some (.int .u64 (lo : Int)) ∧ v0.drew.cell? ⟨w.heap.size, 4, none⟩ = some (.string p))) := HNk _ HX0.out.2.drew ⟨_, HX0.out.1, rfl⟩
  clear HNk
  go_region_held3 (fun W => Bx w W [(w.heap.size, 31, #[.int .i64 k, .int .i64 l, .int .u64 (hi : Int), .int .u64 (lo : Int), .string p])] ∧ Rx W (w.heap.size + 1) 31 5 ∧ (W.cell? ⟨w.heap.size, 0, none⟩ = some (.int .i64 k) ∧ W.cell? ⟨w.heap.size, 1, none⟩ = some (.int .i64 l) ∧ W.cell? ⟨w.heap.size, 2, none⟩ = some (.int .u64 (hi : Int)) ∧ W.cell? ⟨w.heap.size, 3, none⟩ = some (.int .u64 (lo : Int)) ∧ W.cell? ⟨w.heap.size, 4, none⟩ = some (.string p))) (first | with_reducible exact HS0.out | with_reducible assumption | with_reducible exact HC.out _ 4 _ (HC.out _ 3 _ (HC.out _ 2 _ (HC.out _ 1 _ (HC.out _ 0 _ (by with_reducible assumption)))))) (first | (with_reducible refine ((bits_gives0 k l (hi : Int) (lo : Int) p) _).mono ?_; rintro e w1 ⟨rfl, hb1⟩; have hS1 := HN.out _ _ (by assumption) hb1; clear hb1; obtain ⟨y0, z0, x0⟩ := hS1.2.1.cell 0 (by decide); obtain ⟨y1, z1, x1⟩ := hS1.2.1.cell 1 (by decide); obtain ⟨y2, z2, x2⟩ := hS1.2.1.cell 2 (by decide); obtain ⟨y3, z3, x3⟩ := hS1.2.1.cell 3 (by decide); obtain ⟨y4, z4, x4⟩ := hS1.2.1.cell 4 (by decide)) | (with_reducible refine ((HO) _).mono ?_; rintro e w1 ⟨rfl, hb1⟩; have hS1 := HN.out _ _ (by assumption) hb1; clear hb1; obtain ⟨y0, z0, x0⟩ := hS1.2.1.cell 0 (by decide); obtain ⟨y1, z1, x1⟩ := hS1.2.1.cell 1 (by decide); obtain ⟨y2, z2, x2⟩ := hS1.2.1.cell 2 (by decide); obtain ⟨y3, z3, x3⟩ := hS1.2.1.cell 3 (by decide); obtain ⟨y4, z4, x4⟩ := hS1.2.1.cell 4 (by decide)))
  obtain ⟨q0, q1, q2, q3, q4⟩ := cells5 (Rx.set5 hS1.2.1 (.int .i64 k) (.int .i64 m) (.int .u64 (r : Int)) (.int .u64 (s : Int)) (.string ⟨#[]⟩))
  have HB := Lib.hid (Bx.below (And.left (HC.out _ 4 (.string ⟨#[]⟩) (HC.out _ 3 (.int .u64 (s : Int)) (HC.out _ 2 (.int .u64 (r : Int)) (HC.out _ 1 (.int .i64 m) (HC.out _ 0 (.int .i64 k) hS1)))))))
  go_wp2_with fail
  generalize ((((w1.setCell ⟨w.heap.size + 1, 0, none⟩ (.int .i64 k)).setCell ⟨w.heap.size + 1, 1, none⟩ (.int .i64 m)).setCell ⟨w.heap.size + 1, 2, none⟩ (.int .u64 (r : Int))).setCell ⟨w.heap.size + 1, 3, none⟩ (.int .u64 (s : Int))).setCell ⟨w.heap.size + 1, 4, none⟩ (.string ⟨#[]⟩) = W1 at *
  exact bodyPost_ret (v := .agg #[.int .i64 k, .int .i64 m, .int .u64 (r : Int), .int .u64 (s : Int), .string ⟨#[]⟩]) (by simp [results, Tryz.results181, go_sem, q0, q1, q2, q3, q4]) rfl ⟨rfl, HB.out⟩
set_option maxRecDepth 100000 in
theorem cut_path (l n a m c : Int) (hi lo : Nat) (p q : ByteArray) (hm : (if n < 0 then 0 else n) = a) (hm2 : (if l < a then l else a) = m) (ht : Gives 182 #[.string p, .int .i64 m] (.string q)) (hl : Gives 60 #[.string q] (.int .i64 c)) (w : World) : Calls Tryz.prog 181 #[.agg #[.int .i64 3, .int .i64 l, .int .u64 (hi : Int), .int .u64 (lo : Int), .string p], .int .i64 n] w fun e w' => e = .returned (kv 3 c 0 0 q) ∧ Below w.heap.size w w' := by
  have HT := ht
  have HL : Gives 51 #[.string q] (kv 3 c 0 0 q) := ofPath_gives q c hl
  go_enter Tryz.func181, Tryz.ntmps181
  go_wp2_with (first
    | (obtain ⟨v0, hw⟩ : ∃ v0, (w.alloc (.cells #[.int .i64 3, .int .i64 l, .int .u64 (hi : Int), .int .u64 (lo : Int), .string p] 31)).alloc (.cells #[.int .i64 0, .int .i64 0, .int .u64 0, .int .u64 0, .string ⟨#[]⟩] 31) = v0 := ⟨_, rfl⟩
       rewrite [hw]
       have hX := Bx.new (Bx.new (Bx.nil w) 31 #[.int .i64 3, .int .i64 l, .int .u64 (hi : Int), .int .u64 (lo : Int), .string p]) 31 #[.int .i64 0, .int .i64 0, .int .u64 0, .int .u64 0, .string ⟨#[]⟩]
       (try simp only [World.size_alloc] at hX)
       rewrite [hw] at hX
       have HX0 : Hid (Bx w v0 [(w.heap.size + 1, 31, #[.int .i64 0, .int .i64 0, .int .u64 0, .int .u64 0, .string ⟨#[]⟩]), (w.heap.size, 31, #[.int .i64 3, .int .i64 l, .int .u64 (hi : Int), .int .u64 (lo : Int), .string p])]) := hX
       clear hw hX
       obtain ⟨r0_0, r0_1, r0_2, r0_3, r0_4⟩ := cells5 HX0.out.1
       obtain ⟨r1_0, r1_1, r1_2, r1_3, r1_4⟩ := cells5 HX0.out.2.1)
    | (go_at_call 182; (with_reducible refine ((HT) _).mono ?_); rintro e v1 ⟨rfl, hb⟩
       have HX1 := Lib.hid (Bx.next hb HX0.out)
       clear hb r0_0 r0_1 r0_2 r0_3 r0_4 r1_0 r1_1 r1_2 r1_3 r1_4
       obtain ⟨r0_0, r0_1, r0_2, r0_3, r0_4⟩ := cells5 HX1.out.1
       obtain ⟨r1_0, r1_1, r1_2, r1_3, r1_4⟩ := cells5 HX1.out.2.1)
    | (go_at_call 51; (with_reducible refine ((HL) _).mono ?_); rintro e v2 ⟨rfl, hb⟩
       have HX2 := Lib.hid (Bx.next hb HX1.out)
       clear hb r0_0 r0_1 r0_2 r0_3 r0_4 r1_0 r1_1 r1_2 r1_3 r1_4
       obtain ⟨r0_0, r0_1, r0_2, r0_3, r0_4⟩ := cells5 HX2.out.1
       obtain ⟨r1_0, r1_1, r1_2, r1_3, r1_4⟩ := cells5 HX2.out.2.1)
    | (refine wpList_store_row rfl 31 _ _ rfl (w.heap.size + 1) #[.int .i64 3, .int .i64 c, .int .u64 0, .int .u64 0, .string q] rfl rfl 31 #[.int .i64 0, .int .i64 0, .int .u64 0, .int .u64 0, .string ⟨#[]⟩] HX2.out.1 size31 rfl (one5 ..) ?_
       have HB := Lib.hid (Bx.below (Bx.keep (l := []) (w.heap.size + 1) #[.int .i64 3, .int .i64 c, .int .u64 0, .int .u64 0, .string q] (by omega) HX2.out.below (fun _ hy => by simp at hy)))
       obtain ⟨q0, q1, q2, q3, q4⟩ := cells5 (setRow_heap _ _ #[.int .i64 0, .int .i64 0, .int .u64 0, .int .u64 0, .string ⟨#[]⟩] #[.int .i64 3, .int .i64 c, .int .u64 0, .int .u64 0, .string q] 31 (0, 0) HX2.out.1)
       generalize v2.setRow (w.heap.size + 1) #[.int .i64 3, .int .i64 c, .int .u64 0, .int .u64 0, .string q] = W1 at *))
  exact bodyPost_ret (v := .agg #[.int .i64 3, .int .i64 c, .int .u64 0, .int .u64 0, .string q]) (by simp [results, Tryz.results181, go_sem, q0, q1, q2, q3, q4]) rfl ⟨rfl, HB.out⟩
/-- A key. -/
structure Ky where
  k : Int
  l : Int
  hi : Nat
  lo : Nat
  p : ByteArray
abbrev Ky.v (x : Ky) : Value := kv x.k x.l (x.hi : Int) (x.lo : Int) x.p
/-- Its halves are words. -/
def Ky.ok (x : Ky) : Prop := x.hi < M ∧ x.lo < M ∧ x.p.size < 4294967281
def ky0 : Ky := ⟨0, 0, 0, 0, ⟨#[]⟩⟩
def cutK (len : ByteArray → Int) (top : ByteArray → Int → ByteArray) (x : Ky) (n : Int) : Ky :=
  let m := min (max n 0) x.l
  if x.k = 3 then ⟨3, len (top x.p m), 0, 0, top x.p m⟩ else ⟨x.k, m, topH x.hi x.lo m, topL x.hi x.lo m, ⟨#[]⟩⟩
theorem topN_lt (n : Nat) (l : Int) : topN n l < MM := Nat.lt_of_le_of_lt Nat.and_le_right (maskN_lt _)
theorem top_halves (hi lo : Nat) (l : Int) : topH hi lo l < M ∧ topL hi lo l < M := by
  have h := topN_lt (hi * M + lo) l
  have e : MM = M * M := MM_MM.symm
  refine ⟨?_, Nat.mod_lt _ (by rw [M_eq]; omega)⟩
  unfold topH
  rw [Nat.div_lt_iff_lt_mul (by rw [M_eq]; omega), ← e]
  exact h
theorem cutK_ok (len : ByteArray → Int) (top : ByteArray → Int → ByteArray) (hs : ∀ p n, (top p n).size < 4294967281) (x : Ky) (n : Int) : (cutK len top x n).ok := by
  unfold cutK Ky.ok
  simp only
  split
  · exact ⟨by show 0 < M; rw [M_eq]; omega, by show 0 < M; rw [M_eq]; omega, hs _ _⟩
  · exact ⟨(top_halves _ _ _).1, (top_halves _ _ _).2, by show (0 : Nat) < 4294967281; omega⟩
theorem cut_gives {ok : ByteArray → Bool} {len : ByteArray → Int} {top : ByteArray → Int → ByteArray} (L : LabelFns ok len top) (x : Ky) (hx : x.ok) (n : Int) : Gives 181 #[x.v, .int .i64 n] (cutK len top x n).v := fun w => by
  obtain ⟨k, l, hi, lo, p⟩ := x
  unfold cutK
  simp only
  have e1 : (if n < 0 then 0 else n) = max n 0 := by split <;> omega
  have e2 : (if l < max n 0 then l else max n 0) = min (max n 0) l := by split <;> omega
  by_cases h3 : k = 3
  · subst h3
    rw [if_pos rfl]
    exact cut_path l n _ _ _ hi lo p _ e1 e2 (L.top p _ hx.2.2) (L.len _ (L.small _ _)) w
  · rw [if_neg h3]
    exact cut_bits k l n _ _ hi lo _ _ p (by simpa using h3) e1 e2 (ofBits_kv k _ hi lo hx.1 hx.2.1) w
/-- Cut. -/
def CutK (ok : ByteArray → Bool) (len : ByteArray → Int) (top : ByteArray → Int → ByteArray) (x : Ky) (n : Int) : Ky := if keyR ok len x.k x.l x.hi x.lo x.p then cutK len top x n else ky0
theorem CutK_ok (ok : ByteArray → Bool) (len : ByteArray → Int) (top : ByteArray → Int → ByteArray) (hs : ∀ p n, (top p n).size < 4294967281) (x : Ky) (n : Int) : (CutK ok len top x n).ok := by
  unfold CutK
  split
  · exact cutK_ok _ _ hs _ _
  · exact ⟨by rw [M_eq]; exact (by omega : (0 : Nat) < 18446744073709551616), by rw [M_eq]; exact (by omega : (0 : Nat) < 18446744073709551616), by show (0 : Nat) < 4294967281; omega⟩
set_option maxRecDepth 100000 in
theorem Cut_bad (k l n : Int) (hi lo : Nat) (p : ByteArray) (hr : Gives 36 #[kv k l hi lo p] (.bool false)) (w : World) : Calls Tryz.prog 177 #[.agg #[.int .i64 k, .int .i64 l, .int .u64 (hi : Int), .int .u64 (lo : Int), .string p], .int .i64 n] w fun e w' => e = .returned (kv 0 0 0 0 ⟨#[]⟩) ∧ Below w.heap.size w w' := by
  have HR := hr
  go_enter Tryz.func177, Tryz.ntmps177
  go_wp2_with (first
    | (obtain ⟨v0, hw⟩ : ∃ v0, (w.alloc (.cells #[.int .i64 k, .int .i64 l, .int .u64 (hi : Int), .int .u64 (lo : Int), .string p] 31)).alloc (.cells #[.int .i64 0, .int .i64 0, .int .u64 0, .int .u64 0, .string ⟨#[]⟩] 31) = v0 := ⟨_, rfl⟩
       rewrite [hw]
       have hX := Bx.new (Bx.new (Bx.nil w) 31 #[.int .i64 k, .int .i64 l, .int .u64 (hi : Int), .int .u64 (lo : Int), .string p]) 31 #[.int .i64 0, .int .i64 0, .int .u64 0, .int .u64 0, .string ⟨#[]⟩]
       (try simp only [World.size_alloc] at hX)
       rewrite [hw] at hX
       have HX0 : Hid (Bx w v0 [(w.heap.size + 1, 31, #[.int .i64 0, .int .i64 0, .int .u64 0, .int .u64 0, .string ⟨#[]⟩]), (w.heap.size, 31, #[.int .i64 k, .int .i64 l, .int .u64 (hi : Int), .int .u64 (lo : Int), .string p])]) := hX
       clear hw hX
       obtain ⟨r0_0, r0_1, r0_2, r0_3, r0_4⟩ := cells5 HX0.out.1
       obtain ⟨r1_0, r1_1, r1_2, r1_3, r1_4⟩ := cells5 HX0.out.2.1)
    | (go_at_call 36; (with_reducible refine ((HR) _).mono ?_); rintro e v1 ⟨rfl, hb⟩
       have HX1 := Lib.hid (Bx.next hb HX0.out)
       clear hb r0_0 r0_1 r0_2 r0_3 r0_4 r1_0 r1_1 r1_2 r1_3 r1_4
       obtain ⟨r0_0, r0_1, r0_2, r0_3, r0_4⟩ := cells5 HX1.out.1
       obtain ⟨r1_0, r1_1, r1_2, r1_3, r1_4⟩ := cells5 HX1.out.2.1)
    | (refine wpList_store_row rfl 31 _ _ rfl (w.heap.size + 1) #[.int .i64 0, .int .i64 0, .int .u64 0, .int .u64 0, .string ⟨#[]⟩] rfl rfl 31 #[.int .i64 0, .int .i64 0, .int .u64 0, .int .u64 0, .string ⟨#[]⟩] HX1.out.1 size31 rfl (one5 ..) ?_
       have HB := Lib.hid (Bx.below (Bx.keep (l := []) (w.heap.size + 1) #[.int .i64 0, .int .i64 0, .int .u64 0, .int .u64 0, .string ⟨#[]⟩] (by omega) HX1.out.below (fun _ hy => by simp at hy)))
       obtain ⟨q0, q1, q2, q3, q4⟩ := cells5 (setRow_heap _ _ #[.int .i64 0, .int .i64 0, .int .u64 0, .int .u64 0, .string ⟨#[]⟩] #[.int .i64 0, .int .i64 0, .int .u64 0, .int .u64 0, .string ⟨#[]⟩] 31 (0, 0) HX1.out.1)
       generalize v1.setRow (w.heap.size + 1) #[.int .i64 0, .int .i64 0, .int .u64 0, .int .u64 0, .string ⟨#[]⟩] = W1 at *))
  exact bodyPost_ret (v := .agg #[.int .i64 0, .int .i64 0, .int .u64 0, .int .u64 0, .string ⟨#[]⟩]) (by simp [results, Tryz.results177, go_sem, q0, q1, q2, q3, q4]) rfl ⟨rfl, HB.out⟩
set_option maxRecDepth 100000 in
theorem Cut_ok (k l n k2 l2 : Int) (hi lo h2 o2 : Nat) (p p2 : ByteArray) (hr : Gives 36 #[kv k l hi lo p] (.bool true)) (hc : Gives 181 #[kv k l hi lo p, .int .i64 n] (kv k2 l2 (h2 : Int) (o2 : Int) p2)) (w : World) : Calls Tryz.prog 177 #[.agg #[.int .i64 k, .int .i64 l, .int .u64 (hi : Int), .int .u64 (lo : Int), .string p], .int .i64 n] w fun e w' => e = .returned (kv k2 l2 (h2 : Int) (o2 : Int) p2) ∧ Below w.heap.size w w' := by
  have HR := hr
  have HC := hc
  go_enter Tryz.func177, Tryz.ntmps177
  go_wp2_with (first
    | (obtain ⟨v0, hw⟩ : ∃ v0, (w.alloc (.cells #[.int .i64 k, .int .i64 l, .int .u64 (hi : Int), .int .u64 (lo : Int), .string p] 31)).alloc (.cells #[.int .i64 0, .int .i64 0, .int .u64 0, .int .u64 0, .string ⟨#[]⟩] 31) = v0 := ⟨_, rfl⟩
       rewrite [hw]
       have hX := Bx.new (Bx.new (Bx.nil w) 31 #[.int .i64 k, .int .i64 l, .int .u64 (hi : Int), .int .u64 (lo : Int), .string p]) 31 #[.int .i64 0, .int .i64 0, .int .u64 0, .int .u64 0, .string ⟨#[]⟩]
       (try simp only [World.size_alloc] at hX)
       rewrite [hw] at hX
       have HX0 : Hid (Bx w v0 [(w.heap.size + 1, 31, #[.int .i64 0, .int .i64 0, .int .u64 0, .int .u64 0, .string ⟨#[]⟩]), (w.heap.size, 31, #[.int .i64 k, .int .i64 l, .int .u64 (hi : Int), .int .u64 (lo : Int), .string p])]) := hX
       clear hw hX
       obtain ⟨r0_0, r0_1, r0_2, r0_3, r0_4⟩ := cells5 HX0.out.1
       obtain ⟨r1_0, r1_1, r1_2, r1_3, r1_4⟩ := cells5 HX0.out.2.1)
    | (go_at_call 36; (with_reducible refine ((HR) _).mono ?_); rintro e v1 ⟨rfl, hb⟩
       have HX1 := Lib.hid (Bx.next hb HX0.out)
       clear hb r0_0 r0_1 r0_2 r0_3 r0_4 r1_0 r1_1 r1_2 r1_3 r1_4
       obtain ⟨r0_0, r0_1, r0_2, r0_3, r0_4⟩ := cells5 HX1.out.1
       obtain ⟨r1_0, r1_1, r1_2, r1_3, r1_4⟩ := cells5 HX1.out.2.1)
    | (go_at_call 181; (with_reducible refine ((HC) _).mono ?_); rintro e v2 ⟨rfl, hb⟩
       have HX2 := Lib.hid (Bx.next hb HX1.out)
       clear hb r0_0 r0_1 r0_2 r0_3 r0_4 r1_0 r1_1 r1_2 r1_3 r1_4
       obtain ⟨r0_0, r0_1, r0_2, r0_3, r0_4⟩ := cells5 HX2.out.1
       obtain ⟨r1_0, r1_1, r1_2, r1_3, r1_4⟩ := cells5 HX2.out.2.1)
    | (refine wpList_store_row rfl 31 _ _ rfl (w.heap.size + 1) #[.int .i64 k2, .int .i64 l2, .int .u64 (h2 : Int), .int .u64 (o2 : Int), .string p2] rfl rfl 31 #[.int .i64 0, .int .i64 0, .int .u64 0, .int .u64 0, .string ⟨#[]⟩] HX2.out.1 size31 rfl (one5 ..) ?_
       have HB := Lib.hid (Bx.below (Bx.keep (l := []) (w.heap.size + 1) #[.int .i64 k2, .int .i64 l2, .int .u64 (h2 : Int), .int .u64 (o2 : Int), .string p2] (by omega) HX2.out.below (fun _ hy => by simp at hy)))
       obtain ⟨q0, q1, q2, q3, q4⟩ := cells5 (setRow_heap _ _ #[.int .i64 0, .int .i64 0, .int .u64 0, .int .u64 0, .string ⟨#[]⟩] #[.int .i64 k2, .int .i64 l2, .int .u64 (h2 : Int), .int .u64 (o2 : Int), .string p2] 31 (0, 0) HX2.out.1)
       generalize v2.setRow (w.heap.size + 1) #[.int .i64 k2, .int .i64 l2, .int .u64 (h2 : Int), .int .u64 (o2 : Int), .string p2] = W1 at *))
  exact bodyPost_ret (v := .agg #[.int .i64 k2, .int .i64 l2, .int .u64 (h2 : Int), .int .u64 (o2 : Int), .string p2]) (by simp [results, Tryz.results177, go_sem, q0, q1, q2, q3, q4]) rfl ⟨rfl, HB.out⟩
theorem Cut_gives {ok : ByteArray → Bool} {len : ByteArray → Int} {top : ByteArray → Int → ByteArray} (L : LabelFns ok len top) (x : Ky) (hx : x.ok) (n : Int) : Gives 177 #[x.v, .int .i64 n] (CutK ok len top x n).v := fun w => by
  have hr := keyRight_gives L x.k x.l x.hi x.lo x.p hx.1 hx.2.1 hx.2.2
  unfold CutK
  cases h : keyR ok len x.k x.l x.hi x.lo x.p
  · rw [h] at hr
    exact Cut_bad x.k x.l n x.hi x.lo x.p hr w
  · rw [h] at hr
    exact Cut_ok x.k x.l n _ _ x.hi x.lo _ _ x.p _ hr (cut_gives L x hx n) w
set_option maxRecDepth 100000 in
theorem dimCut_neg (dk ds dt n k l c : Int) (hi lo : Nat) (p : ByteArray) (hl : Gives 35 #[dv dk ds dt, .int .i64 n] (.int .i64 c)) (h1 : decide (c < 0) = true) (w : World) : Calls Tryz.prog 165 #[.agg #[.int .i64 dk, .int .i64 ds, .int .i64 dt], .int .i64 n, .agg #[.int .i64 k, .int .i64 l, .int .u64 (hi : Int), .int .u64 (lo : Int), .string p]] w fun e w' => e = .returned (kv 0 0 0 0 ⟨#[]⟩) ∧ Below w.heap.size w w' := by
  have HL := hl
  go_enter Tryz.func165, Tryz.ntmps165
  go_wp2_with (first
    | (obtain ⟨v0, hw⟩ : ∃ v0, ((w.alloc (.cells #[.int .i64 dk, .int .i64 ds, .int .i64 dt] 23)).alloc (.cells #[.int .i64 k, .int .i64 l, .int .u64 (hi : Int), .int .u64 (lo : Int), .string p] 31)).alloc (.cells #[.int .i64 0, .int .i64 0, .int .u64 0, .int .u64 0, .string ⟨#[]⟩] 31) = v0 := ⟨_, rfl⟩
       rewrite [hw]
       have hX := Bx.new (Bx.new (Bx.new (Bx.nil w) 23 #[.int .i64 dk, .int .i64 ds, .int .i64 dt]) 31 #[.int .i64 k, .int .i64 l, .int .u64 (hi : Int), .int .u64 (lo : Int), .string p]) 31 #[.int .i64 0, .int .i64 0, .int .u64 0, .int .u64 0, .string ⟨#[]⟩]
       (try simp only [World.size_alloc] at hX)
       rewrite [hw] at hX
       have HX0 : Hid (Bx w v0 [(w.heap.size + 1 + 1, 31, #[.int .i64 0, .int .i64 0, .int .u64 0, .int .u64 0, .string ⟨#[]⟩]), (w.heap.size + 1, 31, #[.int .i64 k, .int .i64 l, .int .u64 (hi : Int), .int .u64 (lo : Int), .string p]), (w.heap.size, 23, #[.int .i64 dk, .int .i64 ds, .int .i64 dt])]) := hX
       clear hw hX
       obtain ⟨r0_0, r0_1, r0_2, r0_3, r0_4⟩ := cells5 HX0.out.1
       obtain ⟨r1_0, r1_1, r1_2, r1_3, r1_4⟩ := cells5 HX0.out.2.1
       obtain ⟨r2_0, r2_1, r2_2⟩ := cells3 HX0.out.2.2.1)
    | (go_at_call 35; (with_reducible refine ((HL) _).mono ?_); rintro e v1 ⟨rfl, hb⟩
       have HX1 := Lib.hid (Bx.next hb HX0.out)
       clear hb r0_0 r0_1 r0_2 r0_3 r0_4 r1_0 r1_1 r1_2 r1_3 r1_4 r2_0 r2_1 r2_2
       obtain ⟨r0_0, r0_1, r0_2, r0_3, r0_4⟩ := cells5 HX1.out.1
       obtain ⟨r1_0, r1_1, r1_2, r1_3, r1_4⟩ := cells5 HX1.out.2.1
       obtain ⟨r2_0, r2_1, r2_2⟩ := cells3 HX1.out.2.2.1)
    | (refine wpList_store_row rfl 31 _ _ rfl (w.heap.size + 1 + 1) #[.int .i64 0, .int .i64 0, .int .u64 0, .int .u64 0, .string ⟨#[]⟩] rfl rfl 31 #[.int .i64 0, .int .i64 0, .int .u64 0, .int .u64 0, .string ⟨#[]⟩] HX1.out.1 size31 rfl (one5 ..) ?_
       have HB := Lib.hid (Bx.below (Bx.keep (l := []) (w.heap.size + 1 + 1) #[.int .i64 0, .int .i64 0, .int .u64 0, .int .u64 0, .string ⟨#[]⟩] (by omega) HX1.out.below (fun _ hy => by simp at hy)))
       obtain ⟨q0, q1, q2, q3, q4⟩ := cells5 (setRow_heap _ _ #[.int .i64 0, .int .i64 0, .int .u64 0, .int .u64 0, .string ⟨#[]⟩] #[.int .i64 0, .int .i64 0, .int .u64 0, .int .u64 0, .string ⟨#[]⟩] 31 (0, 0) HX1.out.1)
       generalize v1.setRow (w.heap.size + 1 + 1) #[.int .i64 0, .int .i64 0, .int .u64 0, .int .u64 0, .string ⟨#[]⟩] = W1 at *))
  exact bodyPost_ret (v := .agg #[.int .i64 0, .int .i64 0, .int .u64 0, .int .u64 0, .string ⟨#[]⟩]) (by simp [results, Tryz.results165, go_sem, q0, q1, q2, q3, q4]) rfl ⟨rfl, HB.out⟩
set_option maxRecDepth 100000 in
theorem dimCut_kind (dk ds dt n k l c : Int) (hi lo : Nat) (p : ByteArray) (hl : Gives 35 #[dv dk ds dt, .int .i64 n] (.int .i64 c)) (h1 : decide (c < 0) = false) (h2 : (k != dk) = true) (w : World) : Calls Tryz.prog 165 #[.agg #[.int .i64 dk, .int .i64 ds, .int .i64 dt], .int .i64 n, .agg #[.int .i64 k, .int .i64 l, .int .u64 (hi : Int), .int .u64 (lo : Int), .string p]] w fun e w' => e = .returned (kv 0 0 0 0 ⟨#[]⟩) ∧ Below w.heap.size w w' := by
  have HL := hl
  go_enter Tryz.func165, Tryz.ntmps165
  go_wp2_with (first
    | (obtain ⟨v0, hw⟩ : ∃ v0, ((w.alloc (.cells #[.int .i64 dk, .int .i64 ds, .int .i64 dt] 23)).alloc (.cells #[.int .i64 k, .int .i64 l, .int .u64 (hi : Int), .int .u64 (lo : Int), .string p] 31)).alloc (.cells #[.int .i64 0, .int .i64 0, .int .u64 0, .int .u64 0, .string ⟨#[]⟩] 31) = v0 := ⟨_, rfl⟩
       rewrite [hw]
       have hX := Bx.new (Bx.new (Bx.new (Bx.nil w) 23 #[.int .i64 dk, .int .i64 ds, .int .i64 dt]) 31 #[.int .i64 k, .int .i64 l, .int .u64 (hi : Int), .int .u64 (lo : Int), .string p]) 31 #[.int .i64 0, .int .i64 0, .int .u64 0, .int .u64 0, .string ⟨#[]⟩]
       (try simp only [World.size_alloc] at hX)
       rewrite [hw] at hX
       have HX0 : Hid (Bx w v0 [(w.heap.size + 1 + 1, 31, #[.int .i64 0, .int .i64 0, .int .u64 0, .int .u64 0, .string ⟨#[]⟩]), (w.heap.size + 1, 31, #[.int .i64 k, .int .i64 l, .int .u64 (hi : Int), .int .u64 (lo : Int), .string p]), (w.heap.size, 23, #[.int .i64 dk, .int .i64 ds, .int .i64 dt])]) := hX
       clear hw hX
       obtain ⟨r0_0, r0_1, r0_2, r0_3, r0_4⟩ := cells5 HX0.out.1
       obtain ⟨r1_0, r1_1, r1_2, r1_3, r1_4⟩ := cells5 HX0.out.2.1
       obtain ⟨r2_0, r2_1, r2_2⟩ := cells3 HX0.out.2.2.1)
    | (go_at_call 35; (with_reducible refine ((HL) _).mono ?_); rintro e v1 ⟨rfl, hb⟩
       have HX1 := Lib.hid (Bx.next hb HX0.out)
       clear hb r0_0 r0_1 r0_2 r0_3 r0_4 r1_0 r1_1 r1_2 r1_3 r1_4 r2_0 r2_1 r2_2
       obtain ⟨r0_0, r0_1, r0_2, r0_3, r0_4⟩ := cells5 HX1.out.1
       obtain ⟨r1_0, r1_1, r1_2, r1_3, r1_4⟩ := cells5 HX1.out.2.1
       obtain ⟨r2_0, r2_1, r2_2⟩ := cells3 HX1.out.2.2.1)
    | (refine wpList_store_row rfl 31 _ _ rfl (w.heap.size + 1 + 1) #[.int .i64 0, .int .i64 0, .int .u64 0, .int .u64 0, .string ⟨#[]⟩] rfl rfl 31 #[.int .i64 0, .int .i64 0, .int .u64 0, .int .u64 0, .string ⟨#[]⟩] HX1.out.1 size31 rfl (one5 ..) ?_
       have HB := Lib.hid (Bx.below (Bx.keep (l := []) (w.heap.size + 1 + 1) #[.int .i64 0, .int .i64 0, .int .u64 0, .int .u64 0, .string ⟨#[]⟩] (by omega) HX1.out.below (fun _ hy => by simp at hy)))
       obtain ⟨q0, q1, q2, q3, q4⟩ := cells5 (setRow_heap _ _ #[.int .i64 0, .int .i64 0, .int .u64 0, .int .u64 0, .string ⟨#[]⟩] #[.int .i64 0, .int .i64 0, .int .u64 0, .int .u64 0, .string ⟨#[]⟩] 31 (0, 0) HX1.out.1)
       generalize v1.setRow (w.heap.size + 1 + 1) #[.int .i64 0, .int .i64 0, .int .u64 0, .int .u64 0, .string ⟨#[]⟩] = W1 at *))
  exact bodyPost_ret (v := .agg #[.int .i64 0, .int .i64 0, .int .u64 0, .int .u64 0, .string ⟨#[]⟩]) (by simp [results, Tryz.results165, go_sem, q0, q1, q2, q3, q4]) rfl ⟨rfl, HB.out⟩
set_option maxRecDepth 100000 in
theorem dimCut_ok (dk ds dt n k l c k2 l2 : Int) (hi lo h2 o2 : Nat) (p p2 : ByteArray) (hl : Gives 35 #[dv dk ds dt, .int .i64 n] (.int .i64 c)) (h1 : decide (c < 0) = false) (hk : (k != dk) = false) (hc : Gives 177 #[kv k l hi lo p, .int .i64 c] (kv k2 l2 (h2 : Int) (o2 : Int) p2)) (w : World) : Calls Tryz.prog 165 #[.agg #[.int .i64 dk, .int .i64 ds, .int .i64 dt], .int .i64 n, .agg #[.int .i64 k, .int .i64 l, .int .u64 (hi : Int), .int .u64 (lo : Int), .string p]] w fun e w' => e = .returned (kv k2 l2 (h2 : Int) (o2 : Int) p2) ∧ Below w.heap.size w w' := by
  have HL := hl
  have HC := hc
  go_enter Tryz.func165, Tryz.ntmps165
  go_wp2_with (first
    | (obtain ⟨v0, hw⟩ : ∃ v0, ((w.alloc (.cells #[.int .i64 dk, .int .i64 ds, .int .i64 dt] 23)).alloc (.cells #[.int .i64 k, .int .i64 l, .int .u64 (hi : Int), .int .u64 (lo : Int), .string p] 31)).alloc (.cells #[.int .i64 0, .int .i64 0, .int .u64 0, .int .u64 0, .string ⟨#[]⟩] 31) = v0 := ⟨_, rfl⟩
       rewrite [hw]
       have hX := Bx.new (Bx.new (Bx.new (Bx.nil w) 23 #[.int .i64 dk, .int .i64 ds, .int .i64 dt]) 31 #[.int .i64 k, .int .i64 l, .int .u64 (hi : Int), .int .u64 (lo : Int), .string p]) 31 #[.int .i64 0, .int .i64 0, .int .u64 0, .int .u64 0, .string ⟨#[]⟩]
       (try simp only [World.size_alloc] at hX)
       rewrite [hw] at hX
       have HX0 : Hid (Bx w v0 [(w.heap.size + 1 + 1, 31, #[.int .i64 0, .int .i64 0, .int .u64 0, .int .u64 0, .string ⟨#[]⟩]), (w.heap.size + 1, 31, #[.int .i64 k, .int .i64 l, .int .u64 (hi : Int), .int .u64 (lo : Int), .string p]), (w.heap.size, 23, #[.int .i64 dk, .int .i64 ds, .int .i64 dt])]) := hX
       clear hw hX
       obtain ⟨r0_0, r0_1, r0_2, r0_3, r0_4⟩ := cells5 HX0.out.1
       obtain ⟨r1_0, r1_1, r1_2, r1_3, r1_4⟩ := cells5 HX0.out.2.1
       obtain ⟨r2_0, r2_1, r2_2⟩ := cells3 HX0.out.2.2.1)
    | (go_at_call 35; (with_reducible refine ((HL) _).mono ?_); rintro e v1 ⟨rfl, hb⟩
       have HX1 := Lib.hid (Bx.next hb HX0.out)
       clear hb r0_0 r0_1 r0_2 r0_3 r0_4 r1_0 r1_1 r1_2 r1_3 r1_4 r2_0 r2_1 r2_2
       obtain ⟨r0_0, r0_1, r0_2, r0_3, r0_4⟩ := cells5 HX1.out.1
       obtain ⟨r1_0, r1_1, r1_2, r1_3, r1_4⟩ := cells5 HX1.out.2.1
       obtain ⟨r2_0, r2_1, r2_2⟩ := cells3 HX1.out.2.2.1)
    | (go_at_call 177; (with_reducible refine ((HC) _).mono ?_); rintro e v2 ⟨rfl, hb⟩
       have HX2 := Lib.hid (Bx.next hb HX1.out)
       clear hb r0_0 r0_1 r0_2 r0_3 r0_4 r1_0 r1_1 r1_2 r1_3 r1_4 r2_0 r2_1 r2_2
       obtain ⟨r0_0, r0_1, r0_2, r0_3, r0_4⟩ := cells5 HX2.out.1
       obtain ⟨r1_0, r1_1, r1_2, r1_3, r1_4⟩ := cells5 HX2.out.2.1
       obtain ⟨r2_0, r2_1, r2_2⟩ := cells3 HX2.out.2.2.1)
    | (refine wpList_store_row rfl 31 _ _ rfl (w.heap.size + 1 + 1) #[.int .i64 k2, .int .i64 l2, .int .u64 (h2 : Int), .int .u64 (o2 : Int), .string p2] rfl rfl 31 #[.int .i64 0, .int .i64 0, .int .u64 0, .int .u64 0, .string ⟨#[]⟩] HX2.out.1 size31 rfl (one5 ..) ?_
       have HB := Lib.hid (Bx.below (Bx.keep (l := []) (w.heap.size + 1 + 1) #[.int .i64 k2, .int .i64 l2, .int .u64 (h2 : Int), .int .u64 (o2 : Int), .string p2] (by omega) HX2.out.below (fun _ hy => by simp at hy)))
       obtain ⟨q0, q1, q2, q3, q4⟩ := cells5 (setRow_heap _ _ #[.int .i64 0, .int .i64 0, .int .u64 0, .int .u64 0, .string ⟨#[]⟩] #[.int .i64 k2, .int .i64 l2, .int .u64 (h2 : Int), .int .u64 (o2 : Int), .string p2] 31 (0, 0) HX2.out.1)
       generalize v2.setRow (w.heap.size + 1 + 1) #[.int .i64 k2, .int .i64 l2, .int .u64 (h2 : Int), .int .u64 (o2 : Int), .string p2] = W1 at *))
  exact bodyPost_ret (v := .agg #[.int .i64 k2, .int .i64 l2, .int .u64 (h2 : Int), .int .u64 (o2 : Int), .string p2]) (by simp [results, Tryz.results165, go_sem, q0, q1, q2, q3, q4]) rfl ⟨rfl, HB.out⟩
/-- A dimension. -/
structure Dm where
  k : Int
  s : Int
  t : Int
abbrev Dm.v (d : Dm) : Value := dv d.k d.s d.t
def Dm.len (d : Dm) (n : Int) : Int := lenI d.k d.s d.t n
def dimCutK (ok : ByteArray → Bool) (len : ByteArray → Int) (top : ByteArray → Int → ByteArray) (d : Dm) (n : Int) (x : Ky) : Ky := if d.len n < 0 ∨ x.k ≠ d.k then ky0 else CutK ok len top x (d.len n)
theorem dimCut_gives {ok : ByteArray → Bool} {len : ByteArray → Int} {top : ByteArray → Int → ByteArray} (L : LabelFns ok len top) (d : Dm) (x : Ky) (hx : x.ok) (n : Int) : Gives 165 #[d.v, .int .i64 n, x.v] (dimCutK ok len top d n x).v := fun w => by
  have hl := len_gives d.k d.s d.t n
  unfold dimCutK
  by_cases h1 : d.len n < 0
  · rw [if_pos (Or.inl h1)]
    exact dimCut_neg d.k d.s d.t n x.k x.l _ x.hi x.lo x.p hl (decide_eq_true h1) w
  · by_cases h2 : x.k = d.k
    · rw [if_neg (by simp [h1, h2])]
      exact dimCut_ok d.k d.s d.t n x.k x.l _ _ _ x.hi x.lo _ _ x.p _ hl (decide_eq_false h1) (by simp [h2]) (Cut_gives L x hx _) w
    · rw [if_pos (Or.inr h2)]
      exact dimCut_kind d.k d.s d.t n x.k x.l _ x.hi x.lo x.p hl (decide_eq_false h1) (by simpa using h2) w
set_option maxRecDepth 100000 in
set_option maxHeartbeats 1000000 in
theorem on_neg (dk ds dt n k l c : Int) (hi lo : Nat) (p : ByteArray) (hl : Gives 35 #[dv dk ds dt, .int .i64 n] (.int .i64 c)) (h1 : decide (c < 0) = true) (w : World) : Calls Tryz.prog 27 #[.agg #[.int .i64 dk, .int .i64 ds, .int .i64 dt], .int .i64 n, .agg #[.int .i64 k, .int .i64 l, .int .u64 (hi : Int), .int .u64 (lo : Int), .string p]] w fun e w' => e = .returned (.bool false) ∧ Below w.heap.size w w' := by
  have HL := hl
  go_enter Tryz.func27, Tryz.ntmps27
  go_wp2_with (first
    | (obtain ⟨v0, hw⟩ : ∃ v0, (w.alloc (.cells #[.int .i64 dk, .int .i64 ds, .int .i64 dt] 23)).alloc (.cells #[.int .i64 k, .int .i64 l, .int .u64 (hi : Int), .int .u64 (lo : Int), .string p] 31) = v0 := ⟨_, rfl⟩
       rewrite [hw]
       have hX := Bx.new (Bx.new (Bx.nil w) 23 #[.int .i64 dk, .int .i64 ds, .int .i64 dt]) 31 #[.int .i64 k, .int .i64 l, .int .u64 (hi : Int), .int .u64 (lo : Int), .string p]
       (try simp only [World.size_alloc] at hX)
       rewrite [hw] at hX
       have HX0 : Hid (Bx w v0 [(w.heap.size + 1, 31, #[.int .i64 k, .int .i64 l, .int .u64 (hi : Int), .int .u64 (lo : Int), .string p]), (w.heap.size, 23, #[.int .i64 dk, .int .i64 ds, .int .i64 dt])]) := hX
       clear hw hX
       obtain ⟨r0_0, r0_1, r0_2, r0_3, r0_4⟩ := cells5 HX0.out.1
       obtain ⟨r1_0, r1_1, r1_2⟩ := cells3 HX0.out.2.1)
    | (go_at_call 35; (with_reducible refine ((HL) _).mono ?_); rintro e v1 ⟨rfl, hb⟩
       have HX1 := Lib.hid (Bx.next hb HX0.out)
       clear hb r0_0 r0_1 r0_2 r0_3 r0_4 r1_0 r1_1 r1_2
       obtain ⟨r0_0, r0_1, r0_2, r0_3, r0_4⟩ := cells5 HX1.out.1
       obtain ⟨r1_0, r1_1, r1_2⟩ := cells3 HX1.out.2.1))
  go_ret
  exact ⟨rfl, Bx.below HX1.out⟩
set_option maxRecDepth 100000 in
set_option maxHeartbeats 1000000 in
theorem on_kind (dk ds dt n k l c : Int) (hi lo : Nat) (p : ByteArray) (hl : Gives 35 #[dv dk ds dt, .int .i64 n] (.int .i64 c)) (h1 : decide (c < 0) = false) (h2 : (k != dk) = true) (w : World) : Calls Tryz.prog 27 #[.agg #[.int .i64 dk, .int .i64 ds, .int .i64 dt], .int .i64 n, .agg #[.int .i64 k, .int .i64 l, .int .u64 (hi : Int), .int .u64 (lo : Int), .string p]] w fun e w' => e = .returned (.bool false) ∧ Below w.heap.size w w' := by
  have HL := hl
  go_enter Tryz.func27, Tryz.ntmps27
  go_wp2_with (first
    | (obtain ⟨v0, hw⟩ : ∃ v0, (w.alloc (.cells #[.int .i64 dk, .int .i64 ds, .int .i64 dt] 23)).alloc (.cells #[.int .i64 k, .int .i64 l, .int .u64 (hi : Int), .int .u64 (lo : Int), .string p] 31) = v0 := ⟨_, rfl⟩
       rewrite [hw]
       have hX := Bx.new (Bx.new (Bx.nil w) 23 #[.int .i64 dk, .int .i64 ds, .int .i64 dt]) 31 #[.int .i64 k, .int .i64 l, .int .u64 (hi : Int), .int .u64 (lo : Int), .string p]
       (try simp only [World.size_alloc] at hX)
       rewrite [hw] at hX
       have HX0 : Hid (Bx w v0 [(w.heap.size + 1, 31, #[.int .i64 k, .int .i64 l, .int .u64 (hi : Int), .int .u64 (lo : Int), .string p]), (w.heap.size, 23, #[.int .i64 dk, .int .i64 ds, .int .i64 dt])]) := hX
       clear hw hX
       obtain ⟨r0_0, r0_1, r0_2, r0_3, r0_4⟩ := cells5 HX0.out.1
       obtain ⟨r1_0, r1_1, r1_2⟩ := cells3 HX0.out.2.1)
    | (go_at_call 35; (with_reducible refine ((HL) _).mono ?_); rintro e v1 ⟨rfl, hb⟩
       have HX1 := Lib.hid (Bx.next hb HX0.out)
       clear hb r0_0 r0_1 r0_2 r0_3 r0_4 r1_0 r1_1 r1_2
       obtain ⟨r0_0, r0_1, r0_2, r0_3, r0_4⟩ := cells5 HX1.out.1
       obtain ⟨r1_0, r1_1, r1_2⟩ := cells3 HX1.out.2.1))
  go_ret
  exact ⟨rfl, Bx.below HX1.out⟩
set_option maxRecDepth 100000 in
set_option maxHeartbeats 1000000 in
theorem on_bad (dk ds dt n k l c : Int) (hi lo : Nat) (p : ByteArray) (hl : Gives 35 #[dv dk ds dt, .int .i64 n] (.int .i64 c)) (h1 : decide (c < 0) = false) (h2 : (k != dk) = false) (hr : Gives 36 #[kv k l hi lo p] (.bool false)) (w : World) : Calls Tryz.prog 27 #[.agg #[.int .i64 dk, .int .i64 ds, .int .i64 dt], .int .i64 n, .agg #[.int .i64 k, .int .i64 l, .int .u64 (hi : Int), .int .u64 (lo : Int), .string p]] w fun e w' => e = .returned (.bool false) ∧ Below w.heap.size w w' := by
  have HL := hl
  have HR := hr
  go_enter Tryz.func27, Tryz.ntmps27
  go_wp2_with (first
    | (obtain ⟨v0, hw⟩ : ∃ v0, (w.alloc (.cells #[.int .i64 dk, .int .i64 ds, .int .i64 dt] 23)).alloc (.cells #[.int .i64 k, .int .i64 l, .int .u64 (hi : Int), .int .u64 (lo : Int), .string p] 31) = v0 := ⟨_, rfl⟩
       rewrite [hw]
       have hX := Bx.new (Bx.new (Bx.nil w) 23 #[.int .i64 dk, .int .i64 ds, .int .i64 dt]) 31 #[.int .i64 k, .int .i64 l, .int .u64 (hi : Int), .int .u64 (lo : Int), .string p]
       (try simp only [World.size_alloc] at hX)
       rewrite [hw] at hX
       have HX0 : Hid (Bx w v0 [(w.heap.size + 1, 31, #[.int .i64 k, .int .i64 l, .int .u64 (hi : Int), .int .u64 (lo : Int), .string p]), (w.heap.size, 23, #[.int .i64 dk, .int .i64 ds, .int .i64 dt])]) := hX
       clear hw hX
       obtain ⟨r0_0, r0_1, r0_2, r0_3, r0_4⟩ := cells5 HX0.out.1
       obtain ⟨r1_0, r1_1, r1_2⟩ := cells3 HX0.out.2.1)
    | (go_at_call 35; (with_reducible refine ((HL) _).mono ?_); rintro e v1 ⟨rfl, hb⟩
       have HX1 := Lib.hid (Bx.next hb HX0.out)
       clear hb r0_0 r0_1 r0_2 r0_3 r0_4 r1_0 r1_1 r1_2
       obtain ⟨r0_0, r0_1, r0_2, r0_3, r0_4⟩ := cells5 HX1.out.1
       obtain ⟨r1_0, r1_1, r1_2⟩ := cells3 HX1.out.2.1)
    | (go_at_call 36; (with_reducible refine ((HR) _).mono ?_); rintro e v2 ⟨rfl, hb⟩
       have HX2 := Lib.hid (Bx.next hb HX1.out)
       clear hb r0_0 r0_1 r0_2 r0_3 r0_4 r1_0 r1_1 r1_2
       obtain ⟨r0_0, r0_1, r0_2, r0_3, r0_4⟩ := cells5 HX2.out.1
       obtain ⟨r1_0, r1_1, r1_2⟩ := cells3 HX2.out.2.1))
  go_ret
  exact ⟨rfl, Bx.below HX2.out⟩
set_option maxRecDepth 100000 in
set_option maxHeartbeats 1000000 in
theorem on_same (dk ds dt n k c : Int) (hi lo : Nat) (p : ByteArray) (hl : Gives 35 #[dv dk ds dt, .int .i64 n] (.int .i64 c)) (h1 : decide (c < 0) = false) (h2 : (k != dk) = false) (hr : Gives 36 #[kv k c hi lo p] (.bool true)) (w : World) : Calls Tryz.prog 27 #[.agg #[.int .i64 dk, .int .i64 ds, .int .i64 dt], .int .i64 n, .agg #[.int .i64 k, .int .i64 c, .int .u64 (hi : Int), .int .u64 (lo : Int), .string p]] w fun e w' => e = .returned (.bool true) ∧ Below w.heap.size w w' := by
  have HL := hl
  have HR := hr
  go_enter Tryz.func27, Tryz.ntmps27
  go_upto_region 4 with (first
    | (obtain ⟨v0, hw⟩ : ∃ v0, (w.alloc (.cells #[.int .i64 dk, .int .i64 ds, .int .i64 dt] 23)).alloc (.cells #[.int .i64 k, .int .i64 c, .int .u64 (hi : Int), .int .u64 (lo : Int), .string p] 31) = v0 := ⟨_, rfl⟩
       rewrite [hw]
       have hX := Bx.new (Bx.new (Bx.nil w) 23 #[.int .i64 dk, .int .i64 ds, .int .i64 dt]) 31 #[.int .i64 k, .int .i64 c, .int .u64 (hi : Int), .int .u64 (lo : Int), .string p]
       (try simp only [World.size_alloc] at hX)
       rewrite [hw] at hX
       have HX0 : Hid (Bx w v0 [(w.heap.size + 1, 31, #[.int .i64 k, .int .i64 c, .int .u64 (hi : Int), .int .u64 (lo : Int), .string p]), (w.heap.size, 23, #[.int .i64 dk, .int .i64 ds, .int .i64 dt])]) := hX
       clear hw hX
       obtain ⟨r0_0, r0_1, r0_2, r0_3, r0_4⟩ := cells5 HX0.out.1
       obtain ⟨r1_0, r1_1, r1_2⟩ := cells3 HX0.out.2.1)
    | (go_at_call 35; (with_reducible refine ((HL) _).mono ?_); rintro e v1 ⟨rfl, hb⟩
       have HX1 := Lib.hid (Bx.next hb HX0.out)
       clear hb r0_0 r0_1 r0_2 r0_3 r0_4 r1_0 r1_1 r1_2
       obtain ⟨r0_0, r0_1, r0_2, r0_3, r0_4⟩ := cells5 HX1.out.1
       obtain ⟨r1_0, r1_1, r1_2⟩ := cells3 HX1.out.2.1)
    | (go_at_call 36; (with_reducible refine ((HR) _).mono ?_); rintro e v2 ⟨rfl, hb⟩
       have HX2 := Lib.hid (Bx.next hb HX1.out)
       clear hb r0_0 r0_1 r0_2 r0_3 r0_4 r1_0 r1_1 r1_2
       obtain ⟨r0_0, r0_1, r0_2, r0_3, r0_4⟩ := cells5 HX2.out.1
       obtain ⟨r1_0, r1_1, r1_2⟩ := cells3 HX2.out.2.1))
  clear hl hr
  go_wp2_with fail
  go_ret
  exact ⟨rfl, Bx.below HX2.out⟩
set_option maxRecDepth 100000 in
set_option maxHeartbeats 1000000 in
theorem on_other (dk ds dt n k l c : Int) (hi lo : Nat) (p : ByteArray) (hl : Gives 35 #[dv dk ds dt, .int .i64 n] (.int .i64 c)) (h1 : decide (c < 0) = false) (h2 : (k != dk) = false) (hr : Gives 36 #[kv k l hi lo p] (.bool true)) (h3 : (l == c) = false) (h4 : (k == 3) = false) (w : World) : Calls Tryz.prog 27 #[.agg #[.int .i64 dk, .int .i64 ds, .int .i64 dt], .int .i64 n, .agg #[.int .i64 k, .int .i64 l, .int .u64 (hi : Int), .int .u64 (lo : Int), .string p]] w fun e w' => e = .returned (.bool false) ∧ Below w.heap.size w w' := by
  have HL := hl
  have HR := hr
  go_enter Tryz.func27, Tryz.ntmps27
  go_wp2_with (first
    | (obtain ⟨v0, hw⟩ : ∃ v0, (w.alloc (.cells #[.int .i64 dk, .int .i64 ds, .int .i64 dt] 23)).alloc (.cells #[.int .i64 k, .int .i64 l, .int .u64 (hi : Int), .int .u64 (lo : Int), .string p] 31) = v0 := ⟨_, rfl⟩
       rewrite [hw]
       have hX := Bx.new (Bx.new (Bx.nil w) 23 #[.int .i64 dk, .int .i64 ds, .int .i64 dt]) 31 #[.int .i64 k, .int .i64 l, .int .u64 (hi : Int), .int .u64 (lo : Int), .string p]
       (try simp only [World.size_alloc] at hX)
       rewrite [hw] at hX
       have HX0 : Hid (Bx w v0 [(w.heap.size + 1, 31, #[.int .i64 k, .int .i64 l, .int .u64 (hi : Int), .int .u64 (lo : Int), .string p]), (w.heap.size, 23, #[.int .i64 dk, .int .i64 ds, .int .i64 dt])]) := hX
       clear hw hX
       obtain ⟨r0_0, r0_1, r0_2, r0_3, r0_4⟩ := cells5 HX0.out.1
       obtain ⟨r1_0, r1_1, r1_2⟩ := cells3 HX0.out.2.1)
    | (go_at_call 35; (with_reducible refine ((HL) _).mono ?_); rintro e v1 ⟨rfl, hb⟩
       have HX1 := Lib.hid (Bx.next hb HX0.out)
       clear hb r0_0 r0_1 r0_2 r0_3 r0_4 r1_0 r1_1 r1_2
       obtain ⟨r0_0, r0_1, r0_2, r0_3, r0_4⟩ := cells5 HX1.out.1
       obtain ⟨r1_0, r1_1, r1_2⟩ := cells3 HX1.out.2.1)
    | (go_at_call 36; (with_reducible refine ((HR) _).mono ?_); rintro e v2 ⟨rfl, hb⟩
       have HX2 := Lib.hid (Bx.next hb HX1.out)
       clear hb r0_0 r0_1 r0_2 r0_3 r0_4 r1_0 r1_1 r1_2
       obtain ⟨r0_0, r0_1, r0_2, r0_3, r0_4⟩ := cells5 HX2.out.1
       obtain ⟨r1_0, r1_1, r1_2⟩ := cells3 HX2.out.2.1))
  go_ret
  exact ⟨rfl, Bx.below HX2.out⟩
set_option maxRecDepth 100000 in
set_option maxHeartbeats 1000000 in
theorem on_path (dk ds dt n k l c : Int) (hi lo : Nat) (p : ByteArray) (hl : Gives 35 #[dv dk ds dt, .int .i64 n] (.int .i64 c)) (h1 : decide (c < 0) = false) (h2 : (k != dk) = false) (hr : Gives 36 #[kv k l hi lo p] (.bool true)) (h3 : (l == c) = false) (h4 : (k == 3) = true) (w : World) : Calls Tryz.prog 27 #[.agg #[.int .i64 dk, .int .i64 ds, .int .i64 dt], .int .i64 n, .agg #[.int .i64 k, .int .i64 l, .int .u64 (hi : Int), .int .u64 (lo : Int), .string p]] w fun e w' => e = .returned (.bool (decide (l < c))) ∧ Below w.heap.size w w' := by
  have HL := hl
  have HR := hr
  go_enter Tryz.func27, Tryz.ntmps27
  go_wp2_with (first
    | (obtain ⟨v0, hw⟩ : ∃ v0, (w.alloc (.cells #[.int .i64 dk, .int .i64 ds, .int .i64 dt] 23)).alloc (.cells #[.int .i64 k, .int .i64 l, .int .u64 (hi : Int), .int .u64 (lo : Int), .string p] 31) = v0 := ⟨_, rfl⟩
       rewrite [hw]
       have hX := Bx.new (Bx.new (Bx.nil w) 23 #[.int .i64 dk, .int .i64 ds, .int .i64 dt]) 31 #[.int .i64 k, .int .i64 l, .int .u64 (hi : Int), .int .u64 (lo : Int), .string p]
       (try simp only [World.size_alloc] at hX)
       rewrite [hw] at hX
       have HX0 : Hid (Bx w v0 [(w.heap.size + 1, 31, #[.int .i64 k, .int .i64 l, .int .u64 (hi : Int), .int .u64 (lo : Int), .string p]), (w.heap.size, 23, #[.int .i64 dk, .int .i64 ds, .int .i64 dt])]) := hX
       clear hw hX
       obtain ⟨r0_0, r0_1, r0_2, r0_3, r0_4⟩ := cells5 HX0.out.1
       obtain ⟨r1_0, r1_1, r1_2⟩ := cells3 HX0.out.2.1)
    | (go_at_call 35; (with_reducible refine ((HL) _).mono ?_); rintro e v1 ⟨rfl, hb⟩
       have HX1 := Lib.hid (Bx.next hb HX0.out)
       clear hb r0_0 r0_1 r0_2 r0_3 r0_4 r1_0 r1_1 r1_2
       obtain ⟨r0_0, r0_1, r0_2, r0_3, r0_4⟩ := cells5 HX1.out.1
       obtain ⟨r1_0, r1_1, r1_2⟩ := cells3 HX1.out.2.1)
    | (go_at_call 36; (with_reducible refine ((HR) _).mono ?_); rintro e v2 ⟨rfl, hb⟩
       have HX2 := Lib.hid (Bx.next hb HX1.out)
       clear hb r0_0 r0_1 r0_2 r0_3 r0_4 r1_0 r1_1 r1_2
       obtain ⟨r0_0, r0_1, r0_2, r0_3, r0_4⟩ := cells5 HX2.out.1
       obtain ⟨r1_0, r1_1, r1_2⟩ := cells3 HX2.out.2.1))
  go_ret
  exact ⟨rfl, Bx.below HX2.out⟩
def onB (ok : ByteArray → Bool) (len : ByteArray → Int) (d : Dm) (n : Int) (x : Ky) : Bool :=
  !decide (d.len n < 0) && (x.k == d.k) && keyR ok len x.k x.l x.hi x.lo x.p && ((x.l == d.len n) || ((x.k == 3) && decide (x.l < d.len n)))
theorem on_gives {ok : ByteArray → Bool} {len : ByteArray → Int} {top : ByteArray → Int → ByteArray} (L : LabelFns ok len top) (d : Dm) (x : Ky) (hx : x.ok) (n : Int) : Gives 27 #[d.v, .int .i64 n, x.v] (.bool (onB ok len d n x)) := fun w => by
  have hl := len_gives d.k d.s d.t n
  have hr := keyRight_gives L x.k x.l x.hi x.lo x.p hx.1 hx.2.1 hx.2.2
  unfold onB
  cases h1 : decide (d.len n < 0)
  · cases h2 : (x.k == d.k)
    · exact on_kind d.k d.s d.t n x.k x.l _ x.hi x.lo x.p hl h1 (by simpa using h2) w
    · cases h : keyR ok len x.k x.l x.hi x.lo x.p
      · rw [h] at hr
        exact on_bad d.k d.s d.t n x.k x.l _ x.hi x.lo x.p hl h1 (by simpa using h2) hr w
      · rw [h] at hr
        cases h3 : (x.l == d.len n)
        · cases h4 : (x.k == 3)
          · exact on_other d.k d.s d.t n x.k x.l _ x.hi x.lo x.p hl h1 (by simpa using h2) hr h3 h4 w
          · simp only [Bool.not_false, Bool.true_and, Bool.false_or]
            exact on_path d.k d.s d.t n x.k x.l _ x.hi x.lo x.p hl h1 (by simpa using h2) hr h3 h4 w
        · obtain ⟨xk, xl, xhi, xlo, xp⟩ := x
          have h3' : xl = d.len n := by simpa using h3
          subst h3'
          exact on_same d.k d.s d.t n xk _ xhi xlo xp hl h1 (by simpa using h2) hr w
  · exact on_neg d.k d.s d.t n x.k x.l _ x.hi x.lo x.p hl h1 w

end Go.Proofs.YtcbahkfbdlhabaaGreatDoor
