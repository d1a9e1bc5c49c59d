/- A part of the proof that the law TopThree returns true for all arguments of bulk at most 1048576 (no other condition). Here: The trie's readers. -/
import Derived.Test.YtcbahkfbdlhabaaGreatDoorK13
namespace Go.Proofs.YtcbahkfbdlhabaaGreatDoor
set_option linter.unusedVariables false
set_option linter.unusedSimpArgs false
open Go.RowKit
attribute [local go_sem] index24_0 index24_1 field34_0 field34_1
attribute [local irreducible] wpList Code.wp wpB

/-- A prefix of the space; one over another. -/
def RB (s : Sp) (p : Px) : Bool := rightB okL lenL s p
def OB (s : Sp) (p q : Px) : Bool := overB okL lenL topT s p q
def allP (s : Sp) (p : Px) : List Px := allD okL lenL topT s p
theorem rb_gives (s : Sp) (p : Px) (hp : p.ok) : Gives 17 #[s.v, p.v] (.bool (RB s p)) := right_gives labelFns s p hp
theorem ob_gives (s : Sp) (p q : Px) (hp : p.ok) (hq : q.ok) : Gives 136 #[s.v, p.v, q.v] (.bool (OB s p q)) := over_gives labelFns s p q hp hq
theorem allP_gives (s : Sp) (p : Px) (hp : p.ok) : GivesS 148 #[s.v, p.v] 34 12 (allP s p).length (prow (allP s p)) := all_gives labelFns s p hp
theorem selT_le (p : Px) (f0 f1 : Nat → Ky) (l : List (Int × Int × Int)) : (selT p f0 f1 l).length ≤ l.length := by
  unfold selT
  rw [List.length_map]
  exact List.length_filter_le _ _
theorem allP_le (s : Sp) (p : Px) : (allP s p).length ≤ 33153 := by
  unfold allP allD
  split
  · refine Nat.le_trans (selT_le _ _ _ _) ?_
    obtain ⟨⟨b0, c0⟩, ⟨b1, c1⟩⟩ := top_bounds s
    refine Nat.le_trans (wUp_le c0 _) ?_
    omega
  · exact Nat.zero_le _
/-- What only reads leaves all that was there. -/
theorem Hp.back {w W : World} {l r : List En} (HH : Hp w W (l ++ r)) (h : ∀ e ∈ r, w.heap[e.b]? = some e.o) (ho : l.all (·.own) = true) : Below w.heap.size w W := (HH.sames h).below ho
def seenOf (W : World) (r : Nat) : Array Nat := match W.heap[r]? with
  | some (.mapIter _ _ seen _) => seen
  | _ => #[]
theorem seenOf_at {W : World} {r : Nat} {b : Option Nat} {c d : Nat} {seen : Array Nat} (h : W.heap[r]? = some (.mapIter b c seen d)) : seenOf W r = seen := by
  unfold seenOf
  rw [h]

set_option maxRecDepth 100000 in
set_option maxHeartbeats 4000000 in
theorem tmade (w : World) {T n sl bm : Nat} {s : Sp} {full : Bool} (hT : w.heap[T]? = some (.cells #[.int .i64 s.n, .int .i64 s.d0.k, .int .i64 s.d0.s, .int .i64 s.d0.t, .int .i64 s.d1.k, .int .i64 s.d1.s, .int .i64 s.d1.t, .bool full, .int .u64 (n : Int), .int .u64 (sl : Int), .map (some bm)] 92 (0, 0))) : Calls Tryz.prog 129 #[.pointer (some ⟨T, 0, none⟩)] w fun e w' => e = .returned (.bool true) ∧ Below w.heap.size w w' := by
  have HH : Hp w w [⟨T, .cells #[.int .i64 s.n, .int .i64 s.d0.k, .int .i64 s.d0.s, .int .i64 s.d0.t, .int .i64 s.d1.k, .int .i64 s.d1.s, .int .i64 s.d1.t, .bool full, .int .u64 (n : Int), .int .u64 (sl : Int), .map (some bm)] 92 (0, 0), false⟩] := Hp.start ⟨hT, trivial⟩ (by simp) rfl
  have hTL := Lib.hid hT
  clear hT
  go_enter Tryz.func129, Tryz.ntmps129
  go_wp2_with (first | ((with_reducible show zY (Op.binOp BinOp.neq 90 _ _ _)); refine wpl_valu (by simp only [Region.wanted, yielded, zy, Option.bind_some]; decide) (run_neq90 rfl rfl rfl _) ?_; (try simp only [Act.put, zz])) | ((with_reducible show zX (Op.binOp _ _ _ _ _)); (refine wpl_cmp (p := ?_) rfl rfl rfl ?_ ?_ ?_; rotate_left; (focus (go_simp; with_reducible rfl)); all_goals (intro hq; (try (contradiction)); (try simp only [zw] at hq); (try simp only [Act.put, zz])))) | ((with_reducible show zY (Op.load _ _)); (refine wpl_load HH 0 rfl rfl rfl (by simp only [Region.wanted, yielded, zy, Option.bind_some]; decide) rfl ?_; (try simp only [Act.put, zz]))))
  all_goals (go_ret; refine ⟨?_, Hp.back (l := []) (r := [_]) HH (by intro e he; simp only [List.mem_singleton] at he; subst he; exact hTL.out) rfl⟩; (rfl))

set_option maxRecDepth 100000 in
set_option maxHeartbeats 4000000 in
theorem isLeaf_walk (w : World) {T n sl bm : Nat} {s : Sp} {full : Bool} (hT : w.heap[T]? = some (.cells #[.int .i64 s.n, .int .i64 s.d0.k, .int .i64 s.d0.s, .int .i64 s.d0.t, .int .i64 s.d1.k, .int .i64 s.d1.s, .int .i64 s.d1.t, .bool full, .int .u64 (n : Int), .int .u64 (sl : Int), .map (some bm)] 92 (0, 0))) (p : Px) (hr : Gives 17 #[s.v, p.v] (.bool (RB s p))) : Calls Tryz.prog 130 #[.pointer (some ⟨T, 0, none⟩), p.v] w fun e w' => e = .returned (.bool (RB s p && decide (p.a0 = 0))) ∧ Below w.heap.size w w' := by
  have HH : Hp w w [⟨T, .cells #[.int .i64 s.n, .int .i64 s.d0.k, .int .i64 s.d0.s, .int .i64 s.d0.t, .int .i64 s.d1.k, .int .i64 s.d1.s, .int .i64 s.d1.t, .bool full, .int .u64 (n : Int), .int .u64 (sl : Int), .map (some bm)] 92 (0, 0), false⟩] := Hp.start ⟨hT, trivial⟩ (by simp) rfl
  have hTL := Lib.hid hT
  clear hT
  have HR := hr
  clear hr
  generalize RB s p = rb at *
  cases rb
  all_goals
    go_enter Tryz.func130, Tryz.ntmps130
    go_wp2_with (first | ((with_reducible show zW (Op.box _ _)); refine wpl_box HH rfl rfl rfl ?_; clear HH; intro b V HH; simp only [Act.eval, zx, Value.cells, putl, zC, zB] at HH; (try simp only [Act.put, zz])) | ((with_reducible show Code.wp _ (Code.region _ _ true) _ _ _); (refine wp_tail_Hp (id := 1) [0, 1, 2, 3, 4, 5, 6, 7, 8, 9, 10, 11, 12] [] (by kernel_rfl) HH ?_; clear HH; (try dsimp only); (try simp only [pick, zy]); repeat' (first | ((with_reducible show wpB _ _ _ _ [] _); refine wpB_nil ?_; intro V HH; (try simp only [pick, zy]); (try simp only [Act.put, zz]); (try simp only [Value.cells] at HH)) | ((first | ((with_reducible show zU _); (first | ((with_reducible show zT (Op.move _)); refine wpB_move rfl rfl rfl ?_) | ((with_reducible show zT (Op.assign _)); refine wpB_assign rfl rfl rfl ?_) | ((with_reducible show zT (Op.load _ _)); (first | refine wpB_load 0 rfl rfl rfl rfl rfl ?_ | refine wpB_load 1 rfl rfl rfl rfl rfl ?_)) | ((with_reducible show zT (Op.call _)); (refine wpB_callE (f := ?_) (args := ?_) (v := ?_) rfl ?_ ?_ ?_; rotate_left 3; (focus (intro w9 hS9; go_simp; (refine ⟨?_, ?_⟩ <;> with_reducible rfl))); (focus (with_reducible exact (HR))))) | ((with_reducible show zT (Op.pick _ _ _)); (refine wpB_bool (p := ?_) rfl ?_ ?_ ?_; rotate_left; (focus (intro w9 hS9; go_simp; with_reducible rfl)); all_goals (intro hq; (try (contradiction))))) | (refine wpB_val (v := ?_) rfl ?_ ?_; rotate_left; (focus (intro w9 hS9; go_simp; all_goals (with_reducible rfl)))))) | ((with_reducible show zV _); (first | (refine wpB_skip (by simp only [Region.wanted, yielded, zy, Option.bind_some]; decide) ?_) | ((with_reducible show zT (Op.load _ _)); (refine wpB_load 0 rfl rfl rfl (by simp only [Region.wanted, yielded, zy, Option.bind_some]; decide) rfl ?_)) | ((with_reducible show zT (Op.binOp _ _ _ _ _)); (refine wpB_bool (p := ?_) (by simp only [Region.wanted, yielded, zy, Option.bind_some]; decide) ?_ ?_ ?_; rotate_left; (focus (intro w9 hS9; go_simp; with_reducible rfl)); all_goals (intro hq; (try (fail))))) | (refine wpB_val (v := ?_) (by simp only [Region.wanted, yielded, zy, Option.bind_some]; decide) ?_ ?_; rotate_left; (focus (intro w9 hS9; go_simp; all_goals (with_reducible rfl))))))); all_goals (try simp only [Act.put, zz, Act.eval, zx]))))))
  all_goals (go_ret; refine ⟨?_, Hp.back (l := [_]) (r := [_]) HH (by intro e he; simp only [List.mem_singleton] at he; subst he; exact hTL.out) rfl⟩; (first | rfl | (clear HH; simp_all)))

set_option maxRecDepth 100000 in
set_option maxHeartbeats 4000000 in
theorem tlen_walk (w : World) {T n sl bm : Nat} {s : Sp} {full : Bool} (hT : w.heap[T]? = some (.cells #[.int .i64 s.n, .int .i64 s.d0.k, .int .i64 s.d0.s, .int .i64 s.d0.t, .int .i64 s.d1.k, .int .i64 s.d1.s, .int .i64 s.d1.t, .bool full, .int .u64 (n : Int), .int .u64 (sl : Int), .map (some bm)] 92 (0, 0))) {mm : List (Me (Nat × Nat))} {c : Nat} (hM : w.heap[bm]? = some (mp encG mm c)) : Calls Tryz.prog 125 #[.pointer (some ⟨T, 0, none⟩)] w fun e w' => e = .returned (.int .i64 (mm.length : Int)) ∧ Below w.heap.size w w' := by
  have hne : T ≠ bm := by
    rintro rfl
    rw [hT] at hM
    cases hM
  have HH : Hp w w [⟨T, .cells #[.int .i64 s.n, .int .i64 s.d0.k, .int .i64 s.d0.s, .int .i64 s.d0.t, .int .i64 s.d1.k, .int .i64 s.d1.s, .int .i64 s.d1.t, .bool full, .int .u64 (n : Int), .int .u64 (sl : Int), .map (some bm)] 92 (0, 0), false⟩, ⟨bm, mp encG mm c, false⟩] := Hp.start ⟨hT, hM, trivial⟩ (by simp [hne]) rfl
  have hTL := Lib.hid hT
  clear hT
  have hML := Lib.hid hM
  clear hM
  go_enter Tryz.func125, Tryz.ntmps125
  go_wp2_with (first | (go_at_call 129; (refine (tmade _ (HH.get 0 rfl)).mono ?_); rintro e V ⟨rfl, hb⟩; replace HH := HH.next hb; clear hb) | ((with_reducible show zW (Op.call _)); (refine wpl_mlen HH 1 rfl rfl rfl rfl ?_); (try simp only [Act.put, zz])) | ((with_reducible show zX (Op.load _ _)); (refine wpl_load HH 0 rfl rfl rfl rfl rfl ?_; (try simp only [Act.put, zz]))))
  all_goals (go_ret; refine ⟨?_, Hp.back (l := []) (r := [_, _]) HH (by intro e he; simp only [List.mem_cons, List.not_mem_nil, or_false] at he; rcases he with rfl | rfl; exact hTL.out; exact hML.out) rfl⟩; (rfl))

/-- What a prefix weighs at least. -/
def lowD (s : Sp) (p : Px) : List (Me (Nat × Nat)) → Nat
  | [] => 0
  | x :: r => (if OB s p x.p then x.v.1 else 0) + lowD s p r
theorem lowD_app (s : Sp) (p : Px) : ∀ a b, lowD s p (a ++ b) = lowD s p a + lowD s p b
  | [], b => by simp [lowD]
  | x :: r, b => by
    show _ + lowD s p (r ++ b) = _ + lowD s p r + _
    rw [lowD_app s p r b]
    omega

set_option maxRecDepth 100000 in
set_option maxHeartbeats 4000000 in
theorem low_walk (w : World) {T n sl bm : Nat} {s : Sp} {full : Bool} (hT : w.heap[T]? = some (.cells #[.int .i64 s.n, .int .i64 s.d0.k, .int .i64 s.d0.s, .int .i64 s.d0.t, .int .i64 s.d1.k, .int .i64 s.d1.s, .int .i64 s.d1.t, .bool full, .int .u64 (n : Int), .int .u64 (sl : Int), .map (some bm)] 92 (0, 0))) {mm : List (Me (Nat × Nat))} {c : Nat} (hM : w.heap[bm]? = some (mp encG mm c)) (hk : MOk mm c) (p : Px) (hp : p.ok) (hmo : ∀ x ∈ mm, x.p.ok) (hb : lowD s p mm < 4611686018427387905) : Calls Tryz.prog 128 #[.pointer (some ⟨T, 0, none⟩), p.v] w fun e w' => e = .returned (.int .u64 ((if RB s p then lowD s p mm else 0 : Nat) : Int)) ∧ Below w.heap.size w w' := by
  have hne : T ≠ bm := by
    rintro rfl
    rw [hT] at hM
    cases hM
  have HH : Hp w w [⟨T, .cells #[.int .i64 s.n, .int .i64 s.d0.k, .int .i64 s.d0.s, .int .i64 s.d0.t, .int .i64 s.d1.k, .int .i64 s.d1.s, .int .i64 s.d1.t, .bool full, .int .u64 (n : Int), .int .u64 (sl : Int), .map (some bm)] 92 (0, 0), false⟩, ⟨bm, mp encG mm c, false⟩] := Hp.start ⟨hT, hM, trivial⟩ (by simp [hne]) rfl
  have hTL := Lib.hid hT
  clear hT
  have hML := Lib.hid hM
  clear hM
  have HR := rb_gives s p hp
  have HO : ∀ x ∈ mm, Gives 136 #[s.v, p.v, x.p.v] (.bool (OB s p x.p)) := fun x hx => ob_gives s p x.p hp (hmo x hx)
  generalize RB s p = rb at *
  cases rb
  · go_enter Tryz.func128, Tryz.ntmps128
    go_wp2_with (first | ((with_reducible show zW (Op.box _ _)); refine wpl_box HH rfl rfl rfl ?_; clear HH; intro b V HH; simp only [Act.eval, zx, Value.cells, putl, zC, zB] at HH; (try simp only [Act.put, zz])) | ((with_reducible show Code.wp _ (Code.region _ _ true) _ _ _); (refine wp_tail_Hp (id := 1) [0, 1, 2, 3, 4, 5, 6, 7, 8, 9, 10, 11] [] (by kernel_rfl) HH ?_; clear HH; (try dsimp only); (try simp only [pick, zy]); repeat' (first | ((with_reducible show wpB _ _ _ _ [] _); refine wpB_nil ?_; intro V HH; (try simp only [pick, zy]); (try simp only [Act.put, zz]); (try simp only [Value.cells] at HH)) | ((first | ((with_reducible show zU _); (first | ((with_reducible show zT (Op.move _)); refine wpB_move rfl rfl rfl ?_) | ((with_reducible show zT (Op.call _)); refine wpB_callH (f := 129) (args := #[.pointer (some ⟨T, 0, none⟩)]) (v := .bool true) rfl (fun V hV => tmade V (Hp.get hV 1 rfl)) (fun w9 hS9 => ?_) ?_; (focus (go_simp; all_goals (fail)))) | ((with_reducible show zT (Op.unOp _ _ _)); (refine wpB_bool (p := ?_) rfl ?_ ?_ ?_; rotate_left; (focus (intro w9 hS9; go_simp; with_reducible rfl)); all_goals (intro hq; (try (contradiction))))) | ((with_reducible show zT (Op.pick _ _ _)); (refine wpB_bool (p := ?_) rfl ?_ ?_ ?_; rotate_left; (focus (intro w9 hS9; go_simp; with_reducible rfl)); all_goals (intro hq; (try (contradiction))))))) | ((with_reducible show zV _); (first | ((with_reducible show zT (Op.move _)); refine wpB_move rfl (by simp only [Region.wanted, yielded, zy, Option.bind_some]; decide) rfl ?_) | ((with_reducible show zT (Op.load _ _)); (first | refine wpB_load 0 rfl rfl rfl (by simp only [Region.wanted, yielded, zy, Option.bind_some]; decide) rfl ?_ | refine wpB_load 1 rfl rfl rfl (by simp only [Region.wanted, yielded, zy, Option.bind_some]; decide) rfl ?_)) | ((with_reducible show zT (Op.call _)); (refine wpB_callE (f := ?_) (args := ?_) (v := ?_) (by simp only [Region.wanted, yielded, zy, Option.bind_some]; decide) ?_ ?_ ?_; rotate_left 3; (focus (intro w9 hS9; go_simp; (refine ⟨?_, ?_⟩ <;> with_reducible rfl))); (focus (with_reducible exact (HR))))) | ((with_reducible show zT (Op.unOp _ _ _)); (refine wpB_bool (p := ?_) (by simp only [Region.wanted, yielded, zy, Option.bind_some]; decide) ?_ ?_ ?_; rotate_left; (focus (intro w9 hS9; go_simp; with_reducible rfl)); all_goals (intro hq; (try (contradiction))))) | (refine wpB_val (v := ?_) (by simp only [Region.wanted, yielded, zy, Option.bind_some]; decide) ?_ ?_; rotate_left; (focus (intro w9 hS9; go_simp; all_goals (with_reducible rfl))))))); all_goals (try simp only [Act.put, zz, Act.eval, zx]))))))
    go_ret; refine ⟨?_, Hp.back (l := [_]) (r := [_, _]) HH (by intro e he; simp only [List.mem_cons, List.not_mem_nil, or_false] at he; rcases he with rfl | rfl; exact hTL.out; exact hML.out) rfl⟩; (rfl)
  · go_enter Tryz.func128, Tryz.ntmps128
    go_wp2_with (first | ((with_reducible show zW (Op.range _ _)); first | (refine wpl_range HH 2 rfl rfl rfl rfl ?_; clear HH; intro ri V HH; (try simp only [Act.put, zz])) | (refine wpl_range HH 1 rfl rfl rfl rfl ?_; clear HH; intro ri V HH; (try simp only [Act.put, zz]))) | ((with_reducible show zX (Op.load _ _)); (refine wpl_load HH 1 rfl rfl rfl rfl rfl ?_; (try simp only [Act.put, zz]))) | ((with_reducible show zW (Op.box _ _)); refine wpl_box HH rfl rfl rfl ?_; clear HH; intro b V HH; simp only [Act.eval, zx, Value.cells, putl, zC, zB] at HH; (try simp only [Act.put, zz])) | ((with_reducible show Code.wp _ (Code.region _ _ true) _ _ _); (refine wp_tail_Hp (id := 1) [0, 1, 2, 3, 4, 5, 6, 7, 8, 9, 10, 11] [] (by kernel_rfl) HH ?_; clear HH; (try dsimp only); (try simp only [pick, zy]); repeat' (first | ((with_reducible show wpB _ _ _ _ [] _); refine wpB_nil ?_; intro V HH; (try simp only [pick, zy]); (try simp only [Act.put, zz]); (try simp only [Value.cells] at HH)) | ((first | ((with_reducible show zU _); (first | ((with_reducible show zT (Op.move _)); refine wpB_move rfl rfl rfl ?_) | ((with_reducible show zT (Op.call _)); refine wpB_callH (f := 129) (args := #[.pointer (some ⟨T, 0, none⟩)]) (v := .bool true) rfl (fun V hV => tmade V (Hp.get hV 1 rfl)) (fun w9 hS9 => ?_) ?_; (focus (go_simp; all_goals (fail)))) | ((with_reducible show zT (Op.unOp _ _ _)); (refine wpB_bool (p := ?_) rfl ?_ ?_ ?_; rotate_left; (focus (intro w9 hS9; go_simp; with_reducible rfl)); all_goals (intro hq; (try (contradiction))))) | ((with_reducible show zT (Op.pick _ _ _)); (refine wpB_bool (p := ?_) rfl ?_ ?_ ?_; rotate_left; (focus (intro w9 hS9; go_simp; with_reducible rfl)); all_goals (intro hq; (try (contradiction))))))) | ((with_reducible show zV _); (first | ((with_reducible show zT (Op.move _)); refine wpB_move rfl (by simp only [Region.wanted, yielded, zy, Option.bind_some]; decide) rfl ?_) | ((with_reducible show zT (Op.load _ _)); (first | refine wpB_load 0 rfl rfl rfl (by simp only [Region.wanted, yielded, zy, Option.bind_some]; decide) rfl ?_ | refine wpB_load 1 rfl rfl rfl (by simp only [Region.wanted, yielded, zy, Option.bind_some]; decide) rfl ?_)) | ((with_reducible show zT (Op.call _)); (refine wpB_callE (f := ?_) (args := ?_) (v := ?_) (by simp only [Region.wanted, yielded, zy, Option.bind_some]; decide) ?_ ?_ ?_; rotate_left 3; (focus (intro w9 hS9; go_simp; (refine ⟨?_, ?_⟩ <;> with_reducible rfl))); (focus (with_reducible exact (HR))))) | ((with_reducible show zT (Op.unOp _ _ _)); (refine wpB_bool (p := ?_) (by simp only [Region.wanted, yielded, zy, Option.bind_some]; decide) ?_ ?_ ?_; rotate_left; (focus (intro w9 hS9; go_simp; with_reducible rfl)); all_goals (intro hq; (try (contradiction))))) | (refine wpB_val (v := ?_) (by simp only [Region.wanted, yielded, zy, Option.bind_some]; decide) ?_ ?_; rotate_left; (focus (intro w9 hS9; go_simp; all_goals (with_reducible rfl))))))); all_goals (try simp only [Act.put, zz, Act.eval, zx]))))))
    go_loopw [5] (fun v wr => ∃ (seen : Array Nat) (a : Nat), v = .int .u64 a ∧ a + lowD s p (mleft mm seen) = lowD s p mm ∧ Hp w wr (⟨ri, .mapIter (some bm) c seen c, true⟩ :: (Hp.lst HH).tail)) (fun _ wr => (mleft mm (seenOf wr ri)).length)
    case atStart => exact ⟨#[], 0, rfl, by rw [mleft_all]; omega, HH⟩
    case round =>
      obtain ⟨seen, a, rfl, hsum, HR2⟩ := hrel
      dsimp only [Hp.lst, List.tail] at HR2
      have hms : (mleft mm (seenOf wr ri)).length = (mleft mm seen).length := by rw [seenOf_at (HR2.get 0 rfl)]
      have HMS := Lib.hid hms
      clear hms
      have HH := HR2
      clear HR2
      go_wp2_with (first | ((with_reducible show zW (Op.next _ _)); refine wpl_next HH 0 3 hk rfl rfl rfl rfl rfl rfl ?_ ?_; intro hz; (try simp only [Act.put, zz]); rotate_left; intro e l1 l2 V hem e1 e2 HH2; clear HH; have HH := HH2; clear HH2; (try simp only [zC, zB] at HH); (try simp only [Act.put, zz]); cases hob : OB s p e.p <;> (have HOE := HO e hem; rw [hob] at HOE)) | ((with_reducible show zW (Op.entry _)); (refine wpl_entry HH 0 3 e hk hem rfl rfl rfl rfl rfl ?_); (try simp only [Act.put, zz])) | ((with_reducible show zX (Op.load _ _)); (refine wpl_load HH 0 rfl rfl rfl rfl rfl ?_; (try simp only [Act.put, zz]))) | ((with_reducible show zW (Op.store _ _ _)); (first | (refine wpl_store HH 0 rfl rfl rfl rfl rfl rfl rfl rfl ?_; clear HH; intro V HH; simp only [Act.eval, zx, Value.cells, putl, zC, zB] at HH; (try simp only [Act.put, zz])) | (refine wpl_store HH 1 rfl rfl rfl rfl rfl rfl rfl rfl ?_; clear HH; intro V HH; simp only [Act.eval, zx, Value.cells, putl, zC, zB] at HH; (try simp only [Act.put, zz])))) | ((with_reducible show zW (Op.alloc _)); refine wpl_alloc HH rfl rfl ?_; clear HH; intro b V HH; simp only [Act.eval, zx, Value.cells, putl, zC, zB] at HH; (try simp only [Act.put, zz])) | ((with_reducible show Code.wp _ (Code.region _ _ true) _ _ _); (refine wp_tail_Hp (id := 7) [0, 1, 2, 3, 4, 5, 6] [] (by kernel_rfl) HH ?_; clear HH; (try dsimp only); (try simp only [pick, zy]); repeat' (first | ((with_reducible show wpB _ _ _ _ [] _); refine wpB_nil ?_; intro V HH; (try simp only [pick, zy]); (try simp only [Act.put, zz]); (try simp only [Value.cells] at HH)) | (((with_reducible show zU _); (first | ((with_reducible show zT (Op.move _)); refine wpB_move rfl rfl rfl ?_) | ((with_reducible show zT (Op.load _ _)); (first | refine wpB_load 1 rfl rfl rfl rfl rfl ?_ | refine wpB_load 3 rfl rfl rfl rfl rfl ?_ | refine wpB_load 4 rfl rfl rfl rfl rfl ?_)) | ((with_reducible show zT (Op.call _)); (refine wpB_callE (f := ?_) (args := ?_) (v := ?_) rfl ?_ ?_ ?_; rotate_left 3; (focus (intro w9 hS9; go_simp; (refine ⟨?_, ?_⟩ <;> with_reducible rfl))); (focus (with_reducible exact (HOE))))) | (refine wpB_val (v := ?_) rfl ?_ ?_; rotate_left; (focus (intro w9 hS9; go_simp; all_goals (with_reducible rfl)))))); all_goals (try simp only [Act.put, zz, Act.eval, zx]))))))
      · rw [e1, lowD_app] at hsum
        simp only [lowD, hob, Bool.false_eq_true, if_false] at hsum
        refine ⟨⟨seen.push e.born, a, rfl, ?_, (HH.drop rfl).drop rfl⟩, ?_⟩
        · rw [e2, lowD_app]
          omega
        · rw [seenOf_at (HH.get 2 rfl), HMS.out, e1, e2, List.length_append, List.length_append, List.length_cons]
          omega
      · rw [e1, lowD_app] at hsum
        simp only [lowD, hob, if_true] at hsum
        refine ⟨⟨seen.push e.born, a + e.v.1, ?_, ?_, (HH.drop rfl).drop rfl⟩, ?_⟩
        · rw [IntWalk.u64_in _ (by omega)]
          push_cast
          rfl
        · rw [e2, lowD_app]
          omega
        · rw [seenOf_at (HH.get 2 rfl), HMS.out, e1, e2, List.length_append, List.length_append, List.length_cons]
          omega
      · rw [hz] at hsum
        simp only [lowD, Nat.add_zero] at hsum
        subst hsum
        go_ret
        exact ⟨rfl, Hp.back (l := [_, _]) (r := [_, _]) HH (by intro e he; simp only [List.mem_cons, List.not_mem_nil, or_false] at he; rcases he with rfl | rfl; exact hTL.out; exact hML.out) rfl⟩

def highD (s : Sp) (p : Px) (mm : List (Me (Nat × Nat))) (sl : Nat) : Nat := lowD s p mm + match mget mm p with
  | some u => u.2
  | none => sl
set_option maxRecDepth 100000 in
set_option maxHeartbeats 4000000 in
theorem high_walk (w : World) {T n sl bm : Nat} {s : Sp} {full : Bool} (hT : w.heap[T]? = some (.cells #[.int .i64 s.n, .int .i64 s.d0.k, .int .i64 s.d0.s, .int .i64 s.d0.t, .int .i64 s.d1.k, .int .i64 s.d1.s, .int .i64 s.d1.t, .bool full, .int .u64 (n : Int), .int .u64 (sl : Int), .map (some bm)] 92 (0, 0))) {mm : List (Me (Nat × Nat))} {c : Nat} (hM : w.heap[bm]? = some (mp encG mm c)) (hk : MOk mm c) (p : Px) (hp : p.ok) (hmo : ∀ x ∈ mm, x.p.ok) (hb : lowD s p mm < 4611686018427387905) (hsl : sl < 4611686018427387905) (hu : ∀ u, mget mm p = some u → u.2 < 4611686018427387905) : Calls Tryz.prog 122 #[.pointer (some ⟨T, 0, none⟩), p.v] w fun e w' => e = .returned (.int .u64 ((if RB s p then highD s p mm sl else 0 : Nat) : Int)) ∧ Below w.heap.size w w' := by
  have hne : T ≠ bm := by
    rintro rfl
    rw [hT] at hM
    cases hM
  have HH : Hp w w [⟨T, .cells #[.int .i64 s.n, .int .i64 s.d0.k, .int .i64 s.d0.s, .int .i64 s.d0.t, .int .i64 s.d1.k, .int .i64 s.d1.s, .int .i64 s.d1.t, .bool full, .int .u64 (n : Int), .int .u64 (sl : Int), .map (some bm)] 92 (0, 0), false⟩, ⟨bm, mp encG mm c, false⟩] := Hp.start ⟨hT, hM, trivial⟩ (by simp [hne]) rfl
  have hTL := Lib.hid hT
  clear hT
  have hML := Lib.hid hM
  clear hM
  have HR := rb_gives s p hp
  have HL : RB s p = true → ∀ V : World, V.heap[T]? = some (.cells #[.int .i64 s.n, .int .i64 s.d0.k, .int .i64 s.d0.s, .int .i64 s.d0.t, .int .i64 s.d1.k, .int .i64 s.d1.s, .int .i64 s.d1.t, .bool full, .int .u64 (n : Int), .int .u64 (sl : Int), .map (some bm)] 92 (0, 0)) → V.heap[bm]? = some (mp encG mm c) → Calls Tryz.prog 128 #[.pointer (some ⟨T, 0, none⟩), p.v] V fun e w' => e = .returned (.int .u64 (lowD s p mm : Int)) ∧ Below V.heap.size V w' := fun h V h1 h2 => by
    have := low_walk V h1 h2 hk p hp hmo hb
    rw [h] at this
    exact this
  unfold highD
  generalize lowD s p mm = lw at *
  generalize RB s p = rb at *
  cases rb
  · go_enter Tryz.func122, Tryz.ntmps122
    go_wp2_with (first | ((with_reducible show zW (Op.box _ _)); refine wpl_box HH rfl rfl rfl ?_; clear HH; intro b V HH; simp only [Act.eval, zx, Value.cells, putl, zC, zB] at HH; (try simp only [Act.put, zz])) | ((with_reducible show Code.wp _ (Code.region _ _ true) _ _ _); (refine wp_tail_Hp (id := 1) [0, 1, 2, 3, 4, 5, 6, 7, 8, 9, 10, 11] [] (by kernel_rfl) HH ?_; clear HH; (try dsimp only); (try simp only [pick, zy]); repeat' (first | ((with_reducible show wpB _ _ _ _ [] _); refine wpB_nil ?_; intro V HH; (try simp only [pick, zy]); (try simp only [Act.put, zz]); (try simp only [Value.cells] at HH)) | ((first | ((with_reducible show zU _); (first | ((with_reducible show zT (Op.move _)); refine wpB_move rfl rfl rfl ?_) | ((with_reducible show zT (Op.call _)); refine wpB_callH (f := 129) (args := #[.pointer (some ⟨T, 0, none⟩)]) (v := .bool true) rfl (fun V hV => tmade V (Hp.get hV 1 rfl)) (fun w9 hS9 => ?_) ?_; (focus (go_simp; all_goals (fail)))) | ((with_reducible show zT (Op.unOp _ _ _)); (refine wpB_bool (p := ?_) rfl ?_ ?_ ?_; rotate_left; (focus (intro w9 hS9; go_simp; with_reducible rfl)); all_goals (intro hq; (try (contradiction))))) | ((with_reducible show zT (Op.pick _ _ _)); (refine wpB_bool (p := ?_) rfl ?_ ?_ ?_; rotate_left; (focus (intro w9 hS9; go_simp; with_reducible rfl)); all_goals (intro hq; (try (contradiction))))))) | ((with_reducible show zV _); (first | ((with_reducible show zT (Op.move _)); refine wpB_move rfl (by simp only [Region.wanted, yielded, zy, Option.bind_some]; decide) rfl ?_) | ((with_reducible show zT (Op.load _ _)); (first | refine wpB_load 0 rfl rfl rfl (by simp only [Region.wanted, yielded, zy, Option.bind_some]; decide) rfl ?_ | refine wpB_load 1 rfl rfl rfl (by simp only [Region.wanted, yielded, zy, Option.bind_some]; decide) rfl ?_)) | ((with_reducible show zT (Op.call _)); (refine wpB_callE (f := ?_) (args := ?_) (v := ?_) (by simp only [Region.wanted, yielded, zy, Option.bind_some]; decide) ?_ ?_ ?_; rotate_left 3; (focus (intro w9 hS9; go_simp; (refine ⟨?_, ?_⟩ <;> with_reducible rfl))); (focus (with_reducible exact (HR))))) | ((with_reducible show zT (Op.unOp _ _ _)); (refine wpB_bool (p := ?_) (by simp only [Region.wanted, yielded, zy, Option.bind_some]; decide) ?_ ?_ ?_; rotate_left; (focus (intro w9 hS9; go_simp; with_reducible rfl)); all_goals (intro hq; (try (contradiction))))) | (refine wpB_val (v := ?_) (by simp only [Region.wanted, yielded, zy, Option.bind_some]; decide) ?_ ?_; rotate_left; (focus (intro w9 hS9; go_simp; all_goals (with_reducible rfl))))))); all_goals (try simp only [Act.put, zz, Act.eval, zx]))))))
    go_ret; refine ⟨?_, Hp.back (l := [_]) (r := [_, _]) HH (by intro e he; simp only [List.mem_cons, List.not_mem_nil, or_false] at he; rcases he with rfl | rfl; exact hTL.out; exact hML.out) rfl⟩; (rfl)
  · replace HL := HL rfl
    cases hgx : mget mm p with
    | none =>
      have w1 : IntKind.u64.wrap ((lw : Int) + (sl : Int)) = ((lw + sl : Nat) : Int) := by rw [IntWalk.u64_in _ (by omega)]; push_cast; rfl
      go_enter Tryz.func122, Tryz.ntmps122
      go_wp2_with (first | ((with_reducible show stepQ _ _ _ _ _ _ _); refine stepQ_on HH (by (exact fun V h => h.drop rfl)) ?_; clear HH) | ((with_reducible show wpS _ _ _ _ (_ :: _) _ _); refine wpS_step rfl (fun V HH => ?_)) | ((with_reducible show wpS _ _ _ _ _ _ _); refine wpS_nil ?_; intro V HH; (try dsimp only at HH); (try simp only [pick, zy]); (try simp only [Act.put, zz])) | ((with_reducible show zW (Op.store _ _ _)); (refine wpl_store HH 0 rfl rfl rfl rfl rfl rfl rfl rfl ?_; clear HH; intro V HH; simp only [Act.eval, zx, Value.cells, putl, zC, zB] at HH; (try simp only [Act.put, zz]))) | ((with_reducible show zW (Op.box _ _)); refine wpl_box HH rfl rfl rfl ?_; clear HH; intro b V HH; simp only [Act.eval, zx, Value.cells, putl, zC, zB] at HH; (try simp only [Act.put, zz])) | ((with_reducible show zW (Op.alloc _)); refine wpl_alloc HH rfl rfl ?_; clear HH; intro b V HH; simp only [Act.eval, zx, Value.cells, putl, zC, zB] at HH; (try simp only [Act.put, zz])) | ((with_reducible show Code.wp _ (Code.region _ _ true) _ _ _); (first | (refine wp_tail_Hp (id := 1) [0, 1, 2, 3, 4, 5, 6, 7, 8, 9, 10, 11] [] (by kernel_rfl) HH ?_; clear HH; (try dsimp only); (try simp only [pick, zy]); repeat' (first | ((with_reducible show wpB _ _ _ _ [] _); refine wpB_nil ?_; intro V HH; (try simp only [pick, zy]); (try simp only [Act.put, zz]); (try simp only [Value.cells] at HH)) | ((first | ((with_reducible show zU _); (first | ((with_reducible show zT (Op.move _)); refine wpB_move rfl rfl rfl ?_) | ((with_reducible show zT (Op.call _)); refine wpB_callH (f := 129) (args := #[.pointer (some ⟨T, 0, none⟩)]) (v := .bool true) rfl (fun V hV => tmade V (Hp.get hV 1 rfl)) (fun w9 hS9 => ?_) ?_; (focus (go_simp; all_goals (fail)))) | ((with_reducible show zT (Op.unOp _ _ _)); (refine wpB_bool (p := ?_) rfl ?_ ?_ ?_; rotate_left; (focus (intro w9 hS9; go_simp; with_reducible rfl)); all_goals (intro hq; (try (contradiction))))) | ((with_reducible show zT (Op.pick _ _ _)); (refine wpB_bool (p := ?_) rfl ?_ ?_ ?_; rotate_left; (focus (intro w9 hS9; go_simp; with_reducible rfl)); all_goals (intro hq; (try (contradiction))))))) | ((with_reducible show zV _); (first | ((with_reducible show zT (Op.move _)); refine wpB_move rfl (by simp only [Region.wanted, yielded, zy, Option.bind_some]; decide) rfl ?_) | ((with_reducible show zT (Op.load _ _)); (first | refine wpB_load 0 rfl rfl rfl (by simp only [Region.wanted, yielded, zy, Option.bind_some]; decide) rfl ?_ | refine wpB_load 1 rfl rfl rfl (by simp only [Region.wanted, yielded, zy, Option.bind_some]; decide) rfl ?_)) | ((with_reducible show zT (Op.call _)); (refine wpB_callE (f := ?_) (args := ?_) (v := ?_) (by simp only [Region.wanted, yielded, zy, Option.bind_some]; decide) ?_ ?_ ?_; rotate_left 3; (focus (intro w9 hS9; go_simp; (refine ⟨?_, ?_⟩ <;> with_reducible rfl))); (focus (with_reducible exact (HR))))) | ((with_reducible show zT (Op.unOp _ _ _)); (refine wpB_bool (p := ?_) (by simp only [Region.wanted, yielded, zy, Option.bind_some]; decide) ?_ ?_ ?_; rotate_left; (focus (intro w9 hS9; go_simp; with_reducible rfl)); all_goals (intro hq; (try (contradiction))))) | (refine wpB_val (v := ?_) (by simp only [Region.wanted, yielded, zy, Option.bind_some]; decide) ?_ ?_; rotate_left; (focus (intro w9 hS9; go_simp; all_goals (with_reducible rfl))))))); all_goals (try simp only [Act.put, zz, Act.eval, zx])))) | (refine wp_float_Hp (id := 3) [0, 1, 2, 3, 4, 5, 6, 7, 8] [9, 10] [11] _ (by kernel_rfl) HH (by (exact fun V h => h)) ?_; clear HH; (try dsimp only); (try simp only [pick, zy]); repeat' (first | ((with_reducible show wpB _ _ _ _ [] _); refine wpB_nil ?_; (try simp only [pick, zy]); (try simp only [Act.put, zz])) | (((with_reducible show zU _); (first | ((with_reducible show zT (Op.move _)); refine wpB_move rfl rfl rfl ?_) | ((with_reducible show zT (Op.lookup 90 _ _ _)); refine wpB_lookN 2 p hgx rfl rfl rfl rfl rfl ?_) | ((with_reducible show zT (Op.load _ _)); (first | refine wpB_load 0 rfl rfl rfl rfl rfl ?_ | refine wpB_load 1 rfl rfl rfl rfl rfl ?_)) | (refine wpB_val (v := ?_) rfl ?_ ?_; rotate_left; (focus (intro w9 hS9; go_simp; all_goals (with_reducible rfl)))))); all_goals (try simp only [Act.put, zz, Act.eval, zx])))) | (refine wp_tail_Hp (id := 6) [0, 1, 2, 3, 4, 5, 6, 7, 8] [] (by kernel_rfl) HH ?_; clear HH; (try dsimp only); (try simp only [pick, zy]); repeat' (first | ((with_reducible show wpB _ _ _ _ [] _); refine wpB_nil ?_; intro V HH; (try simp only [pick, zy]); (try simp only [Act.put, zz]); (try simp only [Value.cells] at HH)) | (((with_reducible show zU _); (first | ((with_reducible show zT (Op.move _)); refine wpB_move rfl rfl rfl ?_) | ((with_reducible show zT (Op.assign _)); refine wpB_assign rfl rfl rfl ?_) | ((with_reducible show zT (Op.call _)); refine wpB_callH (f := 128) (args := #[.pointer (some ⟨T, 0, none⟩), p.v]) (v := .int .u64 (lw : Int)) rfl (fun V hV => HL V (Hp.get hV 2 rfl) (Hp.get hV 3 rfl)) (fun w9 hS9 => ?_) ?_; (focus (go_simp; all_goals (fail)))) | ((with_reducible show zT (Op.load _ _)); (first | refine wpB_load 1 rfl rfl rfl rfl rfl ?_ | refine wpB_load 2 rfl rfl rfl rfl rfl ?_)) | (refine wpB_val (v := ?_) rfl ?_ ?_; rotate_left; (focus (intro w9 hS9; go_simp; all_goals (with_reducible rfl)))))); all_goals (try simp only [Act.put, zz, Act.eval, zx])))))))
      go_ret
      exact ⟨rfl, Hp.back (l := [_, _]) (r := [_, _]) HH (by intro e he; simp only [List.mem_cons, List.not_mem_nil, or_false] at he; rcases he with rfl | rfl; exact hTL.out; exact hML.out) rfl⟩
    | some u =>
      have hu2 := hu u hgx
      have w1 : IntKind.u64.wrap ((lw : Int) + (u.2 : Int)) = ((lw + u.2 : Nat) : Int) := by rw [IntWalk.u64_in _ (by omega)]; push_cast; rfl
      go_enter Tryz.func122, Tryz.ntmps122
      go_wp2_with (first | ((with_reducible show stepQ _ _ _ _ _ _ _); refine stepQ_on HH (by (exact fun V h => h.drop rfl)) ?_; clear HH) | ((with_reducible show wpS _ _ _ _ (_ :: _) _ _); refine wpS_step rfl (fun V HH => ?_)) | ((with_reducible show wpS _ _ _ _ _ _ _); refine wpS_nil ?_; intro V HH; (try dsimp only at HH); (try simp only [pick, zy]); (try simp only [Act.put, zz])) | ((with_reducible show zW (Op.store _ _ _)); (refine wpl_store HH 0 rfl rfl rfl rfl rfl rfl rfl rfl ?_; clear HH; intro V HH; simp only [Act.eval, zx, Value.cells, putl, zC, zB] at HH; (try simp only [Act.put, zz]))) | ((with_reducible show zW (Op.box _ _)); refine wpl_box HH rfl rfl rfl ?_; clear HH; intro b V HH; simp only [Act.eval, zx, Value.cells, putl, zC, zB] at HH; (try simp only [Act.put, zz])) | ((with_reducible show zW (Op.alloc _)); refine wpl_alloc HH rfl rfl ?_; clear HH; intro b V HH; simp only [Act.eval, zx, Value.cells, putl, zC, zB] at HH; (try simp only [Act.put, zz])) | ((with_reducible show Code.wp _ (Code.region _ _ true) _ _ _); (first | (refine wp_tail_Hp (id := 1) [0, 1, 2, 3, 4, 5, 6, 7, 8, 9, 10, 11] [] (by kernel_rfl) HH ?_; clear HH; (try dsimp only); (try simp only [pick, zy]); repeat' (first | ((with_reducible show wpB _ _ _ _ [] _); refine wpB_nil ?_; intro V HH; (try simp only [pick, zy]); (try simp only [Act.put, zz]); (try simp only [Value.cells] at HH)) | ((first | ((with_reducible show zU _); (first | ((with_reducible show zT (Op.move _)); refine wpB_move rfl rfl rfl ?_) | ((with_reducible show zT (Op.call _)); refine wpB_callH (f := 129) (args := #[.pointer (some ⟨T, 0, none⟩)]) (v := .bool true) rfl (fun V hV => tmade V (Hp.get hV 1 rfl)) (fun w9 hS9 => ?_) ?_; (focus (go_simp; all_goals (fail)))) | ((with_reducible show zT (Op.unOp _ _ _)); (refine wpB_bool (p := ?_) rfl ?_ ?_ ?_; rotate_left; (focus (intro w9 hS9; go_simp; with_reducible rfl)); all_goals (intro hq; (try (contradiction))))) | ((with_reducible show zT (Op.pick _ _ _)); (refine wpB_bool (p := ?_) rfl ?_ ?_ ?_; rotate_left; (focus (intro w9 hS9; go_simp; with_reducible rfl)); all_goals (intro hq; (try (contradiction))))))) | ((with_reducible show zV _); (first | ((with_reducible show zT (Op.move _)); refine wpB_move rfl (by simp only [Region.wanted, yielded, zy, Option.bind_some]; decide) rfl ?_) | ((with_reducible show zT (Op.load _ _)); (first | refine wpB_load 0 rfl rfl rfl (by simp only [Region.wanted, yielded, zy, Option.bind_some]; decide) rfl ?_ | refine wpB_load 1 rfl rfl rfl (by simp only [Region.wanted, yielded, zy, Option.bind_some]; decide) rfl ?_)) | ((with_reducible show zT (Op.call _)); (refine wpB_callE (f := ?_) (args := ?_) (v := ?_) (by simp only [Region.wanted, yielded, zy, Option.bind_some]; decide) ?_ ?_ ?_; rotate_left 3; (focus (intro w9 hS9; go_simp; (refine ⟨?_, ?_⟩ <;> with_reducible rfl))); (focus (with_reducible exact (HR))))) | ((with_reducible show zT (Op.unOp _ _ _)); (refine wpB_bool (p := ?_) (by simp only [Region.wanted, yielded, zy, Option.bind_some]; decide) ?_ ?_ ?_; rotate_left; (focus (intro w9 hS9; go_simp; with_reducible rfl)); all_goals (intro hq; (try (contradiction))))) | (refine wpB_val (v := ?_) (by simp only [Region.wanted, yielded, zy, Option.bind_some]; decide) ?_ ?_; rotate_left; (focus (intro w9 hS9; go_simp; all_goals (with_reducible rfl))))))); all_goals (try simp only [Act.put, zz, Act.eval, zx])))) | (refine wp_float_Hp (id := 3) [0, 1, 2, 3, 4, 5, 6, 7, 8] [9, 10] [11] _ (by kernel_rfl) HH (by (exact fun V h => h)) ?_; clear HH; (try dsimp only); (try simp only [pick, zy]); repeat' (first | ((with_reducible show wpB _ _ _ _ [] _); refine wpB_nil ?_; (try simp only [pick, zy]); (try simp only [Act.put, zz])) | (((with_reducible show zU _); (first | ((with_reducible show zT (Op.move _)); refine wpB_move rfl rfl rfl ?_) | ((with_reducible show zT (Op.lookup 90 _ _ _)); refine wpB_lookS 2 p hgx rfl rfl rfl rfl rfl ?_) | ((with_reducible show zT (Op.load _ _)); (first | refine wpB_load 0 rfl rfl rfl rfl rfl ?_ | refine wpB_load 1 rfl rfl rfl rfl rfl ?_)) | (refine wpB_val (v := ?_) rfl ?_ ?_; rotate_left; (focus (intro w9 hS9; go_simp; all_goals (with_reducible rfl)))))); all_goals (try simp only [Act.put, zz, Act.eval, zx])))) | (refine wp_tail_Hp (id := 5) [0, 1, 2, 3, 4, 5, 6] [] (by kernel_rfl) HH ?_; clear HH; (try dsimp only); (try simp only [pick, zy]); repeat' (first | ((with_reducible show wpB _ _ _ _ [] _); refine wpB_nil ?_; intro V HH; (try simp only [pick, zy]); (try simp only [Act.put, zz]); (try simp only [Value.cells] at HH)) | (((with_reducible show zU _); (first | ((with_reducible show zT (Op.move _)); refine wpB_move rfl rfl rfl ?_) | ((with_reducible show zT (Op.assign _)); refine wpB_assign rfl rfl rfl ?_) | ((with_reducible show zT (Op.call _)); refine wpB_callH (f := 128) (args := #[.pointer (some ⟨T, 0, none⟩), p.v]) (v := .int .u64 (lw : Int)) rfl (fun V hV => HL V (Hp.get hV 2 rfl) (Hp.get hV 3 rfl)) (fun w9 hS9 => ?_) ?_; (focus (go_simp; all_goals (fail)))) | ((with_reducible show zT (Op.load _ _)); (first | refine wpB_load 0 rfl rfl rfl rfl rfl ?_ | refine wpB_load 1 rfl rfl rfl rfl rfl ?_)) | (refine wpB_val (v := ?_) rfl ?_ ?_; rotate_left; (focus (intro w9 hS9; go_simp; all_goals (with_reducible rfl)))))); all_goals (try simp only [Act.put, zz, Act.eval, zx])))))))
      go_ret
      exact ⟨rfl, Hp.back (l := [_, _]) (r := [_, _]) HH (by intro e he; simp only [List.mem_cons, List.not_mem_nil, or_false] at he; rcases he with rfl | rfl; exact hTL.out; exact hML.out) rfl⟩

def missD (s : Sp) (full : Bool) (mm : List (Me (Nat × Nat))) (p : Px) : List Px := missL full mm p (allP s p)
def leafB (s : Sp) (p : Px) : Bool := RB s p && decide (p.a0 = 0)
set_option maxRecDepth 100000 in
set_option maxHeartbeats 4000000 in
theorem need_walk {w0 w : World} {l : List En} {T n sl bm c : Nat} {s : Sp} {full : Bool} {mm : List (Me (Nat × Nat))} (HH : Hp w0 w (TE T s full n sl bm :: ⟨bm, mp encG mm c, true⟩ :: l)) (p : Px) (hp : p.ok) : Calls Tryz.prog 123 #[.pointer (some ⟨T, 0, none⟩), p.v] w fun e w' => e = .returned (.int .i64 ((if leafB s p then (missD s full mm p).length else 0 : Nat) : Int)) ∧ Hp w0 w' (TE T s full n sl bm :: ⟨bm, mp encG mm c, true⟩ :: l) := by
  have HR := rb_gives s p hp
  have hal : (allP s p).length ≤ 100000 := Nat.le_trans (allP_le s p) (by omega)
  unfold leafB missD
  cases hlf : (RB s p && decide (p.a0 = 0)) with
  | false =>
    go_enter Tryz.func123, Tryz.ntmps123
    go_wp2_with (first | (go_at_call 129; (refine (tmade _ (HH.get 1 rfl)).mono ?_); rintro e V ⟨rfl, hb⟩; replace HH := HH.next hb; clear hb) | (go_at_call 130; (refine (isLeaf_walk _ (HH.get 1 rfl) p HR).mono ?_); rw [hlf]; rintro e V ⟨rfl, hb⟩; replace HH := HH.next hb; clear hb) | ((with_reducible show zY (Op.load _ _)); (refine wpl_load HH 0 rfl rfl rfl (by simp only [Region.wanted, yielded, zy, Option.bind_some]; decide) rfl ?_; (try simp only [Act.put, zz]))) | ((with_reducible show zW (Op.box _ _)); refine wpl_box HH rfl rfl rfl ?_; clear HH; intro b V HH; simp only [Act.eval, zx, Value.cells, putl, zC, zB] at HH; (try simp only [Act.put, zz])))
    go_ret
    exact ⟨rfl, HH.drop rfl⟩
  | true =>
    go_enter Tryz.func123, Tryz.ntmps123
    go_wp2_with (first | (go_at_call 129; (refine (tmade _ (HH.get 1 rfl)).mono ?_); rintro e V ⟨rfl, hb⟩; replace HH := HH.next hb; clear hb) | (go_at_call 130; (refine (isLeaf_walk _ (HH.get 1 rfl) p HR).mono ?_); rw [hlf]; rintro e V ⟨rfl, hb⟩; replace HH := HH.next hb; clear hb) | (go_at_call 131; refine (miss_walk s p full n sl bm T c mm _ hal (allP_gives s p hp) (HH.perm (List.perm_append_comm_assoc [_] [_, _] _))).mono ?_; rintro e V ⟨v, rm, rfl, HS, HH2⟩; clear HH; have HH := HH2; clear HH2; obtain ⟨a9, c9, rfl⟩ := HS.form; (try simp only [Act.put, zz])) | ((with_reducible show zX (Op.load _ _)); (refine wpl_load HH 0 rfl rfl rfl rfl rfl ?_; (try simp only [Act.put, zz]))) | ((with_reducible show zY (Op.load _ _)); (refine wpl_load HH 0 rfl rfl rfl (by simp only [Region.wanted, yielded, zy, Option.bind_some]; decide) rfl ?_; (try simp only [Act.put, zz]))) | ((with_reducible show zW (Op.box _ _)); refine wpl_box HH rfl rfl rfl ?_; clear HH; intro b V HH; simp only [Act.eval, zx, Value.cells, putl, zC, zB] at HH; (try simp only [Act.put, zz])))
    go_ret
    exact ⟨rfl, (HH.dropAll HS.own).lose 2 rfl rfl⟩

end Go.Proofs.YtcbahkfbdlhabaaGreatDoor
