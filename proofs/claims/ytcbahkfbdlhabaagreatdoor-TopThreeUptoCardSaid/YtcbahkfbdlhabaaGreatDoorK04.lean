/- A part of the proof that the law TopThree returns true for all arguments of bulk at most 1048576 (no other condition). Here: Orders: cmp.Compare, cmp.Or, wide.Cmp, strings.Compare, key.Cmp, prefix.Cmp. Grids: span, isNode, Place, keysOver, Parents. Slices of the call's own that grow: append. Grids: Clip, Parents, keysOver. -/
import Derived.Test.YtcbahkfbdlhabaaGreatDoorK03
import Derived.Lib.Bytealg
import Derived.Laws.AppendOwn
import Derived.ArgAppend
namespace Go.Proofs.YtcbahkfbdlhabaaGreatDoor
set_option linter.unusedVariables false
set_option linter.unusedSimpArgs false
open Go.RowKit
attribute [local go_sem] index24_0 index24_1 field34_0 field34_1
attribute [local irreducible] wpList Code.wp wpB

def cmpI (a b : Int) : Int := if a < b then -1 else if b < a then 1 else 0
/-- The first that is not nought. -/
def orL : List Int → Int
  | [] => 0
  | a :: r => if a = 0 then orL r else a
instance : Shp 107 false 1 := ⟨fun _ => by kernel_rfl, by kernel_rfl⟩

set_option maxRecDepth 100000 in
theorem nan_int (a : Int) (w : World) : Calls Tryz.prog 45 #[.int .i64 a] w fun e w' => e = .returned (.bool false) ∧ Below w.heap.size w w' := by
  have HH := Hp.nil w
  go_enter Tryz.func45, Tryz.ntmps45
  go_wp2_with fail
  all_goals (go_ret; refine ⟨?_, HH.below rfl⟩; (rfl))

set_option maxRecDepth 100000 in
theorem cmp_int (a b : Int) (w : World) : Calls Tryz.prog 33 #[.int .i64 a, .int .i64 b] w fun e w' => e = .returned (.int .i64 (cmpI a b)) ∧ Below w.heap.size w w' := by
  have HH := Hp.nil w
  go_enter Tryz.func33, Tryz.ntmps33
  go_wp2_with (first | (go_at_call 45; (with_reducible refine ((nan_int _) _).mono ?_); rintro e V ⟨rfl, hb⟩; replace HH := HH.next hb; clear hb) | ((with_reducible show zX (Op.binOp _ _ _ _ _)); (refine wpl_cmp (p := ?_) rfl rfl rfl ?_ ?_ ?_; rotate_left; (focus (go_simp; with_reducible rfl)); all_goals (intro hq; (try (fail)); (try simp only [zw] at hq); (try simp only [Act.put, zz])))))
  all_goals (go_ret; refine ⟨?_, HH.below rfl⟩; (clear HH; unfold cmpI; simp_all; try omega))

set_option maxRecDepth 100000 in
theorem nan_u64 (a : Int) (w : World) : Calls Tryz.prog 65 #[.int .u64 a] w fun e w' => e = .returned (.bool false) ∧ Below w.heap.size w w' := by
  have HH := Hp.nil w
  go_enter Tryz.func65, Tryz.ntmps65
  go_wp2_with fail
  all_goals (go_ret; refine ⟨?_, HH.below rfl⟩; (rfl))

set_option maxRecDepth 100000 in
theorem cmp_u64 (a b : Int) (w : World) : Calls Tryz.prog 56 #[.int .u64 a, .int .u64 b] w fun e w' => e = .returned (.int .i64 (cmpI a b)) ∧ Below w.heap.size w w' := by
  have HH := Hp.nil w
  go_enter Tryz.func56, Tryz.ntmps56
  go_wp2_with (first | (go_at_call 65; (with_reducible refine ((nan_u64 _) _).mono ?_); rintro e V ⟨rfl, hb⟩; replace HH := HH.next hb; clear hb) | ((with_reducible show zX (Op.binOp _ _ _ _ _)); (refine wpl_cmp (p := ?_) rfl rfl rfl ?_ ?_ ?_; rotate_left; (focus (go_simp; with_reducible rfl)); all_goals (intro hq; (try (fail)); (try simp only [zw] at hq); (try simp only [Act.put, zz])))))
  all_goals (go_ret; refine ⟨?_, HH.below rfl⟩; (clear HH; unfold cmpI; simp_all; try omega))

set_option maxRecDepth 100000 in
theorem or2_walk (a0 a1 : Int) (b : Nat) (w : World) (hb : w.heap[b]? = some (.cells #[.int .i64 a0, .int .i64 a1] 3 (0, 0))) : Calls Tryz.prog 32 #[.slice (some ⟨b, 0, none⟩) 2 2] w fun e w' => e = .returned (.int .i64 (orL [a0, a1])) ∧ Below w.heap.size w w' := by
  have HH : Hp w w [⟨b, .cells #[.int .i64 a0, .int .i64 a1] 3 (0, 0), false⟩] := Hp.start ⟨hb, trivial⟩ (by simp) rfl
  have HB := Lib.hid hb
  clear hb
  go_enter Tryz.func32, Tryz.ntmps32
  go_wp2_with (first | ((with_reducible show Code.wp _ (Code.loop _) _ _ _); refine wp_loop_rounds 3 ?_; rw [rounds_succ]) | ((with_reducible show Code.rounds _ _ _ _ _ _); rw [rounds_succ]) | ((with_reducible show zX (Op.load _ _)); (refine wpl_load HH 0 rfl rfl rfl rfl rfl ?_; (try simp only [Act.put, zz]))) | ((with_reducible show zX (Op.binOp _ _ _ _ _)); (refine wpl_cmp (p := ?_) rfl rfl rfl ?_ ?_ ?_; rotate_left; (focus (go_simp; with_reducible rfl)); all_goals (intro hq; (try (contradiction)); (try simp only [zw] at hq); (try simp only [Act.put, zz])))))
  all_goals (go_ret; refine ⟨?_, HH.below_at (by simp [HB.out])⟩; clear HH HB; simp_all [orL])

set_option maxRecDepth 100000 in
theorem or3_walk (a0 a1 a2 : Int) (b : Nat) (w : World) (hb : w.heap[b]? = some (.cells #[.int .i64 a0, .int .i64 a1, .int .i64 a2] 3 (0, 0))) : Calls Tryz.prog 32 #[.slice (some ⟨b, 0, none⟩) 3 3] w fun e w' => e = .returned (.int .i64 (orL [a0, a1, a2])) ∧ Below w.heap.size w w' := by
  have HH : Hp w w [⟨b, .cells #[.int .i64 a0, .int .i64 a1, .int .i64 a2] 3 (0, 0), false⟩] := Hp.start ⟨hb, trivial⟩ (by simp) rfl
  have HB := Lib.hid hb
  clear hb
  go_enter Tryz.func32, Tryz.ntmps32
  go_wp2_with (first | ((with_reducible show Code.wp _ (Code.loop _) _ _ _); refine wp_loop_rounds 4 ?_; rw [rounds_succ]) | ((with_reducible show Code.rounds _ _ _ _ _ _); rw [rounds_succ]) | ((with_reducible show zX (Op.load _ _)); (refine wpl_load HH 0 rfl rfl rfl rfl rfl ?_; (try simp only [Act.put, zz]))) | ((with_reducible show zX (Op.binOp _ _ _ _ _)); (refine wpl_cmp (p := ?_) rfl rfl rfl ?_ ?_ ?_; rotate_left; (focus (go_simp; with_reducible rfl)); all_goals (intro hq; (try (contradiction)); (try simp only [zw] at hq); (try simp only [Act.put, zz])))))
  all_goals (go_ret; refine ⟨?_, HH.below_at (by simp [HB.out])⟩; clear HH HB; simp_all [orL])

set_option maxRecDepth 100000 in
theorem or4_walk (a0 a1 a2 a3 : Int) (b : Nat) (w : World) (hb : w.heap[b]? = some (.cells #[.int .i64 a0, .int .i64 a1, .int .i64 a2, .int .i64 a3] 3 (0, 0))) : Calls Tryz.prog 32 #[.slice (some ⟨b, 0, none⟩) 4 4] w fun e w' => e = .returned (.int .i64 (orL [a0, a1, a2, a3])) ∧ Below w.heap.size w w' := by
  have HH : Hp w w [⟨b, .cells #[.int .i64 a0, .int .i64 a1, .int .i64 a2, .int .i64 a3] 3 (0, 0), false⟩] := Hp.start ⟨hb, trivial⟩ (by simp) rfl
  have HB := Lib.hid hb
  clear hb
  go_enter Tryz.func32, Tryz.ntmps32
  go_wp2_with (first | ((with_reducible show Code.wp _ (Code.loop _) _ _ _); refine wp_loop_rounds 5 ?_; rw [rounds_succ]) | ((with_reducible show Code.rounds _ _ _ _ _ _); rw [rounds_succ]) | ((with_reducible show zX (Op.load _ _)); (refine wpl_load HH 0 rfl rfl rfl rfl rfl ?_; (try simp only [Act.put, zz]))) | ((with_reducible show zX (Op.binOp _ _ _ _ _)); (refine wpl_cmp (p := ?_) rfl rfl rfl ?_ ?_ ?_; rotate_left; (focus (go_simp; with_reducible rfl)); all_goals (intro hq; (try (contradiction)); (try simp only [zw] at hq); (try simp only [Act.put, zz])))))
  all_goals (go_ret; refine ⟨?_, HH.below_at (by simp [HB.out])⟩; clear HH HB; simp_all [orL])

set_option maxRecDepth 100000 in
theorem run_bs2 (a b : Int) (w : World) : (Instr.buildSlice 107 2 #[(0, .int .i64 a), (1, .int .i64 b)]).run Tryz.prog w = .ok (.slice (some ⟨w.heap.size, 0, none⟩) 2 2) (w.alloc (.cells #[.int .i64 a, .int .i64 b] 3)) := by
  simp [go_sem]
set_option maxRecDepth 100000 in
theorem run_bs3 (a b c : Int) (w : World) : (Instr.buildSlice 107 3 #[(0, .int .i64 a), (1, .int .i64 b), (2, .int .i64 c)]).run Tryz.prog w = .ok (.slice (some ⟨w.heap.size, 0, none⟩) 3 3) (w.alloc (.cells #[.int .i64 a, .int .i64 b, .int .i64 c] 3)) := by
  simp [go_sem]
set_option maxRecDepth 100000 in
theorem run_bs4 (a b c d : Int) (w : World) : (Instr.buildSlice 107 4 #[(0, .int .i64 a), (1, .int .i64 b), (2, .int .i64 c), (3, .int .i64 d)]).run Tryz.prog w = .ok (.slice (some ⟨w.heap.size, 0, none⟩) 4 4) (w.alloc (.cells #[.int .i64 a, .int .i64 b, .int .i64 c, .int .i64 d] 3)) := by
  simp [go_sem]
theorem wpl_bs2 {ops : Array Oper} {rest : List Oper} {o : Oper} {a : Act} {Q : Exit → Act → World → Prop} {w0 W : World} {l : List En} {x0 x1 : Operand} {p0 p1 : Int} (HH : Hp w0 W l) (hop : o.op = .buildSlice 107 2 #[(0, x0), (1, x1)]) (hw : Region.wanted o (yielded ops a.tmps) = true) (h0 : a.eval x0 = .int .i64 p0) (h1 : a.eval x1 = .int .i64 p1)
    (h : ∀ b V, Hp w0 V (⟨b, .cells #[.int .i64 p0, .int .i64 p1] 3 (0, 0), true⟩ :: l) → wpList Tryz.prog ops Q rest (a.put o.dst (.slice (some ⟨b, 0, none⟩) 2 2)) V) : wpList Tryz.prog ops Q (o :: rest) a W :=
  wpList_on hw fun K hK => by
    unfold Oper.wp execOp
    simp [hop, h0, h1, run_bs2, Result.andThen]
    exact hK _ _ (h _ _ (HH.alloc _))
theorem wpl_bs3 {ops : Array Oper} {rest : List Oper} {o : Oper} {a : Act} {Q : Exit → Act → World → Prop} {w0 W : World} {l : List En} {x0 x1 x2 : Operand} {p0 p1 p2 : Int} (HH : Hp w0 W l) (hop : o.op = .buildSlice 107 3 #[(0, x0), (1, x1), (2, x2)]) (hw : Region.wanted o (yielded ops a.tmps) = true) (h0 : a.eval x0 = .int .i64 p0) (h1 : a.eval x1 = .int .i64 p1) (h2 : a.eval x2 = .int .i64 p2)
    (h : ∀ b V, Hp w0 V (⟨b, .cells #[.int .i64 p0, .int .i64 p1, .int .i64 p2] 3 (0, 0), true⟩ :: l) → wpList Tryz.prog ops Q rest (a.put o.dst (.slice (some ⟨b, 0, none⟩) 3 3)) V) : wpList Tryz.prog ops Q (o :: rest) a W :=
  wpList_on hw fun K hK => by
    unfold Oper.wp execOp
    simp [hop, h0, h1, h2, run_bs3, Result.andThen]
    exact hK _ _ (h _ _ (HH.alloc _))
theorem wpl_bs4 {ops : Array Oper} {rest : List Oper} {o : Oper} {a : Act} {Q : Exit → Act → World → Prop} {w0 W : World} {l : List En} {x0 x1 x2 x3 : Operand} {p0 p1 p2 p3 : Int} (HH : Hp w0 W l) (hop : o.op = .buildSlice 107 4 #[(0, x0), (1, x1), (2, x2), (3, x3)]) (hw : Region.wanted o (yielded ops a.tmps) = true) (h0 : a.eval x0 = .int .i64 p0) (h1 : a.eval x1 = .int .i64 p1) (h2 : a.eval x2 = .int .i64 p2) (h3 : a.eval x3 = .int .i64 p3)
    (h : ∀ b V, Hp w0 V (⟨b, .cells #[.int .i64 p0, .int .i64 p1, .int .i64 p2, .int .i64 p3] 3 (0, 0), true⟩ :: l) → wpList Tryz.prog ops Q rest (a.put o.dst (.slice (some ⟨b, 0, none⟩) 4 4)) V) : wpList Tryz.prog ops Q (o :: rest) a W :=
  wpList_on hw fun K hK => by
    unfold Oper.wp execOp
    simp [hop, h0, h1, h2, h3, run_bs4, Result.andThen]
    exact hK _ _ (h _ _ (HH.alloc _))

set_option maxHeartbeats 1000000 in
set_option maxRecDepth 100000 in
theorem cmpString (a b : ByteArray) (w : World) : Calls Tryz.prog 57 #[.string a, .string b] w fun e w' => e = .returned (.int .i64 (Lib.compareBytes a.data.toList b.data.toList)) ∧ Below w.heap.size w w' := by
  go_enter Tryz.func57, Tryz.ntmps57
  go_wp2
  rw [run_callFunc_extern Tryz.func66 (by kernel_rfl) (by kernel_rfl) (by kernel_rfl) (e := Extern.BytealgCompare.compare) (by kernel_rfl), Lib.run_compareString]
  simp only [Result.andThen]
  rw [Oper.upon_value]
  go_wp2
  go_ret
  exact ⟨rfl, Below.refl _ _⟩
set_option maxRecDepth 100000 in
theorem strCompare (a b : ByteArray) (w : World) : Calls Tryz.prog 48 #[.string a, .string b] w fun e w' => e = .returned (.int .i64 (Lib.compareBytes a.data.toList b.data.toList)) ∧ Below w.heap.size w w' := by
  have HH := Hp.nil w
  go_enter Tryz.func48, Tryz.ntmps48
  go_wp2_with (go_at_call 57; (with_reducible refine ((cmpString _ _) _).mono ?_); rintro e V ⟨rfl, hb⟩; replace HH := HH.next hb; clear hb)
  all_goals (go_ret; refine ⟨?_, HH.below rfl⟩; (rfl))

theorem or2_Hp {a0 a1 : Int} {b : Nat} {own : Bool} {w0 W : World} {l : List En} (HH : Hp w0 W (⟨b, .cells #[.int .i64 a0, .int .i64 a1] 3 (0, 0), own⟩ :: l)) : Calls Tryz.prog 32 #[.slice (some ⟨b, 0, none⟩) 2 2] W fun e w' => e = .returned (.int .i64 (orL [a0, a1])) ∧ Below W.heap.size W w' :=
  or2_walk a0 a1 b W HH.lies.1
theorem or3_Hp {a0 a1 a2 : Int} {b : Nat} {own : Bool} {w0 W : World} {l : List En} (HH : Hp w0 W (⟨b, .cells #[.int .i64 a0, .int .i64 a1, .int .i64 a2] 3 (0, 0), own⟩ :: l)) : Calls Tryz.prog 32 #[.slice (some ⟨b, 0, none⟩) 3 3] W fun e w' => e = .returned (.int .i64 (orL [a0, a1, a2])) ∧ Below W.heap.size W w' :=
  or3_walk a0 a1 a2 b W HH.lies.1
theorem or4_Hp {a0 a1 a2 a3 : Int} {b : Nat} {own : Bool} {w0 W : World} {l : List En} (HH : Hp w0 W (⟨b, .cells #[.int .i64 a0, .int .i64 a1, .int .i64 a2, .int .i64 a3] 3 (0, 0), own⟩ :: l)) : Calls Tryz.prog 32 #[.slice (some ⟨b, 0, none⟩) 4 4] W fun e w' => e = .returned (.int .i64 (orL [a0, a1, a2, a3])) ∧ Below W.heap.size W w' :=
  or4_walk a0 a1 a2 a3 b W HH.lies.1

set_option maxRecDepth 100000 in
set_option maxHeartbeats 4000000 in
theorem wideCmp_walk (h l h2 l2 : Int) (w : World) : Calls Tryz.prog 46 #[.agg #[.int .u64 h, .int .u64 l], .agg #[.int .u64 h2, .int .u64 l2]] w fun e w' => e = .returned (.int .i64 (orL [cmpI h h2, cmpI l l2])) ∧ Below w.heap.size w w' := by
  have HH := Hp.nil w
  go_enter Tryz.func46, Tryz.ntmps46
  go_wp2_with (first | ((with_reducible show zW (Op.buildSlice _ 2 _)); refine wpl_bs2 HH rfl rfl rfl rfl ?_; clear HH; intro b V HH; (try simp only [Act.put, zz])) | (go_at_call 32; (with_reducible refine (or2_Hp HH).mono ?_); rintro e V ⟨rfl, hb⟩; replace HH := HH.next hb; clear hb) | ((with_reducible show zW (Op.box _ _)); refine wpl_box HH rfl rfl rfl ?_; clear HH; intro b V HH; simp only [Act.eval, zx, Value.cells, putl, zC, zB] at HH; (try simp only [Act.put, zz])) | ((with_reducible show Code.wp _ (Code.region _ _ true) _ _ _); (refine wp_tail_Hp (id := 1) [0, 1, 2, 3, 4, 5, 6, 7, 8, 9] [10, 11, 12] (by kernel_rfl) HH ?_; clear HH; (try dsimp only); (try simp only [pick, zy]); repeat' (first | ((with_reducible show wpB _ _ _ _ [] _); refine wpB_nil ?_; intro V HH; (try simp only [pick, zy]); (try simp only [Act.put, zz]); (try simp only [Value.cells] at HH)) | (((with_reducible show zU _); (first | ((with_reducible show zT (Op.load _ _)); (first | refine wpB_load 0 rfl rfl rfl rfl rfl ?_ | refine wpB_load 1 rfl rfl rfl rfl rfl ?_)) | ((with_reducible show zT (Op.call _)); (refine wpB_callE (f := ?_) (args := ?_) (v := ?_) rfl ?_ ?_ ?_; rotate_left 3; (focus (intro w9 hS9; go_simp; (refine ⟨?_, ?_⟩ <;> with_reducible rfl))); (focus (with_reducible exact (cmp_u64 _ _))))) | (refine wpB_val (v := ?_) rfl ?_ ?_; rotate_left; (focus (intro w9 hS9; go_simp; all_goals (with_reducible rfl)))))); all_goals (try simp only [Act.put, zz, Act.eval, zx]))))))
  all_goals (go_ret; refine ⟨?_, HH.below rfl⟩; (rfl))

set_option maxRecDepth 100000 in
set_option maxHeartbeats 4000000 in
theorem keyCmp_walk (k l h o k2 l2 h2 o2 : Int) (p p2 : ByteArray) (w : World) : Calls Tryz.prog 34 #[.agg #[.int .i64 k, .int .i64 l, .int .u64 h, .int .u64 o, .string p], .agg #[.int .i64 k2, .int .i64 l2, .int .u64 h2, .int .u64 o2, .string p2]] w fun e w' => e = .returned (.int .i64 (orL [cmpI k k2, orL [cmpI h h2, cmpI o o2], Lib.compareBytes p.data.toList p2.data.toList, cmpI l l2])) ∧ Below w.heap.size w w' := by
  have HH := Hp.nil w
  go_enter Tryz.func34, Tryz.ntmps34
  go_wp2_with (first | ((with_reducible show zW (Op.buildSlice _ 4 _)); refine wpl_bs4 HH rfl rfl rfl rfl rfl rfl ?_; clear HH; intro b V HH; (try simp only [Act.put, zz])) | (go_at_call 32; (with_reducible refine (or4_Hp HH).mono ?_); rintro e V ⟨rfl, hb⟩; replace HH := HH.next hb; clear hb) | ((with_reducible show zW (Op.box _ _)); refine wpl_box HH rfl rfl rfl ?_; clear HH; intro b V HH; simp only [Act.eval, zx, Value.cells, putl, zC, zB] at HH; (try simp only [Act.put, zz])) | ((with_reducible show Code.wp _ (Code.region _ _ true) _ _ _); (refine wp_tail_Hp (id := 1) [0, 1, 2, 3, 4, 5, 6, 7, 8, 9, 10, 11, 12, 13, 14, 15, 16, 17, 18, 19] [20, 21, 22] (by kernel_rfl) HH ?_; clear HH; (try dsimp only); (try simp only [pick, zy]); repeat' (first | ((with_reducible show wpB _ _ _ _ [] _); refine wpB_nil ?_; intro V HH; (try simp only [pick, zy]); (try simp only [Act.put, zz]); (try simp only [Value.cells] at HH)) | (((with_reducible show zU _); (first | ((with_reducible show zT (Op.load _ _)); (first | refine wpB_load 0 rfl rfl rfl rfl rfl ?_ | refine wpB_load 1 rfl rfl rfl rfl rfl ?_)) | ((with_reducible show zT (Op.call _)); (refine wpB_callE (f := ?_) (args := ?_) (v := ?_) rfl ?_ ?_ ?_; rotate_left 3; (focus (intro w9 hS9; go_simp; (refine ⟨?_, ?_⟩ <;> with_reducible rfl))); (focus (first | (with_reducible exact (cmp_int _ _)) | (with_reducible exact (bits_gives0 _ _ _ _ _)) | (with_reducible exact (wideCmp_walk _ _ _ _)) | (with_reducible exact (strCompare _ _)))))) | (refine wpB_val (v := ?_) rfl ?_ ?_; rotate_left; (focus (intro w9 hS9; go_simp; all_goals (with_reducible rfl)))))); all_goals (try simp only [Act.put, zz, Act.eval, zx]))))))
  all_goals (go_ret; refine ⟨?_, HH.below rfl⟩; (rfl))

def keyC (a b : Ky) : Int := orL [cmpI a.k b.k, orL [cmpI a.hi b.hi, cmpI a.lo b.lo], Lib.compareBytes a.p.data.toList b.p.data.toList, cmpI a.l b.l]

set_option maxRecDepth 100000 in
set_option maxHeartbeats 4000000 in
theorem pcmp_walk (a0 a1 u0 l0 u1 l1 : Int) (i0 o0 i1 o1 : Nat) (p0 p1 : ByteArray) (c0 c1 x0 y0 x1 y1 : Int) (f0 g0 f1 g1 : Nat) (q0 q1 : ByteArray) (e0 e1 : Int) (h0 : Gives 34 #[kv u0 l0 i0 o0 p0, kv x0 y0 f0 g0 q0] (.int .i64 e0)) (h1 : Gives 34 #[kv u1 l1 i1 o1 p1, kv x1 y1 f1 g1 q1] (.int .i64 e1)) (w : World) : Calls Tryz.prog 26 #[.agg #[.int .i64 a0, .int .i64 a1, .int .i64 u0, .int .i64 l0, .int .u64 (i0 : Int), .int .u64 (o0 : Int), .string p0, .int .i64 u1, .int .i64 l1, .int .u64 (i1 : Int), .int .u64 (o1 : Int), .string p1], .agg #[.int .i64 c0, .int .i64 c1, .int .i64 x0, .int .i64 y0, .int .u64 (f0 : Int), .int .u64 (g0 : Int), .string q0, .int .i64 x1, .int .i64 y1, .int .u64 (f1 : Int), .int .u64 (g1 : Int), .string q1]] w fun e w' => e = .returned (.int .i64 (if samePx a0 a1 u0 l0 i0 o0 p0 u1 l1 i1 o1 p1 c0 c1 x0 y0 f0 g0 q0 x1 y1 f1 g1 q1 then 0 else orL [orL [cmpI a0 c0, cmpI a1 c1], e0, e1])) ∧ Below w.heap.size w w' := by
  have H0 := h0
  have H1 := h1
  clear h0 h1
  have HH := Hp.nil w
  go_enter Tryz.func26, Tryz.ntmps26
  go_wp2_with (first | ((with_reducible show zW (Op.buildSlice _ 2 _)); refine wpl_bs2 HH rfl rfl rfl rfl ?_; clear HH; intro b V HH; (try simp only [Act.put, zz])) | ((with_reducible show zW (Op.buildSlice _ 3 _)); refine wpl_bs3 HH rfl rfl rfl rfl rfl ?_; clear HH; intro b V HH; (try simp only [Act.put, zz])) | (go_at_call 32; (with_reducible refine (or2_Hp HH).mono ?_); rintro e V ⟨rfl, hb⟩; replace HH := HH.next hb; clear hb) | (go_at_call 32; (with_reducible refine (or3_Hp HH).mono ?_); rintro e V ⟨rfl, hb⟩; replace HH := HH.next hb; clear hb) | ((with_reducible show zX (Op.load _ _)); (first | (refine wpl_load HH 0 rfl rfl rfl rfl rfl ?_; (try simp only [Act.put, zz])) | (refine wpl_load HH 1 rfl rfl rfl rfl rfl ?_; (try simp only [Act.put, zz])))) | ((with_reducible show zX (Op.binOp BinOp.eql 34 _ _ _)); refine wpl_eq34 rfl rfl rfl rfl ?_ ?_; all_goals (intro hq; (try simp only [Act.put, zz]))) | ((with_reducible show zW (Op.box _ _)); refine wpl_box HH rfl rfl rfl ?_; clear HH; intro b V HH; simp only [Act.eval, zx, Value.cells, putl, zC, zB] at HH; (try simp only [Act.put, zz])) | ((with_reducible show Code.wp _ (Code.region _ _ true) _ _ _); (first | (refine wp_tail_Hp (id := 3) [0, 1, 2, 3, 4, 5, 6, 7, 8, 9, 10, 11, 12, 13] [14, 15, 16] (by kernel_rfl) HH ?_; clear HH; (try dsimp only); (try simp only [pick, zy]); repeat' (first | ((with_reducible show wpB _ _ _ _ [] _); refine wpB_nil ?_; intro V HH; (try simp only [pick, zy]); (try simp only [Act.put, zz]); (try simp only [Value.cells] at HH)) | (((with_reducible show zU _); (first | ((with_reducible show zT (Op.load _ _)); (first | refine wpB_load 0 rfl rfl rfl rfl rfl ?_ | refine wpB_load 1 rfl rfl rfl rfl rfl ?_)) | ((with_reducible show zT (Op.call _)); (refine wpB_callE (f := ?_) (args := ?_) (v := ?_) rfl ?_ ?_ ?_; rotate_left 3; (focus (intro w9 hS9; go_simp; (refine ⟨?_, ?_⟩ <;> with_reducible rfl))); (focus (with_reducible exact (cmp_int _ _))))) | (refine wpB_val (v := ?_) rfl ?_ ?_; rotate_left; (focus (intro w9 hS9; go_simp; all_goals (with_reducible rfl)))))); all_goals (try simp only [Act.put, zz, Act.eval, zx])))) | (refine wp_tail_Hp (id := 4) [0, 1, 2, 3, 4, 5, 6, 7, 8, 9, 10, 11, 12, 13, 14] [15, 16, 17] (by kernel_rfl) HH ?_; clear HH; (try dsimp only); (try simp only [pick, zy]); repeat' (first | ((with_reducible show wpB _ _ _ _ [] _); refine wpB_nil ?_; intro V HH; (try simp only [pick, zy]); (try simp only [Act.put, zz]); (try simp only [Value.cells] at HH)) | (((with_reducible show zU _); (first | ((with_reducible show zT (Op.move _)); refine wpB_move rfl rfl rfl ?_) | ((with_reducible show zT (Op.load _ _)); (first | refine wpB_load 1 rfl rfl rfl rfl rfl ?_ | refine wpB_load 2 rfl rfl rfl rfl rfl ?_)) | ((with_reducible show zT (Op.call _)); (refine wpB_callE (f := ?_) (args := ?_) (v := ?_) rfl ?_ ?_ ?_; rotate_left 3; (focus (intro w9 hS9; go_simp; (refine ⟨?_, ?_⟩ <;> with_reducible rfl))); (focus (first | (with_reducible exact (H0)) | (with_reducible exact (H1)))))) | (refine wpB_val (v := ?_) rfl ?_ ?_; rotate_left; (focus (intro w9 hS9; go_simp; all_goals (with_reducible rfl)))))); all_goals (try simp only [Act.put, zz, Act.eval, zx])))))))
  all_goals (go_ret; refine ⟨?_, HH.below rfl⟩; (rfl))

def cmpX (p q : Px) : Int := if p.same q then 0 else orL [orL [cmpI p.a0 q.a0, cmpI p.a1 q.a1], keyC p.k0 q.k0, keyC p.k1 q.k1]
theorem pcmp_gives (p q : Px) : Gives 26 #[p.v, q.v] (.int .i64 (cmpX p q)) := fun w =>
  pcmp_walk _ _ _ _ _ _ _ _ _ _ _ _ _ _ _ _ _ _ _ _ _ _ _ _ _ _ (fun w => keyCmp_walk _ _ _ _ _ _ _ _ _ _ w) (fun w => keyCmp_walk _ _ _ _ _ _ _ _ _ _ w) w

end Go.Proofs.YtcbahkfbdlhabaaGreatDoor
namespace Go.Proofs.YtcbahkfbdlhabaaGreatDoor
set_option linter.unusedVariables false
set_option linter.unusedSimpArgs false
open Go.RowKit
attribute [local go_sem] index24_0 index24_1 field34_0 field34_1
attribute [local irreducible] wpList Code.wp wpB

set_option maxRecDepth 100000 in
set_option maxHeartbeats 4000000 in
theorem span_walk (n : Int) (k0 s0 t0 k1 s1 t1 : Int) (ht : Int) (e0 e1 : Int) (he : Gives 24 #[.agg #[.int .i64 n, .int .i64 k0, .int .i64 s0, .int .i64 t0, .int .i64 k1, .int .i64 s1, .int .i64 t1]] (.agg #[.int .i64 e0, .int .i64 e1])) (b0 : 0 ≤ e0) (b1 : 0 ≤ e1) (c0 : e0 ≤ 128) (c1 : e1 ≤ 128) (d0 : 0 ≤ ht) (d1 : ht ≤ 256) (w : World) : Calls Tryz.prog 179 #[.agg #[.int .i64 n, .int .i64 k0, .int .i64 s0, .int .i64 t0, .int .i64 k1, .int .i64 s1, .int .i64 t1], .int .i64 ht] w fun e w' => e = .returned (.tuple #[.int .i64 (max 0 (ht - e1)), .int .i64 (min ht e0)]) ∧ Below w.heap.size w w' := by
  have HE := he
  clear he
  have w1 : IntKind.i64.wrap (ht - e1) = ht - e1 := IntWalk.i64_in _ (by omega)
  have v1 : wrap64 (ht - e1) = ht - e1 := IntWalk.wrap64_in _ (by omega)
  have m1 : (if 0 < ht - e1 then ht - e1 else 0) = max 0 (ht - e1) := by split <;> omega
  have m2 : (if e0 < ht then e0 else ht) = min ht e0 := by split <;> omega
  have m3 : (if ht - e1 < 0 then 0 else ht - e1) = max 0 (ht - e1) := by split <;> omega
  have m4 : (if ht < e0 then ht else e0) = min ht e0 := by split <;> omega
  clear b0 b1 c0 c1 d0 d1
  have HH := Hp.nil w
  go_enter Tryz.func179, Tryz.ntmps179
  go_wp2_with (first | (go_at_call 24; (with_reducible refine ((HE) _).mono ?_); rintro e V ⟨rfl, hb⟩; replace HH := HH.next hb; clear hb) | ((with_reducible show zX (Op.load _ _)); (refine wpl_load HH 0 rfl rfl rfl rfl rfl ?_; (try simp only [Act.put, zz]))) | ((with_reducible show zW (Op.store _ _ _)); (refine wpl_store HH 0 rfl rfl rfl rfl rfl rfl rfl rfl ?_; clear HH; intro V HH; simp only [Act.eval, zx, Value.cells, putl, zC, zB] at HH; (try simp only [Act.put, zz]))) | ((with_reducible show zW (Op.box _ _)); refine wpl_box HH rfl rfl rfl ?_; clear HH; intro b V HH; simp only [Act.eval, zx, Value.cells, putl, zC, zB] at HH; (try simp only [Act.put, zz])) | ((with_reducible show zW (Op.alloc _)); refine wpl_alloc HH rfl rfl ?_; clear HH; intro b V HH; simp only [Act.eval, zx, Value.cells, putl, zC, zB] at HH; (try simp only [Act.put, zz])) | ((with_reducible show Code.wp _ (Code.region _ _ true) _ _ _); (refine wp_tail_Hp (id := 2) [0, 1, 2, 3, 4, 5, 6, 7, 8, 9, 10] [] (by kernel_rfl) HH ?_; clear HH; (try dsimp only); (try simp only [pick, zy]); repeat' (first | ((with_reducible show wpB _ _ _ _ [] _); refine wpB_nil ?_; intro V HH; (try simp only [pick, zy]); (try simp only [Act.put, zz]); (try simp only [Value.cells] at HH)) | (((with_reducible show zU _); (first | ((with_reducible show zT (Op.move _)); refine wpB_move rfl rfl rfl ?_) | ((with_reducible show zT (Op.assign _)); refine wpB_assign rfl rfl rfl ?_) | ((with_reducible show zT (Op.load _ _)); (refine wpB_load 0 rfl rfl rfl rfl rfl ?_)) | ((with_reducible show zT (Op.call _)); (refine wpB_val (v := ?_) rfl ?_ ?_; rotate_left; (focus (intro w9 hS9; go_simp; all_goals (with_reducible rfl))))) | (refine wpB_val (v := ?_) rfl ?_ ?_; rotate_left; (focus (intro w9 hS9; go_simp; all_goals (with_reducible rfl)))))); all_goals (try simp only [Act.put, zz, Act.eval, zx]))))))
  all_goals (go_ret2; refine ⟨?_, HH.below rfl⟩; (clear HH; simp <;> omega))

set_option maxRecDepth 100000 in
set_option maxHeartbeats 4000000 in
theorem isNode_walk (n : Int) (k0 s0 t0 k1 s1 t1 : Int) (x y : Int) (bs : Bool) (hs : Gives 23 #[.agg #[.int .i64 n, .int .i64 k0, .int .i64 s0, .int .i64 t0, .int .i64 k1, .int .i64 s1, .int .i64 t1]] (.bool bs)) (e0 e1 : Int) (he : Gives 24 #[.agg #[.int .i64 n, .int .i64 k0, .int .i64 s0, .int .i64 t0, .int .i64 k1, .int .i64 s1, .int .i64 t1]] (.agg #[.int .i64 e0, .int .i64 e1])) (w : World) : Calls Tryz.prog 175 #[.agg #[.int .i64 n, .int .i64 k0, .int .i64 s0, .int .i64 t0, .int .i64 k1, .int .i64 s1, .int .i64 t1], .agg #[.int .i64 x, .int .i64 y]] w fun e w' => e = .returned (.bool (bs && (decide (x ≥ 0) && (decide (x ≤ e0) && (decide (y ≥ 0) && decide (y ≤ e1)))))) ∧ Below w.heap.size w w' := by
  have HS := hs
  have HE := he
  clear hs he
  have HH := Hp.nil w
  go_enter Tryz.func175, Tryz.ntmps175
  go_wp2_with (first | (go_at_call 23; (with_reducible refine ((HS) _).mono ?_); rintro e V ⟨rfl, hb⟩; replace HH := HH.next hb; clear hb; cases bs) | (go_at_call 24; (with_reducible refine ((HE) _).mono ?_); rintro e V ⟨rfl, hb⟩; replace HH := HH.next hb; clear hb) | ((with_reducible show zX (Op.load _ _)); (first | (refine wpl_load HH 1 rfl rfl rfl rfl rfl ?_; (try simp only [Act.put, zz])) | (refine wpl_load HH 2 rfl rfl rfl rfl rfl ?_; (try simp only [Act.put, zz])))) | ((with_reducible show zY (Op.load _ _)); (first | (refine wpl_load HH 0 rfl rfl rfl (by simp only [Region.wanted, yielded, zy, Option.bind_some]; decide) rfl ?_; (try simp only [Act.put, zz])) | (refine wpl_load HH 1 rfl rfl rfl (by simp only [Region.wanted, yielded, zy, Option.bind_some]; decide) rfl ?_; (try simp only [Act.put, zz])))) | ((with_reducible show zY (Op.binOp _ _ _ _ _)); (refine wpl_cmp (p := ?_) rfl rfl (by simp only [Region.wanted, yielded, zy, Option.bind_some]; decide) ?_ ?_ ?_; rotate_left; (focus (go_simp; with_reducible rfl)); all_goals (intro hq; (try (fail)); (try simp only [zw] at hq); (try simp only [Act.put, zz])))) | ((with_reducible show zW (Op.store _ _ _)); (refine wpl_store HH 0 rfl rfl rfl rfl rfl rfl rfl rfl ?_; clear HH; intro V HH; simp only [Act.eval, zx, Value.cells, putl, zC, zB] at HH; (try simp only [Act.put, zz]))) | ((with_reducible show zW (Op.box _ _)); refine wpl_box HH rfl rfl rfl ?_; clear HH; intro b V HH; simp only [Act.eval, zx, Value.cells, putl, zC, zB] at HH; (try simp only [Act.put, zz])) | ((with_reducible show zW (Op.alloc _)); refine wpl_alloc HH rfl rfl ?_; clear HH; intro b V HH; simp only [Act.eval, zx, Value.cells, putl, zC, zB] at HH; (try simp only [Act.put, zz])))
  all_goals (clear HS HE)
  all_goals (go_ret; refine ⟨?_, HH.below rfl⟩; (first | rfl | (clear HH; simp_all <;> omega)))

/-- How many nodes lie on the heights below h. -/
def spanF (e1 h : Int) : Int := max 0 (h - e1)
def spanT (e0 h : Int) : Int := min h e0
def placeN (e0 e1 : Int) : Nat → Int
  | 0 => 0
  | h + 1 => placeN e0 e1 h + (spanT e0 h - spanF e1 h + 1)
theorem placeN_bounds {e0 e1 : Int} (b0 : 0 ≤ e0) (b1 : 0 ≤ e1) (c0 : e0 ≤ 128) (c1 : e1 ≤ 128) : ∀ h : Nat, (h : Int) ≤ e0 + e1 + 1 → 0 ≤ placeN e0 e1 h ∧ placeN e0 e1 h ≤ 129 * h
  | 0, _ => ⟨by simp [placeN], by simp [placeN]⟩
  | h + 1, hh => by
    obtain ⟨i1, i2⟩ := placeN_bounds b0 b1 c0 c1 h (by omega)
    unfold placeN spanT spanF
    refine ⟨by omega, by omega⟩

set_option maxRecDepth 100000 in
set_option maxHeartbeats 4000000 in
theorem place_walk (n : Int) (k0 s0 t0 k1 s1 t1 : Int) (x y : Int) (e0 e1 : Int) (he : Gives 24 #[.agg #[.int .i64 n, .int .i64 k0, .int .i64 s0, .int .i64 t0, .int .i64 k1, .int .i64 s1, .int .i64 t1]] (.agg #[.int .i64 e0, .int .i64 e1])) (b0 : 0 ≤ e0) (b1 : 0 ≤ e1) (c0 : e0 ≤ 128) (c1 : e1 ≤ 128) (hi : Gives 175 #[.agg #[.int .i64 n, .int .i64 k0, .int .i64 s0, .int .i64 t0, .int .i64 k1, .int .i64 s1, .int .i64 t1], .agg #[.int .i64 x, .int .i64 y]] (.bool true)) (hx : 0 ≤ x) (hy : 0 ≤ y) (hx2 : x ≤ e0) (hy2 : y ≤ e1) (w : World) : Calls Tryz.prog 202 #[.agg #[.int .i64 n, .int .i64 k0, .int .i64 s0, .int .i64 t0, .int .i64 k1, .int .i64 s1, .int .i64 t1], .agg #[.int .i64 x, .int .i64 y]] w fun e w' => e = .returned (.int .i64 (placeN e0 e1 (x + y).toNat + x - spanF e1 (x + y))) ∧ Below w.heap.size w w' := by
  have HI := hi
  clear hi
  have HSP : ∀ ht : Int, 0 ≤ ht → ht ≤ 256 → Gives 179 #[.agg #[.int .i64 n, .int .i64 k0, .int .i64 s0, .int .i64 t0, .int .i64 k1, .int .i64 s1, .int .i64 t1], .int .i64 ht] (.tuple #[.int .i64 (max 0 (ht - e1)), .int .i64 (min ht e0)]) := fun ht h1 h2 w => span_walk n k0 s0 t0 k1 s1 t1 ht e0 e1 he b0 b1 c0 c1 h1 h2 w
  have v1 : wrap64 (x + y) = x + y := IntWalk.wrap64_in _ (by omega)
  have HH := Hp.nil w
  go_enter Tryz.func202, Tryz.ntmps202
  go_wp2_with (first | (go_at_call 175; (with_reducible refine ((HI) _).mono ?_); rintro e V ⟨rfl, hb⟩; replace HH := HH.next hb; clear hb) | ((with_reducible show zX (Op.load _ _)); (first | (refine wpl_load HH 0 rfl rfl rfl rfl rfl ?_; (try simp only [Act.put, zz])) | (refine wpl_load HH 1 rfl rfl rfl rfl rfl ?_; (try simp only [Act.put, zz])))) | ((with_reducible show zW (Op.box _ _)); refine wpl_box HH rfl rfl rfl ?_; clear HH; intro b V HH; simp only [Act.eval, zx, Value.cells, putl, zC, zB] at HH; (try simp only [Act.put, zz])))
  go_loopw [6, 22] (fun p i wr => ∃ k : Nat, (k : Int) ≤ x + y ∧ i = .int .i64 k ∧ p = .int .i64 (placeN e0 e1 k) ∧ Hp w wr (Hp.lst HH)) (fun _ i _ => ((x + y) - intOf i).toNat)
  case atStart => exact ⟨0, by simp; omega, rfl, rfl, HH⟩
  case round =>
    obtain ⟨k, hk, rfl, rfl, HR⟩ := hrel
    dsimp only [Hp.lst] at HR
    have HH := HR
    clear HR
    have HPB := Lib.hid (placeN_bounds b0 b1 c0 c1 k (by omega))
    go_wp2_with (first | (go_at_call 179; (with_reducible refine ((HSP _ (by omega) (by omega)) _).mono ?_); rintro e V ⟨rfl, hb⟩; replace HH := HH.next hb; clear hb) | ((with_reducible show zX (Op.load _ _)); (first | (refine wpl_load HH 0 rfl rfl rfl rfl rfl ?_; (try simp only [Act.put, zz])) | (refine wpl_load HH 1 rfl rfl rfl rfl rfl ?_; (try simp only [Act.put, zz])))) | ((with_reducible show zX (Op.binOp _ _ _ _ _)); (refine wpl_cmp (p := ?_) rfl rfl rfl ?_ ?_ ?_; rotate_left; (focus (go_simp; with_reducible rfl)); all_goals (intro hq; (try (fail)); (try simp only [zw] at hq); (try simp only [Act.put, zz])))))
    · have hp := HPB.out
      have hs : wrap64 (placeN e0 e1 k + (min (k : Int) e0 - max 0 ((k : Int) - e1) + 1)) = placeN e0 e1 (k + 1) := by
        rw [IntWalk.wrap64_in _ (by omega)]
        rfl
      exact ⟨⟨k + 1, by omega, by simp, by rw [hs], HH⟩, by simp [intOf]; omega⟩
    · have hp := HPB.out
      have hk2 : (x + y).toNat = k := by omega
      go_ret
      refine ⟨?_, HH.below rfl⟩
      rw [hk2]
      rw [IntWalk.wrap64_in (placeN e0 e1 k + x) (by omega), IntWalk.wrap64_in _ (by omega)]
      rfl

end Go.Proofs.YtcbahkfbdlhabaaGreatDoor
namespace Go.Proofs.YtcbahkfbdlhabaaGreatDoor
set_option linter.unusedVariables false
set_option linter.unusedSimpArgs false
open Go.RowKit

/-- A slice of n elements of k cells each, its cells xs; r: the entry of its row. -/
def SlR (E k : Nat) (own : Bool) (v : Value) (n : Nat) (xs : List Value) (r : List En) : Prop :=
  xs.length = n * k ∧ ((v = .slice none 0 0 ∧ n = 0 ∧ r = []) ∨
    ∃ g cap, ∃ js : List Value, v = .slice (some ⟨g, 0, none⟩) n cap ∧ r = [⟨g, .cells (xs ++ js).toArray E (0, 0), own⟩] ∧ (cap - n) * k ≤ js.length ∧ n ≤ cap ∧ cap ≤ maxLen)
theorem SlR.nil (E k : Nat) (own : Bool) : SlR E k own (.slice none 0 0) 0 [] [] := ⟨by simp, .inl ⟨rfl, rfl, rfl⟩⟩
/-- The element type of a slice. -/
structure ElT (T E k bytes : Nat) (z : Value) : Prop where
  sl : Tryz.prog.underlying T = some (.slice E)
  info : ∃ i, Tryz.prog.info? E = some i ∧ i.zero = some z ∧ i.size = k ∧ i.bytes = bytes
  zs : z.cells.size = k
  pos : 0 < k
theorem Hp.swap1 {w0 W : World} {e : En} {r l : List En} (h : Hp w0 W (e :: (r ++ l))) : Hp w0 W (r ++ e :: l) := by
  have hm : ∀ x, x ∈ e :: (r ++ l) ↔ x ∈ r ++ e :: l := fun x => by simp; constructor <;> (rintro (h | h | h) <;> simp [h])
  refine ⟨Lies.of fun x hx => h.lies.mem x ((hm x).2 hx), ?_, fun x hx => h.own x ((hm x).2 hx), h.os, h.tape, h.output, h.size, fun k hk hn => h.rest k hk fun x hx => hn x ((hm x).1 hx)⟩
  have := h.nodup
  rw [List.map_append, List.map_cons]
  rw [List.map_cons, List.map_append] at this
  exact (List.perm_middle.nodup_iff).2 this
theorem Hp.perm {w0 W : World} {l l' : List En} (h : Hp w0 W l) (hp : l.Perm l') : Hp w0 W l' :=
  ⟨Lies.of fun x hx => h.lies.mem x (hp.mem_iff.2 hx), (hp.map En.b).nodup_iff.1 h.nodup, fun x hx => h.own x (hp.mem_iff.2 hx), h.os, h.tape, h.output, h.size, fun k hk hn => h.rest k hk fun x hx => hn x (hp.mem_iff.1 hx)⟩
theorem Hp.comm {w0 W : World} {l r : List En} (h : Hp w0 W (r ++ l)) : Hp w0 W (l ++ r) := h.perm List.perm_append_comm
/-- Own entries may be let go. -/
theorem Hp.dropAll {w0 W : World} : ∀ {r l : List En}, Hp w0 W (r ++ l) → (∀ e ∈ r, e.own = true) → Hp w0 W l
  | [], _, h, _ => h
  | e :: r, l, h, ho => Hp.dropAll (r := r) (Hp.drop (e := e) h (ho e (by simp))) (fun x hx => ho x (by simp [hx]))
theorem setRow_Turns {W : World} {g : Nat} {old new : Array Value} {t : TypeId} (h : W.heap[g]? = some (.cells old t (0, 0))) : Turns W g (.cells new t (0, 0)) (W.setRow g new) :=
  ⟨setRow_heap _ _ _ _ _ _ h, by simp [World.setRow], fun k hk => setRow_other _ _ _ _ hk, rfl, rfl, rfl⟩
theorem zeroCells_len (z : Value) (n : Nat) : (Builtin.zeroCells z.cells n).toList.length = n * z.cells.size := by simp [Builtin.zeroCells]
/-- append of one element: what it yields, and what lies then. -/
theorem run_append_en {T E k bytes : Nat} {z : Value} (hT : ElT T E k bytes z) {w0 W : World} {l r : List En} {v : Value} {n bn : Nat} {xs ys : List Value} (ty : TypeId) (hR : SlR E k true v n xs r)
    (HH : Hp w0 W (⟨bn, .cells ys.toArray E (0, 0), true⟩ :: (r ++ l))) (hl : ys.length = k) (h1 : ∀ u ∈ ys, u.oneCell' = true) (hb : (n + 1) * bytes ≤ 70368744177664) (hb2 : n + 1 ≤ 70368744177664) :
    ∃ v' r' V, (Builtin.append_ #[T, T] ty #[v, .slice (some ⟨bn, 0, none⟩) 1 1]).run Tryz.prog W = .ok v' V ∧ SlR E k true v' (n + 1) (xs ++ ys) r' ∧ Hp w0 V (r' ++ l) := by
  obtain ⟨i, hi, hz, hs, hby⟩ := hT.info
  have hnews : ∀ j u, ys[j]? = some u → W.cell? ((⟨bn, 0, none⟩ : Addr).add j) = some u := fun j u hu => by
    have hr : W.heap[bn]? = some (.cells ys.toArray E (0, 0)) := HH.lies.1
    have hadd : (⟨bn, 0, none⟩ : Addr).add j = ⟨bn, j, none⟩ := by unfold Addr.add; split <;> simp_all
    rw [hadd, cell_of_row W bn j _ _ _ hr]
    simpa using hu
  have hxl := hR.1
  have hxys : (xs ++ ys).length = (n + 1) * k := by rw [List.length_append, hxl, hl, Nat.add_mul, Nat.one_mul]
  have hmax : n + 1 ≤ maxLen := by unfold maxLen; omega
  have hown : ∀ e ∈ r, e.own = true := by
    rcases hR.2 with ⟨_, _, rfl⟩ | ⟨g, cap, js, _, rfl, _⟩ <;> simp
  have hrest : Hp w0 W l := (HH.drop rfl).dropAll hown
  rcases hR.2 with ⟨rfl, rfl, rfl⟩ | ⟨g, cap, js, rfl, rfl, hjs, hnc, hcm⟩
  · have hx0 : xs = [] := List.eq_nil_of_length_eq_zero (by simpa using hxl)
    subst hx0
    have hrun := run_append_nil (P := Tryz.prog) W T ty E i z hT.sl hi hz ⟨bn, 0, none⟩ 1 1 ys (by rw [hs, hl]; simp) hnews (by omega) (by omega) (by rw [hby]; omega)
    have hge := grownCap_ge W 1 0 E
    have hle := grownCap_le_maxLen W 1 0 E hmax
    refine ⟨_, [⟨W.heap.size, .cells (ys ++ (Builtin.zeroCells z.cells (grownCap W 1 0 E - 1)).toList).toArray E (0, 0), true⟩], _, hrun, ⟨by simpa using hxys, .inr ⟨_, _, (Builtin.zeroCells z.cells (grownCap W 1 0 E - 1)).toList, rfl, by simp, by rw [zeroCells_len, hT.zs]; exact Nat.le_refl _, hge, hle⟩⟩, ?_⟩
    have := hrest.drew.alloc (.cells (ys.toArray ++ Builtin.zeroCells z.cells (grownCap W 1 0 E - 1)) E)
    have e : (ys ++ (Builtin.zeroCells z.cells (grownCap W 1 0 E - 1)).toList).toArray = ys.toArray ++ Builtin.zeroCells z.cells (grownCap W 1 0 E - 1) := by simp
    rw [e]
    exact this
  · have hg : W.heap[g]? = some (.cells (xs ++ js).toArray E (0, 0)) := HH.lies.2.1
    by_cases hroom : n + 1 ≤ cap
    · have hjk : k ≤ js.length := by
        calc k = 1 * k := by simp
          _ ≤ (cap - n) * k := Nat.mul_le_mul_right _ (by omega)
          _ ≤ js.length := hjs
      have hrun := run_append_room (P := Tryz.prog) W T ty E i hT.sl hi g n cap (xs ++ js).toArray hg ⟨bn, 0, none⟩ 1 1 ys (by rw [hs, hl]; simp) hnews h1 hroom (by rw [hs, hl]; simp [hxl]; omega)
      refine ⟨_, [⟨g, .cells ((xs ++ ys) ++ js.drop k).toArray E (0, 0), true⟩], _, hrun, ⟨hxys, .inr ⟨g, cap, js.drop k, rfl, rfl, ?_, hroom, hcm⟩⟩, ?_⟩
      · rw [List.length_drop]
        rw [show cap - n = (cap - (n + 1)) + 1 by omega, Nat.add_mul] at hjs
        omega
      · have h2 : Hp w0 W (⟨g, .cells (xs ++ js).toArray E (0, 0), true⟩ :: l) := HH.drop rfl
        have ht := h2.turn 0 rfl (setRow_Turns (new := ((xs ++ js).toArray.toList.take (n * i.size) ++ ys ++ (xs ++ js).toArray.toList.drop (n * i.size + ys.length)).toArray) hg)
        have e : ((xs ++ js).toArray.toList.take (n * i.size) ++ ys ++ (xs ++ js).toArray.toList.drop (n * i.size + ys.length)) = (xs ++ ys) ++ js.drop k := by
          rw [hs, ← hxl, hl]
          simp
        rw [e] at ht ⊢
        exact ht
    · have hncap : n = cap := by omega
      subst hncap
      have holds : ∀ j u, xs[j]? = some u → W.cell? ((⟨g, 0, none⟩ : Addr).add j) = some u := fun j u hu => by
        have hadd : (⟨g, 0, none⟩ : Addr).add j = ⟨g, j, none⟩ := by unfold Addr.add; split <;> simp_all
        have hj : j < xs.length := (List.getElem?_eq_some_iff.1 hu).1
        rw [hadd, cell_of_row W g j _ _ _ hg]
        simpa [List.getElem?_append_left hj] using hu
      have hfit : Builtin.nextslicecap (n + 1) n * i.bytes ≤ 281474976710656 := by
        rw [hby]
        exact growslice_fits (by omega) (by omega)
      have hrun := run_append_grow (P := Tryz.prog) W T ty E i z hT.sl hi hz ⟨g, 0, none⟩ n n xs (by rw [hs]; exact hxl) holds ⟨bn, 0, none⟩ 1 1 ys (by rw [hs, hl]; simp) hnews (by omega) (by have := hmax; unfold maxLen at this; omega) hfit
      have hge := grownCap_ge W (n + 1) n E
      have hle := grownCap_le_maxLen W (n + 1) n E hmax
      refine ⟨_, [⟨W.heap.size, .cells ((xs ++ ys) ++ (Builtin.zeroCells z.cells (grownCap W (n + 1) n E - (n + 1))).toList).toArray E (0, 0), true⟩], _, hrun, ⟨hxys, .inr ⟨_, _, (Builtin.zeroCells z.cells (grownCap W (n + 1) n E - (n + 1))).toList, rfl, rfl, by rw [zeroCells_len, hT.zs]; exact Nat.le_refl _, hge, hle⟩⟩, ?_⟩
      have := hrest.drew.alloc (.cells (xs.toArray ++ ys.toArray ++ Builtin.zeroCells z.cells (grownCap W (n + 1) n E - (n + 1))) E)
      have e : ((xs ++ ys) ++ (Builtin.zeroCells z.cells (grownCap W (n + 1) n E - (n + 1))).toList).toArray = xs.toArray ++ ys.toArray ++ Builtin.zeroCells z.cells (grownCap W (n + 1) n E - (n + 1)) := by simp
      rw [e]
      exact this
theorem wpl_append {ops : Array Oper} {rest : List Oper} {o : Oper} {a : Act} {Q : Exit → Act → World → Prop} {T E k bytes : Nat} {z : Value} (hT : ElT T E k bytes z) {w0 W : World} {l r : List En} {v : Value} {n bn : Nat} {xs ys : List Value} {x y : Operand}
    (HH : Hp w0 W (⟨bn, .cells ys.toArray E (0, 0), true⟩ :: (l ++ r))) (hR : SlR E k true v n xs r) (hop : o.op = .call { callee := .builtin .append, args := #[x, y], argTypes := #[T, T] }) (hw : Region.wanted o (yielded ops a.tmps) = true)
    (hx : a.eval x = v) (hy : a.eval y = .slice (some ⟨bn, 0, none⟩) 1 1) (hl : ys.length = k) (h1 : ys.all (·.oneCell') = true) (hb : (n + 1) * bytes ≤ 70368744177664) (hb2 : n + 1 ≤ 70368744177664)
    (h : ∀ v' r' V, SlR E k true v' (n + 1) (xs ++ ys) r' → Hp w0 V (l ++ r') → wpList Tryz.prog ops Q rest (a.put o.dst v') V) : wpList Tryz.prog ops Q (o :: rest) a W :=
  wpList_on hw fun K hK => by
    obtain ⟨v', r', V, hrun, hR', hV⟩ := run_append_en hT o.type hR (HH.perm (List.Perm.cons _ List.perm_append_comm)) hl (List.all_eq_true.1 h1) hb hb2
    unfold Oper.wp
    simp [execOp, hop, resolve, invoke, builtin, hx, hy, hrun, Result.andThen]
    exact hK _ _ (h _ _ _ hR' hV.comm)
/-- A callee's new blocks beside what lies. -/
theorem Hp.join {w0 W V : World} {l r : List En} (h : Hp w0 W l) (hr : Hp W V r) (ho : ∀ e ∈ r, e.own = true) : Hp w0 V (r ++ l) := by
  have hge : ∀ e ∈ r, W.heap.size ≤ e.b := fun e he => hr.own e he (ho e he)
  refine ⟨Lies.of fun e he => ?_, ?_, fun e he hw => ?_, hr.os.trans h.os, hr.tape.trans h.tape, hr.output.trans h.output, Nat.le_trans h.size hr.size, fun k hk hn => ?_⟩
  · rcases List.mem_append.1 he with he | he
    · exact hr.lies.mem e he
    · have hlt := h.lt e he
      rw [hr.rest e.b hlt (fun x hx hb => by have := hge x hx; omega)]
      exact h.lies.mem e he
  · rw [List.map_append, List.nodup_append]
    refine ⟨hr.nodup, h.nodup, fun x hx y hy hxy => ?_⟩
    obtain ⟨e, he, rfl⟩ := List.mem_map.1 hx
    obtain ⟨e2, he2, rfl⟩ := List.mem_map.1 hy
    have := hge e he
    have := h.lt e2 he2
    omega
  · rcases List.mem_append.1 he with he | he
    · exact Nat.le_trans h.size (hge e he)
    · exact h.own e he hw
  · have hkW : k < W.heap.size := Nat.lt_of_lt_of_le hk h.size
    rw [hr.rest k hkW (fun x hx hb => by have := hge x hx; omega)]
    exact h.rest k hk (fun e he => hn e (by simp [he]))
theorem SlR.own {E k n : Nat} {v : Value} {xs : List Value} {r : List En} (h : SlR E k true v n xs r) : ∀ e ∈ r, e.own = true := by
  rcases h.2 with ⟨_, _, rfl⟩ | ⟨g, cap, js, _, rfl, _⟩ <;> simp
/-- A call that yields a slice in a new row. -/
abbrev GivesS (f : FuncId) (args : Array Value) (E k n : Nat) (xs : List Value) : Prop := ∀ w, Calls Tryz.prog f args w fun e w' => ∃ v r, e = .returned v ∧ SlR E k true v n xs r ∧ Hp w w' r
theorem elt173 : ElT 173 34 12 112 (.agg #[.int .i64 0, .int .i64 0, .int .i64 0, .int .i64 0, .int .u64 0, .int .u64 0, .string ⟨#[]⟩, .int .i64 0, .int .i64 0, .int .u64 0, .int .u64 0, .string ⟨#[]⟩]) :=
  ⟨by kernel_rfl, by
    have h : (Tryz.prog.info? 34).map (fun i => (i.zero, i.size, i.bytes)) = some (some (.agg #[.int .i64 0, .int .i64 0, .int .i64 0, .int .i64 0, .int .u64 0, .int .u64 0, .string ⟨#[]⟩, .int .i64 0, .int .i64 0, .int .u64 0, .int .u64 0, .string ⟨#[]⟩]), 12, 112) := by kernel_rfl
    exact info_parts h, rfl, by decide⟩
set_option maxRecDepth 100000 in
theorem run_bs173 (a b c d e f g h i j k l : Value) (w : World) : (Instr.buildSlice 173 1 #[(0, .agg #[a, b, c, d, e, f, g, h, i, j, k, l])]).run Tryz.prog w = .ok (.slice (some ⟨w.heap.size, 0, none⟩) 1 1) (w.alloc (.cells #[a, b, c, d, e, f, g, h, i, j, k, l] 34)) := by
  simp [go_sem]
theorem wpl_bs173 {ops : Array Oper} {rest : List Oper} {o : Oper} {act : Act} {Q : Exit → Act → World → Prop} {w0 W : World} {L : List En} {x : Operand} {a b c d e f g h i j k l : Value} (HH : Hp w0 W L) (hop : o.op = .buildSlice 173 1 #[(0, x)]) (hw : Region.wanted o (yielded ops act.tmps) = true) (hx : act.eval x = .agg #[a, b, c, d, e, f, g, h, i, j, k, l])
    (hh : ∀ b' V, Hp w0 V (⟨b', .cells #[a, b, c, d, e, f, g, h, i, j, k, l] 34 (0, 0), true⟩ :: L) → wpList Tryz.prog ops Q rest (act.put o.dst (.slice (some ⟨b', 0, none⟩) 1 1)) V) : wpList Tryz.prog ops Q (o :: rest) act W :=
  wpList_on hw fun K hK => by
    unfold Oper.wp execOp
    simp [hop, hx, run_bs173, Result.andThen]
    exact hK _ _ (hh _ _ (HH.alloc _))
end Go.Proofs.YtcbahkfbdlhabaaGreatDoor
namespace Go.Proofs.YtcbahkfbdlhabaaGreatDoor
set_option linter.unusedVariables false
set_option linter.unusedSimpArgs false
open Go.RowKit
attribute [local go_sem] index24_0 index24_1 field34_0 field34_1
attribute [local irreducible] wpList Code.wp wpB

theorem wpl_append0 {ops : Array Oper} {rest : List Oper} {o : Oper} {a : Act} {Q : Exit → Act → World → Prop} {T E k bytes : Nat} {z : Value} (hT : ElT T E k bytes z) {w0 W : World} {r : List En} {v : Value} {n bn : Nat} {xs ys : List Value} {x y : Operand}
    (hR : SlR E k true v n xs r) (HH : Hp w0 W (⟨bn, .cells ys.toArray E (0, 0), true⟩ :: r)) (hop : o.op = .call { callee := .builtin .append, args := #[x, y], argTypes := #[T, T] }) (hw : Region.wanted o (yielded ops a.tmps) = true)
    (hx : a.eval x = v) (hy : a.eval y = .slice (some ⟨bn, 0, none⟩) 1 1) (hl : ys.length = k) (h1 : ys.all (·.oneCell') = true) (hb : (n + 1) * bytes ≤ 70368744177664) (hb2 : n + 1 ≤ 70368744177664)
    (h : ∀ v' r' V, SlR E k true v' (n + 1) (xs ++ ys) r' → Hp w0 V (r') → wpList Tryz.prog ops Q rest (a.put o.dst v') V) : wpList Tryz.prog ops Q (o :: rest) a W :=
  wpl_append hT (l := []) HH hR hop hw hx hy hl h1 hb hb2 h
theorem wpl_append1 {ops : Array Oper} {rest : List Oper} {o : Oper} {a : Act} {Q : Exit → Act → World → Prop} {T E k bytes : Nat} {z : Value} (hT : ElT T E k bytes z) {w0 W : World} {r : List En} {e0 : En} {v : Value} {n bn : Nat} {xs ys : List Value} {x y : Operand}
    (hR : SlR E k true v n xs r) (HH : Hp w0 W (⟨bn, .cells ys.toArray E (0, 0), true⟩ :: e0 :: r)) (hop : o.op = .call { callee := .builtin .append, args := #[x, y], argTypes := #[T, T] }) (hw : Region.wanted o (yielded ops a.tmps) = true)
    (hx : a.eval x = v) (hy : a.eval y = .slice (some ⟨bn, 0, none⟩) 1 1) (hl : ys.length = k) (h1 : ys.all (·.oneCell') = true) (hb : (n + 1) * bytes ≤ 70368744177664) (hb2 : n + 1 ≤ 70368744177664)
    (h : ∀ v' r' V, SlR E k true v' (n + 1) (xs ++ ys) r' → Hp w0 V (e0 :: r') → wpList Tryz.prog ops Q rest (a.put o.dst v') V) : wpList Tryz.prog ops Q (o :: rest) a W :=
  wpl_append hT (l := [e0]) HH hR hop hw hx hy hl h1 hb hb2 h
theorem wpl_append3 {ops : Array Oper} {rest : List Oper} {o : Oper} {a : Act} {Q : Exit → Act → World → Prop} {T E k bytes : Nat} {z : Value} (hT : ElT T E k bytes z) {w0 W : World} {r : List En} {e0 e1 e2 : En} {v : Value} {n bn : Nat} {xs ys : List Value} {x y : Operand}
    (hR : SlR E k true v n xs r) (HH : Hp w0 W (⟨bn, .cells ys.toArray E (0, 0), true⟩ :: e0 :: e1 :: e2 :: r)) (hop : o.op = .call { callee := .builtin .append, args := #[x, y], argTypes := #[T, T] }) (hw : Region.wanted o (yielded ops a.tmps) = true)
    (hx : a.eval x = v) (hy : a.eval y = .slice (some ⟨bn, 0, none⟩) 1 1) (hl : ys.length = k) (h1 : ys.all (·.oneCell') = true) (hb : (n + 1) * bytes ≤ 70368744177664) (hb2 : n + 1 ≤ 70368744177664)
    (h : ∀ v' r' V, SlR E k true v' (n + 1) (xs ++ ys) r' → Hp w0 V (e0 :: e1 :: e2 :: r') → wpList Tryz.prog ops Q rest (a.put o.dst v') V) : wpList Tryz.prog ops Q (o :: rest) a W :=
  wpl_append hT (l := [e0, e1, e2]) HH hR hop hw hx hy hl h1 hb hb2 h
set_option maxRecDepth 100000 in
set_option maxHeartbeats 4000000 in
theorem clip_some (g n cap : Nat) (hn : n ≤ cap) (hc : cap ≤ maxLen) (w : World) : Calls Tryz.prog 176 #[.slice (some ⟨g, 0, none⟩) n cap] w fun e w' => e = .returned (.slice (some ⟨g, 0, none⟩) n n) ∧ Below w.heap.size w w' := by
  have HH := Hp.nil w
  go_enter Tryz.func176, Tryz.ntmps176
  go_wp2_with (fail)
  all_goals (go_ret; refine ⟨?_, HH.below rfl⟩; (rfl))

set_option maxRecDepth 100000 in
set_option maxHeartbeats 4000000 in
theorem parents_walk (k0 s0 t0 k1 s1 t1 : Int) (a0 a1 u0 l0 u1 l1 : Int) (i0 o0 i1 o1 : Nat) (p0 p1 : ByteArray) (hr : Gives 17 #[.agg #[.int .i64 1, .int .i64 k0, .int .i64 s0, .int .i64 t0, .int .i64 k1, .int .i64 s1, .int .i64 t1], .agg #[.int .i64 a0, .int .i64 a1, .int .i64 u0, .int .i64 l0, .int .u64 (i0 : Int), .int .u64 (o0 : Int), .string p0, .int .i64 u1, .int .i64 l1, .int .u64 (i1 : Int), .int .u64 (o1 : Int), .string p1]] (.bool true)) (hn : Gives 175 #[.agg #[.int .i64 1, .int .i64 k0, .int .i64 s0, .int .i64 t0, .int .i64 k1, .int .i64 s1, .int .i64 t1], .agg #[.int .i64 (a0 + 1), .int .i64 a1]] (.bool true)) (u : Px) (hu : Gives 146 #[.agg #[.int .i64 1, .int .i64 k0, .int .i64 s0, .int .i64 t0, .int .i64 k1, .int .i64 s1, .int .i64 t1], .agg #[.int .i64 a0, .int .i64 a1, .int .i64 u0, .int .i64 l0, .int .u64 (i0 : Int), .int .u64 (o0 : Int), .string p0, .int .i64 u1, .int .i64 l1, .int .u64 (i1 : Int), .int .u64 (o1 : Int), .string p1], .agg #[.int .i64 (a0 + 1), .int .i64 a1]] u.v) (b0 : 0 ≤ a0) (b1 : a0 ≤ 128) (w : World) : Calls Tryz.prog 163 #[.agg #[.int .i64 1, .int .i64 k0, .int .i64 s0, .int .i64 t0, .int .i64 k1, .int .i64 s1, .int .i64 t1], .agg #[.int .i64 a0, .int .i64 a1, .int .i64 u0, .int .i64 l0, .int .u64 (i0 : Int), .int .u64 (o0 : Int), .string p0, .int .i64 u1, .int .i64 l1, .int .u64 (i1 : Int), .int .u64 (o1 : Int), .string p1]] w fun e w' => ∃ g js, e = .returned (.slice (some ⟨g, 0, none⟩) 1 1) ∧ Hp w w' [⟨g, .cells ([.int .i64 u.a0, .int .i64 u.a1, .int .i64 u.k0.k, .int .i64 u.k0.l, .int .u64 (u.k0.hi : Int), .int .u64 (u.k0.lo : Int), .string u.k0.p, .int .i64 u.k1.k, .int .i64 u.k1.l, .int .u64 (u.k1.hi : Int), .int .u64 (u.k1.lo : Int), .string u.k1.p] ++ js).toArray 34 (0, 0), true⟩] := by
  have HR := hr
  have HN := hn
  have HU := hu
  clear hr hn hu
  have w1 : IntKind.i64.wrap (a0 + 1) = a0 + 1 := IntWalk.i64_in _ (by omega)
  have w2 : wrap64 (a0 + 1) = a0 + 1 := IntWalk.wrap64_in _ (by omega)
  clear b0 b1
  have HS := SlR.nil 34 12 true
  have HH := Hp.nil w
  go_enter Tryz.func163, Tryz.ntmps163
  go_wp2_with (first | ((with_reducible show zW (Op.buildSlice 173 _ _)); refine wpl_bs173 HH rfl rfl rfl ?_; clear HH; intro b V HH; (try simp only [Act.put, zz])) | (at_builtin; (refine wpl_append3 elt173 HS HH rfl rfl rfl rfl rfl rfl (by omega) (by omega) ?_); clear HH HS; intro v r V HS HH; (try simp only [Act.put, zz])) | ((with_reducible show Code.wp _ (Code.loop _) _ _ _); refine wp_loop_rounds 2 ?_; rw [rounds_succ]) | ((with_reducible show Code.rounds _ _ _ _ _ _); rw [rounds_succ]) | (go_at_call 17; (with_reducible refine ((HR) _).mono ?_); rintro e V ⟨rfl, hb⟩; replace HH := HH.next hb; clear hb) | (go_at_call 175; (with_reducible refine ((HN) _).mono ?_); rintro e V ⟨rfl, hb⟩; replace HH := HH.next hb; clear hb) | (go_at_call 146; (with_reducible refine ((HU) _).mono ?_); rintro e V ⟨rfl, hb⟩; replace HH := HH.next hb; clear hb) | ((with_reducible show zX (Op.load _ _)); (first | (refine wpl_load HH 0 rfl rfl rfl rfl rfl ?_; (try simp only [Act.put, zz])) | (refine wpl_load HH 1 rfl rfl rfl rfl rfl ?_; (try simp only [Act.put, zz])) | (refine wpl_load HH 2 rfl rfl rfl rfl rfl ?_; (try simp only [Act.put, zz])))) | ((with_reducible show zX (Op.binOp _ _ _ _ _)); (refine wpl_cmp (p := ?_) rfl rfl rfl ?_ ?_ ?_; rotate_left; (focus (go_simp; with_reducible rfl)); all_goals (intro hq; (try (contradiction)); (try simp only [zw] at hq); (try simp only [Act.put, zz])))) | ((with_reducible show zW (Op.store _ _ _)); (refine wpl_store HH 0 rfl rfl rfl rfl rfl rfl rfl rfl ?_; clear HH; intro V HH; simp only [Act.eval, zx, Value.cells, putl, zC, zB] at HH; (try simp only [Act.put, zz]))) | ((with_reducible show zW (Op.box _ _)); refine wpl_box HH rfl rfl rfl ?_; clear HH; intro b V HH; simp only [Act.eval, zx, Value.cells, putl, zC, zB] at HH; (try simp only [Act.put, zz])) | ((with_reducible show zW (Op.alloc _)); refine wpl_alloc HH rfl rfl ?_; clear HH; intro b V HH; simp only [Act.eval, zx, Value.cells, putl, zC, zB] at HH; (try simp only [Act.put, zz])))
  rcases HS.2 with ⟨_, h0, _⟩ | ⟨g, cap, js, rfl, rfl, h1, h2, h3⟩
  · cases h0
  refine (clip_some g 1 cap h2 h3 _).mono ?_
  rintro e V ⟨rfl, hb⟩
  replace HH := HH.next hb
  clear hb
  go_wp2_with fail
  go_ret
  exact ⟨g, js, rfl, ((HH.drop rfl).drop rfl).drop rfl⟩

theorem Hp.dropR {w0 W : World} {e : En} {l : List En} (h : Hp w0 W (e :: l)) (ho : l.all (·.own) = true) : Hp w0 W [e] := by
  have h2 : Hp w0 W (l ++ [e]) := h.perm (List.perm_append_comm (l₁ := [e]))
  exact h2.dropAll (fun x hx => List.all_eq_true.1 ho x hx)
/-- vs over l from o on. -/
theorem putl_eq : ∀ (l : List Value) (o : Nat) (vs : List Value), o + vs.length ≤ l.length → putl l o vs = l.take o ++ vs ++ l.drop (o + vs.length)
  | l, o, [], _ => by rw [putl_nil]; simp
  | [], 0, v :: r, h => by simp at h
  | x :: l, 0, v :: r, h => by
    show v :: putl l 0 r = _
    rw [putl_eq l 0 r (by simp at h ⊢; omega)]
    simp [Nat.add_comm]
  | [], o + 1, vs, h => by simp at h
  | x :: l, o + 1, v :: r, h => by
    show x :: putl l o (v :: r) = _
    rw [putl_eq l o (v :: r) (by simp at h ⊢; omega), show o + 1 + (v :: r).length = (o + (v :: r).length) + 1 by omega, zD, zE]
    rfl
def kcells (x : Ky) : List Value := [.int .i64 x.k, .int .i64 x.l, .int .u64 (x.hi : Int), .int .u64 (x.lo : Int), .string x.p]
def krow (f : Nat → Ky) (m : Nat) : List Value := (List.range m).flatMap fun j => kcells (f j)
theorem krow_succ (f : Nat → Ky) (m : Nat) : krow f (m + 1) = krow f m ++ kcells (f m) := by
  unfold krow
  rw [List.range_succ, List.flatMap_append]
  simp
theorem krow_len (f : Nat → Ky) : ∀ m, (krow f m).length = m * 5
  | 0 => rfl
  | m + 1 => by rw [krow_succ, List.length_append, krow_len f m]; show m * 5 + 5 = _; omega
theorem krow_put (f : Nat → Ky) (m k : Nat) (L : List Value) (hl : L.length = m * 5) (hk : k < m) (ht : L.take (k * 5) = krow f k) : (putl L (k * 5) (kcells (f k))).length = m * 5 ∧ (putl L (k * 5) (kcells (f k))).take ((k + 1) * 5) = krow f (k + 1) := by
  have hle : k * 5 + (kcells (f k)).length ≤ L.length := by rw [hl]; show k * 5 + 5 ≤ _; omega
  rw [putl_eq L _ _ hle]
  have h5 : (kcells (f k)).length = 5 := rfl
  constructor
  · simp [hl, h5]; omega
  · rw [ht, krow_succ, List.take_append_of_le_length (by rw [List.length_append, krow_len, h5]; omega), List.take_of_length_le (by rw [List.length_append, krow_len, h5]; omega)]
instance : Shp 214 false 1 := ⟨fun _ => by kernel_rfl, by kernel_rfl⟩
theorem elt214 : ElT 214 31 5 48 (.agg #[.int .i64 0, .int .i64 0, .int .u64 0, .int .u64 0, .string ⟨#[]⟩]) :=
  ⟨by kernel_rfl, by
    have h : (Tryz.prog.info? 31).map (fun i => (i.zero, i.size, i.bytes)) = some (some (.agg #[.int .i64 0, .int .i64 0, .int .u64 0, .int .u64 0, .string ⟨#[]⟩]), 5, 48) := by kernel_rfl
    exact info_parts h, rfl, by decide⟩
/-- The next key of the row. -/
theorem wpl_krow {ops : Array Oper} {rest : List Oper} {o : Oper} {a : Act} {Q : Exit → Act → World → Prop} {w0 W : World} {l : List En} {x y : Operand} {b m k : Nat} {L : List Value} {f : Nat → Ky} (HH : Hp w0 W (⟨b, .cells L.toArray 31 (0, 0), true⟩ :: l)) (hop : o.op = .store 31 x y) (hw : Region.wanted o (yielded ops a.tmps) = true)
    (hx : a.eval x = .pointer (some ⟨b, k * 5, none⟩)) (hy : a.eval y = (f k).v) (hl : L.length = m * 5) (hk : k < m) (ht : L.take (k * 5) = krow f k)
    (h : ∀ (L' : List Value) (V : World), L'.length = m * 5 → L'.take ((k + 1) * 5) = krow f (k + 1) → Hp w0 V (⟨b, .cells L'.toArray 31 (0, 0), true⟩ :: l) → wpList Tryz.prog ops Q rest (a.put o.dst undef) V) : wpList Tryz.prog ops Q (o :: rest) a W :=
  wpList_on hw fun K hK => by
    have hs : Shp 31 true 5 := inferInstance
    have hp := krow_put f m k L hl hk ht
    have hr := run_store_en hs (v := (f k).v) (HH.get 0 rfl) rfl rfl (by rw [hl]; show k * 5 + 5 ≤ _; omega : k * 5 + 5 ≤ L.length)
    unfold Oper.wp execOp
    simp only [hop, hx, hy, Sem.run_bind, Sem.run_pure, Result.andThen_ok, hr]
    have ht2 := HH.turn 0 rfl (Turns.setCells (kcells (f k)) (k * 5) (HH.get 0 rfl))
    exact hK _ _ (h _ _ hp.1 hp.2 ht2)
/-- make, of so many elements. -/
theorem wpl_make {ops : Array Oper} {rest : List Oper} {o : Oper} {a : Act} {Q : Exit → Act → World → Prop} {T E k bytes : Nat} {z : Value} (hT : ElT T E k bytes z) {w0 W : World} {l : List En} {x y : Operand} {m : Nat} (HH : Hp w0 W l) (hop : o.op = .makeSlice T x y) (hw : Region.wanted o (yielded ops a.tmps) = true)
    (hx : a.eval x = .int .i64 (m : Int)) (hy : a.eval y = .int .i64 (m : Int)) (hm : bytes * m ≤ 281474976710656) (hm2 : m ≤ 281474976710656)
    (h : ∀ (b : Nat) (L : List Value) (V : World), L.length = m * k → Hp w0 V (⟨b, .cells L.toArray E (0, 0), true⟩ :: l) → wpList Tryz.prog ops Q rest (a.put o.dst (.slice (some ⟨b, 0, none⟩) m m)) V) : wpList Tryz.prog ops Q (o :: rest) a W :=
  wpList_on hw fun K hK => by
    obtain ⟨i, hi, hz, hs, hby⟩ := hT.info
    have hb' : (i.bytes : Int) * (m : Int) ≤ 281474976710656 := by
      have h : ((i.bytes * m : Nat) : Int) ≤ 281474976710656 := by rw [hby]; omega
      rwa [Int.natCast_mul] at h
    have hr := run_make (P := Tryz.prog) W T E i z hT.sl hi hz .i64 .i64 m m (by omega) (Int.le_refl _) hb' (by omega)
    unfold Oper.wp execOp
    simp only [hop, hx, hy, Sem.run_bind, Sem.run_pure, Result.andThen_ok, hr]
    have := HH.alloc (.cells (madeCells z.cells ((m : Int).toNat * i.size)) E)
    exact hK _ _ (h _ (madeCells z.cells ((m : Int).toNat * i.size)).toList _ (by simp [madeCells, hs]) this)

set_option maxRecDepth 100000 in
set_option maxHeartbeats 4000000 in
theorem keys0_walk (n : Int) (k0 s0 t0 k1 s1 t1 : Int) (a0 a1 u0 l0 u1 l1 : Int) (i0 o0 i1 o1 : Nat) (p0 p1 : ByteArray) (dp : Int) (m : Nat) (f : Nat → Ky) (hd : Gives 42 #[dv k0 s0 t0] (.int .i64 dp)) (hm : dp + 1 = (m : Int)) (hm2 : m ≤ 129) (hc : ∀ j : Nat, Gives 165 #[dv k0 s0 t0, .int .i64 (j : Int), kv u0 l0 (i0 : Int) (o0 : Int) p0] (f j).v) (w : World) : Calls Tryz.prog 168 #[.agg #[.int .i64 n, .int .i64 k0, .int .i64 s0, .int .i64 t0, .int .i64 k1, .int .i64 s1, .int .i64 t1], .agg #[.int .i64 a0, .int .i64 a1, .int .i64 u0, .int .i64 l0, .int .u64 (i0 : Int), .int .u64 (o0 : Int), .string p0, .int .i64 u1, .int .i64 l1, .int .u64 (i1 : Int), .int .u64 (o1 : Int), .string p1], .int .i64 0] w fun e w' => ∃ v r, e = .returned v ∧ SlR 31 5 true v m (krow f m) r ∧ Hp w w' r := by
  have HD := hd
  have HC := hc
  clear hd hc
  have w1 : wrap64 (dp + 1) = (m : Int) := by rw [IntWalk.wrap64_in _ (by omega)]; exact hm
  have w2 : IntKind.i64.wrap (dp + 1) = (m : Int) := by rw [IntWalk.i64_in _ (by omega)]; exact hm
  have HH := Hp.nil w
  go_enter Tryz.func168, Tryz.ntmps168
  go_wp2_with (first | ((with_reducible show zW (Op.makeSlice _ _ _)); refine wpl_make elt214 HH rfl rfl rfl rfl (by omega) (by omega) ?_; clear HH; intro b L V HL HH; (try simp only [Act.put, zz])) | (go_at_call 42; (with_reducible refine ((HD) _).mono ?_); rintro e V ⟨rfl, hb⟩; replace HH := HH.next hb; clear hb) | ((with_reducible show zX (Op.load _ _)); (first | (refine wpl_load HH 0 rfl rfl rfl rfl rfl ?_; (try simp only [Act.put, zz])) | (refine wpl_load HH 1 rfl rfl rfl rfl rfl ?_; (try simp only [Act.put, zz])))) | ((with_reducible show zW (Op.store _ _ _)); (refine wpl_store HH 0 rfl rfl rfl rfl rfl rfl rfl rfl ?_; clear HH; intro V HH; simp only [Act.eval, zx, Value.cells, putl, zC, zB] at HH; (try simp only [Act.put, zz]))) | ((with_reducible show zW (Op.box _ _)); refine wpl_box HH rfl rfl rfl ?_; clear HH; intro b V HH; simp only [Act.eval, zx, Value.cells, putl, zC, zB] at HH; (try simp only [Act.put, zz])) | ((with_reducible show zW (Op.alloc _)); refine wpl_alloc HH rfl rfl ?_; clear HH; intro b V HH; simp only [Act.eval, zx, Value.cells, putl, zC, zB] at HH; (try simp only [Act.put, zz])))
  have HLL := Lib.hid HL
  clear HL
  go_loopw [20] (fun i wr => ∃ (k : Nat) (L : List Value), k ≤ m ∧ i = .int .i64 k ∧ L.length = m * 5 ∧ L.take (k * 5) = krow f k ∧ Hp w wr (⟨b, .cells L.toArray 31 (0, 0), true⟩ :: (Hp.lst HH).tail)) (fun i _ => (m - (intOf i).toNat))
  case atStart => exact ⟨0, L, by omega, rfl, HLL.out, by simp [krow], HH⟩
  case round =>
    obtain ⟨k, L, hk, rfl, hl, ht, HR⟩ := hrel
    have HLT := Lib.hid (And.intro hl ht)
    clear hl ht
    dsimp only [Hp.lst, List.tail] at HR
    have HH := HR
    clear HR
    go_wp2_with (first | ((with_reducible show zW (Op.store 31 _ _)); refine wpl_krow HH rfl rfl rfl rfl HLT.out.1 (by omega) HLT.out.2 ?_; clear HH HLT; intro L V hl ht HH; have HLT := Lib.hid (And.intro hl ht); clear hl ht; (try simp only [Act.put, zz])) | ((with_reducible show zX (Op.binOp _ _ _ _ _)); (refine wpl_cmp (p := ?_) rfl rfl rfl ?_ ?_ ?_; rotate_left; (focus (go_simp; with_reducible rfl)); all_goals (intro hq; (try simp only [zw] at hq); (try simp only [Act.put, zz])))) | ((with_reducible show Code.wp _ (Code.region _ _ true) _ _ _); (refine wp_tail_Hp (id := 6) [0, 1, 2, 3, 4, 5, 6, 7, 8, 9] [10] (by kernel_rfl) HH ?_; clear HH; (try simp only [pick, zy]); repeat' (first | ((with_reducible show wpB _ _ _ _ [] _); refine wpB_nil ?_; intro V HH) | (((with_reducible show zU _); (first | ((with_reducible show zT (Op.move _)); refine wpB_move rfl rfl rfl ?_) | ((with_reducible show zT (Op.load _ _)); (first | refine wpB_load 1 rfl rfl rfl rfl rfl ?_ | refine wpB_load 2 rfl rfl rfl rfl rfl ?_)) | ((with_reducible show zT (Op.call _)); (refine wpB_callE (f := ?_) (args := ?_) (v := ?_) rfl ?_ ?_ ?_; rotate_left 3; (focus (intro w9 hS9; go_simp; (refine ⟨?_, ?_⟩ <;> with_reducible rfl))); (focus (with_reducible exact (HC k))))) | (refine wpB_val (v := ?_) rfl ?_ ?_; rotate_left; (focus (intro w9 hS9; go_simp; all_goals (with_reducible rfl)))))); all_goals (try simp only [Act.put, zz, Act.eval, zx]))))))
    · exact ⟨⟨k + 1, L, by omega, by simp, HLT.out.1, HLT.out.2, HH⟩, by simp [intOf]; omega⟩
    · have hkm : k = m := by omega
      subst hkm
      have hl := HLT.out.1
      have ht := HLT.out.2
      rw [List.take_of_length_le (by omega)] at ht
      go_ret
      refine ⟨_, [⟨b, .cells L.toArray 31 (0, 0), true⟩], rfl, ⟨by rw [← ht, hl], .inr ⟨b, k, [], rfl, by rw [ht]; simp, by simp, Nat.le_refl _, by unfold maxLen; omega⟩⟩, ?_⟩
      exact HH.perm (l' := _) (List.Perm.refl _) |>.dropR rfl

set_option maxRecDepth 100000 in
set_option maxHeartbeats 4000000 in
theorem keys1_walk (n : Int) (k0 s0 t0 k1 s1 t1 : Int) (a0 a1 u0 l0 u1 l1 : Int) (i0 o0 i1 o1 : Nat) (p0 p1 : ByteArray) (dp : Int) (m : Nat) (f : Nat → Ky) (hd : Gives 42 #[dv k1 s1 t1] (.int .i64 dp)) (hm : dp + 1 = (m : Int)) (hm2 : m ≤ 129) (hc : ∀ j : Nat, Gives 165 #[dv k1 s1 t1, .int .i64 (j : Int), kv u1 l1 (i1 : Int) (o1 : Int) p1] (f j).v) (w : World) : Calls Tryz.prog 168 #[.agg #[.int .i64 n, .int .i64 k0, .int .i64 s0, .int .i64 t0, .int .i64 k1, .int .i64 s1, .int .i64 t1], .agg #[.int .i64 a0, .int .i64 a1, .int .i64 u0, .int .i64 l0, .int .u64 (i0 : Int), .int .u64 (o0 : Int), .string p0, .int .i64 u1, .int .i64 l1, .int .u64 (i1 : Int), .int .u64 (o1 : Int), .string p1], .int .i64 1] w fun e w' => ∃ v r, e = .returned v ∧ SlR 31 5 true v m (krow f m) r ∧ Hp w w' r := by
  have HD := hd
  have HC := hc
  clear hd hc
  have w1 : wrap64 (dp + 1) = (m : Int) := by rw [IntWalk.wrap64_in _ (by omega)]; exact hm
  have w2 : IntKind.i64.wrap (dp + 1) = (m : Int) := by rw [IntWalk.i64_in _ (by omega)]; exact hm
  have HH := Hp.nil w
  go_enter Tryz.func168, Tryz.ntmps168
  go_wp2_with (first | ((with_reducible show zW (Op.makeSlice _ _ _)); refine wpl_make elt214 HH rfl rfl rfl rfl (by omega) (by omega) ?_; clear HH; intro b L V HL HH; (try simp only [Act.put, zz])) | (go_at_call 42; (with_reducible refine ((HD) _).mono ?_); rintro e V ⟨rfl, hb⟩; replace HH := HH.next hb; clear hb) | ((with_reducible show zX (Op.load _ _)); (first | (refine wpl_load HH 0 rfl rfl rfl rfl rfl ?_; (try simp only [Act.put, zz])) | (refine wpl_load HH 1 rfl rfl rfl rfl rfl ?_; (try simp only [Act.put, zz])))) | ((with_reducible show zW (Op.store _ _ _)); (refine wpl_store HH 0 rfl rfl rfl rfl rfl rfl rfl rfl ?_; clear HH; intro V HH; simp only [Act.eval, zx, Value.cells, putl, zC, zB] at HH; (try simp only [Act.put, zz]))) | ((with_reducible show zW (Op.box _ _)); refine wpl_box HH rfl rfl rfl ?_; clear HH; intro b V HH; simp only [Act.eval, zx, Value.cells, putl, zC, zB] at HH; (try simp only [Act.put, zz])) | ((with_reducible show zW (Op.alloc _)); refine wpl_alloc HH rfl rfl ?_; clear HH; intro b V HH; simp only [Act.eval, zx, Value.cells, putl, zC, zB] at HH; (try simp only [Act.put, zz])))
  have HLL := Lib.hid HL
  clear HL
  go_loopw [20] (fun i wr => ∃ (k : Nat) (L : List Value), k ≤ m ∧ i = .int .i64 k ∧ L.length = m * 5 ∧ L.take (k * 5) = krow f k ∧ Hp w wr (⟨b, .cells L.toArray 31 (0, 0), true⟩ :: (Hp.lst HH).tail)) (fun i _ => (m - (intOf i).toNat))
  case atStart => exact ⟨0, L, by omega, rfl, HLL.out, by simp [krow], HH⟩
  case round =>
    obtain ⟨k, L, hk, rfl, hl, ht, HR⟩ := hrel
    have HLT := Lib.hid (And.intro hl ht)
    clear hl ht
    dsimp only [Hp.lst, List.tail] at HR
    have HH := HR
    clear HR
    go_wp2_with (first | ((with_reducible show zW (Op.store 31 _ _)); refine wpl_krow HH rfl rfl rfl rfl HLT.out.1 (by omega) HLT.out.2 ?_; clear HH HLT; intro L V hl ht HH; have HLT := Lib.hid (And.intro hl ht); clear hl ht; (try simp only [Act.put, zz])) | ((with_reducible show zX (Op.binOp _ _ _ _ _)); (refine wpl_cmp (p := ?_) rfl rfl rfl ?_ ?_ ?_; rotate_left; (focus (go_simp; with_reducible rfl)); all_goals (intro hq; (try simp only [zw] at hq); (try simp only [Act.put, zz])))) | ((with_reducible show Code.wp _ (Code.region _ _ true) _ _ _); (refine wp_tail_Hp (id := 6) [0, 1, 2, 3, 4, 5, 6, 7, 8, 9] [10] (by kernel_rfl) HH ?_; clear HH; (try simp only [pick, zy]); repeat' (first | ((with_reducible show wpB _ _ _ _ [] _); refine wpB_nil ?_; intro V HH) | (((with_reducible show zU _); (first | ((with_reducible show zT (Op.move _)); refine wpB_move rfl rfl rfl ?_) | ((with_reducible show zT (Op.load _ _)); (first | refine wpB_load 1 rfl rfl rfl rfl rfl ?_ | refine wpB_load 2 rfl rfl rfl rfl rfl ?_)) | ((with_reducible show zT (Op.call _)); (refine wpB_callE (f := ?_) (args := ?_) (v := ?_) rfl ?_ ?_ ?_; rotate_left 3; (focus (intro w9 hS9; go_simp; (refine ⟨?_, ?_⟩ <;> with_reducible rfl))); (focus (with_reducible exact (HC k))))) | (refine wpB_val (v := ?_) rfl ?_ ?_; rotate_left; (focus (intro w9 hS9; go_simp; all_goals (with_reducible rfl)))))); all_goals (try simp only [Act.put, zz, Act.eval, zx]))))))
    · exact ⟨⟨k + 1, L, by omega, by simp, HLT.out.1, HLT.out.2, HH⟩, by simp [intOf]; omega⟩
    · have hkm : k = m := by omega
      subst hkm
      have hl := HLT.out.1
      have ht := HLT.out.2
      rw [List.take_of_length_le (by omega)] at ht
      go_ret
      refine ⟨_, [⟨b, .cells L.toArray 31 (0, 0), true⟩], rfl, ⟨by rw [← ht, hl], .inr ⟨b, k, [], rfl, by rw [ht]; simp, by simp, Nat.le_refl _, by unfold maxLen; omega⟩⟩, ?_⟩
      exact HH.perm (l' := _) (List.Perm.refl _) |>.dropR rfl

end Go.Proofs.YtcbahkfbdlhabaaGreatDoor
