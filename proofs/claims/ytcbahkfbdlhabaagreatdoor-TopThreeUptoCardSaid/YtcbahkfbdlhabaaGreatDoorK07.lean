/- A part of the proof that the law TopThree returns true for all arguments of bulk at most 1048576 (no other condition). Here: strings.Count and strings.Index at one byte. strings.Split at a dot, for every world. Labels: split. Maps keyed by prefixes. Rounds of a range over a function: what is walked outside serves inside. Labels: Top. -/
import Derived.Test.YtcbahkfbdlhabaaGreatDoorK06
import Derived.Test.YtcbahkfbdlhabaaGreatDoorK03
import Derived.Ground.NamesProg
import Derived.Shelf.Strings.SplitCore
import Derived.Lib.SplitLaws
import Derived.Test.YtcbahkfbdlhabaaGreatDoorK04
import Derived.Maps.RangeRun
import Derived.RangeFuncNested
import Derived.RangeFuncBound
import Derived.RangeFuncCalls
import Derived.RangeFuncLeaves
import Derived.OwnWalkIn
import Derived.TacticsInMore
import Derived.LoopNIn
import Derived.LoopIn
import Derived.Shelf.Strings.OnBuilder
namespace Go.Proofs.YtcbahkfbdlhabaaGreatDoor
set_option linter.unusedVariables false
set_option linter.unusedSimpArgs false
open Go.RowKit
attribute [local go_sem] index24_0 index24_1 field34_0 field34_1
attribute [local irreducible] wpList Code.wp wpB

/-- The separator. -/
abbrev dotS : ByteArray := ⟨#[46]⟩

end Go.Proofs.YtcbahkfbdlhabaaGreatDoor
namespace Go.Proofs.YtcbahkfbdlhabaaGreatDoor
set_option linter.unusedVariables false
set_option linter.unusedSimpArgs false
open Go.RowKit
attribute [local go_sem] index24_0 index24_1 field34_0 field34_1
attribute [local irreducible] wpList Code.wp wpB

set_option maxRecDepth 100000 in
set_option maxHeartbeats 4000000 in
theorem indexByte_ex (p : ByteArray) (w : World) : Calls Tryz.prog 86 #[.string p, .int .u8 46] w fun e w' => e = .returned (.int .i64 (Lib.indexByte p.data.toList 46)) ∧ w' = w := by
  go_enter Tryz.func86, Tryz.ntmps86
  go_wp2
  rw [run_callFunc_extern Tryz.func90 (by kernel_rfl) (by kernel_rfl) (by kernel_rfl) (e := Extern.BytealgIndexByte.indexByte) (by kernel_rfl), Lib.run_indexByteString]
  simp only [Result.andThen]
  rw [Oper.upon_value]
  go_wp2
  go_ret
  exact ⟨rfl, rfl⟩

set_option maxRecDepth 100000 in
set_option maxHeartbeats 4000000 in
theorem countDot_ex (p : ByteArray) (w : World) : Calls Tryz.prog 79 #[.string p, .string dotS] w fun e w' => e = .returned (.int .i64 (Lib.countByte p.data.toList 46)) ∧ w' = w := by
  go_enter Tryz.func79, Tryz.ntmps79
  go_wp2
  rw [run_callFunc_extern Tryz.func83 (by kernel_rfl) (by kernel_rfl) (by kernel_rfl) (e := Extern.BytealgCount.count) (by kernel_rfl), Lib.run_countString]
  simp only [Result.andThen]
  rw [Oper.upon_value]
  go_wp2
  go_ret
  exact ⟨rfl, rfl⟩

theorem indexByte_dotex (p : ByteArray) (w : World) : Calls Tryz.prog 86 #[.string p, .int .u8 ((dotS[0]'(by decide)).toNat : Int)] w fun e w' => e = .returned (.int .i64 (Lib.indexByte p.data.toList 46)) ∧ w' = w := indexByte_ex p w

set_option maxRecDepth 100000 in
set_option maxHeartbeats 4000000 in
theorem index84_ex (p : ByteArray) (w : World) : Calls Tryz.prog 84 #[.string p, .string dotS] w fun e w' => e = .returned (.int .i64 (Lib.indexByte p.data.toList 46)) ∧ w' = w := by
  have HH := Hp.nil w
  go_enter Tryz.func84, Tryz.ntmps84
  go_wp2_with (first | (go_at_call 86; (with_reducible refine (indexByte_dotex _ _).mono ?_); rintro e V ⟨rfl, hv⟩; subst hv) | ((with_reducible show zX (Op.binOp _ _ _ _ _)); (refine wpl_cmp (p := ?_) rfl rfl rfl ?_ ?_ ?_; rotate_left; (focus (go_simp; with_reducible rfl)); all_goals (intro hq; (try (contradiction)); (try simp only [zw] at hq); (try simp only [Act.put, zz])))) | ((with_reducible show zY (Op.binOp _ _ _ _ _)); (refine wpl_cmp (p := ?_) rfl rfl (by simp only [Region.wanted, yielded, zy, Option.bind_some]; decide) ?_ ?_ ?_; rotate_left; (focus (go_simp; with_reducible rfl)); all_goals (intro hq; (try (fail)); (try simp only [zw] at hq); (try simp only [Act.put, zz])))))
  · have e : [46] = p.data.toList := by
      rw [ByteArray.toList_eq] at hq
      simpa using hq
    go_ret
    refine ⟨?_, rfl⟩
    rw [← e]
    rfl
  · go_ret
    exact ⟨rfl, rfl⟩

set_option maxRecDepth 100000 in
set_option maxHeartbeats 4000000 in
theorem index80_ex (p : ByteArray) (w : World) : Calls Tryz.prog 80 #[.string p, .string dotS] w fun e w' => e = .returned (.int .i64 (Lib.indexByte p.data.toList 46)) ∧ w' = w := by
  have HH := Hp.nil w
  go_enter Tryz.func80, Tryz.ntmps80
  go_wp2_with (go_at_call 84; (with_reducible refine (index84_ex _ _).mono ?_); rintro e V ⟨rfl, hv⟩; subst hv)
  go_ret
  exact ⟨rfl, rfl⟩

theorem indexB_dot (x : ByteArray) : Lib.indexB x dotS = Lib.indexByte x.data.toList 46 := Lib.index_one _ _
theorem countB_dot (x : ByteArray) : Lib.countB x dotS = Lib.countByte x.data.toList 46 := Lib.count_one _ _
/-- A text's parts. -/
def partsD (p : ByteArray) : List ByteArray := Lib.splitB dotS 0 (Lib.countB p dotS) p
theorem partsD_len (p : ByteArray) : (partsD p).length = Lib.countB p dotS + 1 := Lib.splitB_all dotS (by decide) 0 _ p rfl
theorem genSplit_dot (p : ByteArray) (hp : p.size < 4294967281) (w : World) : Calls Tryz.prog 75 #[.string p, .string dotS, .int .i64 0, .int .i64 (-1)] w fun e w' =>
    e = .returned (.slice (some ⟨w.heap.size, 0, none⟩) (partsD p).length (partsD p).length) ∧ w' = w.alloc (.cells ((partsD p).map Value.string).toArray 9) := by
  have hle := Lib.countB_le dotS (by decide) p.size p (Nat.le_refl _)
  have hI : ∀ (x : ByteArray) (c : Array Value), x.size ≤ p.size → Calls Tryz.prog 80 #[.string x, .string dotS] (w.alloc (.cells c 9)) fun e w' => e = .returned (.int .i64 (Lib.indexB x dotS)) ∧ w' = w.alloc (.cells c 9) := fun x c _ => by
    rw [indexB_dot]
    exact index80_ex x _
  have hC : Calls Tryz.prog 79 #[.string p, .string dotS] w fun e w' => e = .returned (.int .i64 (Lib.countB p dotS)) ∧ w' = w := by
    rw [countB_dot]
    exact countDot_ex p w
  have c := Any.strings_genSplit_core Tryz.laysGenSplit (by kernel_rfl) p dotS 0 (-1) (Lib.countB p dotS + 1) w hp (by decide) (Nat.zero_le _) hI hC (by decide) (by decide) (by rw [if_pos (by decide)]; omega)
  rw [Nat.add_sub_cancel] at c
  have hlen := partsD_len p
  have e2 : Lib.cellsOf (partsD p) (Lib.countB p dotS + 1) = ((partsD p).map Value.string).toArray := by rw [← hlen]; exact Lib.cellsOf_full _
  change Calls Tryz.prog 75 #[.string p, .string dotS, .int .i64 0, .int .i64 (-1)] w (fun e w' => e = .returned (.slice (some ⟨w.heap.size, 0, none⟩) (partsD p).length (Lib.countB p dotS + 1)) ∧ w' = w.alloc (.cells (Lib.cellsOf (partsD p) (Lib.countB p dotS + 1)) 9)) at c
  rw [e2, ← hlen] at c
  exact c
set_option maxRecDepth 100000 in
theorem split_dot (p : ByteArray) (hp : p.size < 4294967281) (w : World) : Calls Tryz.prog 69 #[.string p, .string dotS] w fun e w' =>
    e = .returned (.slice (some ⟨w.heap.size, 0, none⟩) (partsD p).length (partsD p).length) ∧ w' = w.alloc (.cells ((partsD p).map Value.string).toArray 9) := by
  have c := genSplit_dot p hp w
  go_enter Tryz.func69, Tryz.ntmps69
  go_wp2_with (go_at_call 75; refine c.mono ?_; rintro e w' ⟨rfl, hw⟩; rw [hw])
  go_ret
  exact ⟨rfl, rfl⟩

end Go.Proofs.YtcbahkfbdlhabaaGreatDoor
namespace Go.Proofs.YtcbahkfbdlhabaaGreatDoor
set_option linter.unusedVariables false
set_option linter.unusedSimpArgs false
open Go.RowKit
attribute [local go_sem] index24_0 index24_1 field34_0 field34_1
attribute [local irreducible] wpList Code.wp wpB

set_option maxRecDepth 100000 in
set_option maxHeartbeats 4000000 in
theorem notLabel_walk (p : ByteArray) (r : Bool) (hr : Gives 71 #[.string p] (.bool r)) (w : World) : Calls Tryz.prog 70 #[.string p] w fun e w' => e = .returned (.bool (!r)) ∧ Below w.heap.size w w' := by
  have HR := hr
  clear hr
  have HH := Hp.nil w
  go_enter Tryz.func70, Tryz.ntmps70
  go_wp2_with (go_at_call 71; (with_reducible refine ((HR) _).mono ?_); rintro e V ⟨rfl, hb⟩; replace HH := HH.next hb; clear hb)
  all_goals (go_ret; refine ⟨?_, HH.below rfl⟩; (rfl))

theorem Hp.lend {w0 W : World} {l : List En} (h : Hp w0 W l) (i : Nat) {b : Nat} {o : Obj} {own : Bool} (hi : l[i]? = some ⟨b, o, own⟩) : Hp W W [⟨b, o, false⟩] :=
  Hp.start ⟨h.get (e := ⟨b, o, own⟩) i hi, trivial⟩ (List.nodup_cons.2 ⟨List.not_mem_nil, List.nodup_nil⟩) rfl
def gs (ps : List ByteArray) (k : Nat) : ByteArray := ps.getD k ⟨#[]⟩
def srow (ps : List ByteArray) : List Value := ps.map Value.string
theorem srow_get (ps : List ByteArray) (k : Nat) (hk : k < ps.length) : rdv false 1 (srow ps) k = some (.string (gs ps k)) := by
  show (ps.map Value.string)[k]? = _
  simp [gs, hk, List.getD_eq_getElem?_getD]
theorem notLabel_gives (p : ByteArray) (hp : p.size < 2 ^ 62) : Gives 70 #[.string p] (.bool (!labB p)) := fun w => notLabel_walk p _ (isLabel_gives p hp) w

set_option maxRecDepth 100000 in
set_option maxHeartbeats 4000000 in
theorem indexFunc_walk (ps : List ByteArray) (g cap : Nat) (hn : ps.length < 2 ^ 62) (hz : ∀ k, k < ps.length → (gs ps k).size < 2 ^ 62) (r : Int) (hb : ∀ k : Nat, k < ps.length → (∀ j, j < k → labB (gs ps j) = true) → labB (gs ps k) = false → r = (k : Int)) (hg : (∀ k, k < ps.length → labB (gs ps k) = true) → r = -1) (w : World) (HH0 : Hp w w [⟨g, .cells (srow ps).toArray 9 (0, 0), false⟩]) : Calls Tryz.prog 77 #[.slice (some ⟨g, 0, none⟩) ps.length cap, .func (.func 70) #[] #[]] w fun e w' => e = .returned (.int .i64 r) ∧ Below w.heap.size w w' := by
  have HV := fun k hk => srow_get ps k hk
  have HB := Lib.hid hb
  have HG := Lib.hid hg
  have HZ := Lib.hid hz
  clear hb hg hz
  have HH := HH0
  go_enter Tryz.func77, Tryz.ntmps77
  go_wp2_with (fail)
  go_loopw [8] (fun i wr => ∃ k : Nat, k ≤ ps.length ∧ i = .int .i64 k ∧ (∀ j, j < k → labB (gs ps j) = true) ∧ Hp w wr (Hp.lst HH)) (fun i _ => (ps.length - (intOf i).toNat))
  case atStart => exact ⟨0, by omega, rfl, by omega, HH⟩
  case round =>
    obtain ⟨k, hk, rfl, hb, HR⟩ := hrel
    dsimp only [Hp.lst] at HR
    have HH := HR
    clear HR
    go_wp2_with (first | ((with_reducible show zW (Op.load 9 _)); refine wpl_load HH 0 rfl rfl rfl rfl (HV _ (by omega)) ?_; (try simp only [Act.put, zz])) | (go_at_call 70; (with_reducible refine ((notLabel_gives _ (HZ.out _ (by omega))) _).mono ?_); rintro e V ⟨rfl, hb⟩; replace HH := HH.next hb; clear hb) | ((with_reducible show zX (Op.binOp _ _ _ _ _)); (refine wpl_cmp (p := ?_) rfl rfl rfl ?_ ?_ ?_; rotate_left; (focus (go_simp; with_reducible rfl)); all_goals (intro hq; (try (fail)); (try simp only [zw] at hq); (try simp only [Act.put, zz])))))
    all_goals (first
      | (have h9 : (!labB (gs ps k)) = false := by assumption
         have hbk : labB (gs ps k) = true := by simpa using h9
         exact ⟨⟨k + 1, by omega, by simp, fun j hj => by
           rcases Nat.lt_or_ge j k with h' | h'
           · exact hb j h'
           · rw [show j = k by omega]
             exact hbk, HH⟩, by simp [intOf]; omega⟩)
      | (have h9 : (!labB (gs ps k)) = true := by assumption
         have hbk : labB (gs ps k) = false := by simpa using h9
         have hr := HB.out k (by omega) hb hbk
         subst hr
         go_ret
         exact ⟨rfl, HH.below_at (fun e he => by simp only [List.mem_cons, List.not_mem_nil, or_false] at he; rcases he with rfl; exact .inr HH0.lies.1)⟩)
      | (have hr := HG.out (fun j hj => hb j (by omega))
         subst hr
         go_ret
         exact ⟨rfl, HH.below_at (fun e he => by simp only [List.mem_cons, List.not_mem_nil, or_false] at he; rcases he with rfl; exact .inr HH0.lies.1)⟩))

theorem findFirst (f : Nat → Bool) : ∀ n, (∃ k, k < n ∧ (∀ j, j < k → f j = true) ∧ f k = false) ∨ (∀ k, k < n → f k = true)
  | 0 => .inr (by omega)
  | n + 1 => by
    rcases findFirst f n with ⟨k, h1, h2, h3⟩ | h
    · exact .inl ⟨k, by omega, h2, h3⟩
    · cases hn : f n
      · exact .inl ⟨n, by omega, h, hn⟩
      · refine .inr fun k hk => ?_
        rcases Nat.lt_or_ge k n with h' | h'
        · exact h k h'
        · rw [show k = n by omega, hn]
theorem indexFunc_gives (ps : List ByteArray) (cap : Nat) (hn : ps.length < 2 ^ 62) (hz : ∀ k, k < ps.length → (gs ps k).size < 2 ^ 62) : ∃ r : Int, ((r ≥ 0 ∧ ∃ k, k < ps.length ∧ labB (gs ps k) = false) ∨ (r < 0 ∧ ∀ k, k < ps.length → labB (gs ps k) = true)) ∧ ∀ (g : Nat) w, Hp w w [⟨g, .cells (srow ps).toArray 9 (0, 0), false⟩] → Calls Tryz.prog 77 #[.slice (some ⟨g, 0, none⟩) ps.length cap, .func (.func 70) #[] #[]] w fun e w' => e = .returned (.int .i64 r) ∧ Below w.heap.size w w' := by
  rcases findFirst (fun k => labB (gs ps k)) ps.length with ⟨k, h1, h2, h3⟩ | h
  · refine ⟨k, .inl ⟨by omega, k, h1, h3⟩, fun g w HH => indexFunc_walk ps g cap hn hz k (fun j hj a b => ?_) (fun a => ?_) w HH⟩
    · rcases Nat.lt_trichotomy j k with hl | rfl | hl
      · rw [h2 j hl] at b; cases b
      · rfl
      · rw [a k hl] at h3; cases h3
    · rw [a k h1] at h3; cases h3
  · refine ⟨-1, .inr ⟨by omega, h⟩, fun g w HH => indexFunc_walk ps g cap hn hz (-1) (fun j hj a b => ?_) (fun a => rfl) w HH⟩
    rw [h j hj] at b; cases b

set_option maxRecDepth 100000 in
set_option maxHeartbeats 4000000 in
theorem contains_walk (ps : List ByteArray) (g cap : Nat) (r : Int) (hi : ∀ w, Hp w w [⟨g, .cells (srow ps).toArray 9 (0, 0), false⟩] → Calls Tryz.prog 77 #[.slice (some ⟨g, 0, none⟩) ps.length cap, .func (.func 70) #[] #[]] w fun e w' => e = .returned (.int .i64 r) ∧ Below w.heap.size w w') (w : World) (HH0 : Hp w w [⟨g, .cells (srow ps).toArray 9 (0, 0), false⟩]) : Calls Tryz.prog 72 #[.slice (some ⟨g, 0, none⟩) ps.length cap, .func (.func 70) #[] #[]] w fun e w' => e = .returned (.bool (decide (r ≥ 0))) ∧ Below w.heap.size w w' := by
  have HI := hi
  clear hi
  have HH := HH0
  go_enter Tryz.func72, Tryz.ntmps72
  go_wp2_with (first | (go_at_call 77; (with_reducible refine (HI _ HH0).mono ?_); rintro e V ⟨rfl, hb⟩; replace HH := HH.next hb; clear hb) | ((with_reducible show zX (Op.binOp _ _ _ _ _)); (refine wpl_cmp (p := ?_) rfl rfl rfl ?_ ?_ ?_; rotate_left; (focus (go_simp; with_reducible rfl)); all_goals (intro hq; (try (fail)); (try simp only [zw] at hq); (try simp only [Act.put, zz])))))
  all_goals (go_ret; refine ⟨?_, HH.below_at (fun e he => by simp only [List.mem_cons, List.not_mem_nil, or_false] at he; rcases he with rfl; exact .inr HH0.lies.1)⟩; (clear HH; first | (simp <;> omega) | simp_all))

theorem splitB_size (sep : ByteArray) (i : Nat) : ∀ (n : Nat) (p x : ByteArray), x ∈ Lib.splitB sep i n p → x.size ≤ p.size
  | 0, p, x, h => by
    rw [Lib.splitB] at h
    simp only [List.mem_singleton] at h
    rw [h]
    exact Nat.le_refl _
  | n + 1, p, x, h => by
    rw [Lib.splitB] at h
    split at h
    · simp only [List.mem_singleton] at h
      rw [h]
      exact Nat.le_refl _
    · rcases List.mem_cons.1 h with rfl | h
      · rw [ByteArray.size_extract]
        omega
      · have := splitB_size sep i n _ x h
        rw [ByteArray.size_extract] at this
        omega
theorem partsD_size (p : ByteArray) (k : Nat) (hk : k < (partsD p).length) : (gs (partsD p) k).size ≤ p.size := by
  refine splitB_size dotS 0 (Lib.countB p dotS) p _ ?_
  show gs (partsD p) k ∈ partsD p
  unfold gs
  rw [List.getD_eq_getElem?_getD, List.getElem?_eq_getElem hk]
  exact List.getElem_mem hk
theorem partsD_le (p : ByteArray) : (partsD p).length ≤ p.size + 1 := by
  rw [partsD_len]
  have := Lib.countB_le dotS (by decide) p.size p (Nat.le_refl _)
  omega
/-- A path's labels, if it is one. -/
def labsD (p : ByteArray) : List ByteArray := if p.size = 0 then [] else partsD p
def okL (p : ByteArray) : Bool := decide (p.size = 0) || (decide ((partsD p).length ≤ 8) && decide (∀ k, k < (partsD p).length → labB (gs (partsD p) k) = true))

theorem split_srow (p : ByteArray) (hp : p.size < 4294967281) (w : World) : Calls Tryz.prog 69 #[.string p, .string dotS] w fun e w' => e = .returned (.slice (some ⟨w.heap.size, 0, none⟩) (partsD p).length (partsD p).length) ∧ w' = w.alloc (.cells (srow (partsD p)).toArray 9) := split_dot p hp w
instance : Shp 118 false 1 := ⟨fun _ => by kernel_rfl, by kernel_rfl⟩
set_option maxRecDepth 100000 in
set_option maxHeartbeats 4000000 in
theorem split_nil  (w : World) : Calls Tryz.prog 59 #[.string ⟨#[]⟩] w fun e w' => e = .returned (.tuple #[.slice none 0 0, .bool true]) ∧ Below w.heap.size w w' := by
  have HH := Hp.nil w
  go_enter Tryz.func59, Tryz.ntmps59
  go_wp2_with ((with_reducible show zX (Op.binOp _ _ _ _ _)); (refine wpl_cmp (p := ?_) rfl rfl rfl ?_ ?_ ?_; rotate_left; (focus (go_simp; with_reducible rfl)); all_goals (intro hq; (try (contradiction)); (try simp only [zw] at hq); (try simp only [Act.put, zz]))))
  all_goals (go_ret2; exact ⟨rfl, HH.below rfl⟩)

set_option maxRecDepth 100000 in
set_option maxHeartbeats 4000000 in
theorem split_bad (p : ByteArray) (hp : p.size < 4294967281) (h0 : p.size ≠ 0) (r : Int) (hi : ∀ g w, Hp w w [⟨g, .cells (srow (partsD p)).toArray 9 (0, 0), false⟩] → Calls Tryz.prog 77 #[.slice (some ⟨g, 0, none⟩) (partsD p).length (partsD p).length, .func (.func 70) #[] #[]] w fun e w' => e = .returned (.int .i64 r) ∧ Below w.heap.size w w') (hr : 8 < (partsD p).length ∨ r ≥ 0) (w : World) : Calls Tryz.prog 59 #[.string p] w fun e w' => e = .returned (.tuple #[.slice none 0 0, .bool false]) ∧ Below w.heap.size w w' := by
  have hp0 : (p.toList == []) = false := by
    rw [ByteArray.toList_eq]
    cases h : p.data.toList with
    | nil => exact absurd (by simpa using congrArg List.length h) h0
    | cons _ _ => rfl
  have hle := partsD_le p
  have HI := hi
  clear hi
  have HH := Hp.nil w
  go_enter Tryz.func59, Tryz.ntmps59
  go_wp2_with (first | (go_at_call 69; (with_reducible refine (split_srow p hp _).mono ?_); rintro e V ⟨rfl, rfl⟩; replace HH := HH.alloc (.cells (srow (partsD p)).toArray 9); (try simp only [Act.put, zz])) | (go_at_call 72; (have HS := HH.lend 0 rfl); (with_reducible refine (contains_walk (partsD p) _ _ r (HI _) _ HS).mono ?_); clear HS; rintro e V ⟨rfl, hb⟩; replace HH := HH.next hb; clear hb; (try simp only [Act.put, zz])) | ((with_reducible show zX (Op.binOp _ _ _ _ _)); (refine wpl_cmp (p := ?_) rfl rfl rfl ?_ ?_ ?_; rotate_left; (focus (go_simp; with_reducible rfl)); all_goals (intro hq; (try (contradiction)); (try simp only [zw] at hq); (try simp only [Act.put, zz])))))
  all_goals (go_ret2; exact ⟨rfl, HH.below rfl⟩)

set_option maxRecDepth 100000 in
set_option maxHeartbeats 4000000 in
theorem split_good (p : ByteArray) (hp : p.size < 4294967281) (h0 : p.size ≠ 0) (r : Int) (hi : ∀ g w, Hp w w [⟨g, .cells (srow (partsD p)).toArray 9 (0, 0), false⟩] → Calls Tryz.prog 77 #[.slice (some ⟨g, 0, none⟩) (partsD p).length (partsD p).length, .func (.func 70) #[] #[]] w fun e w' => e = .returned (.int .i64 r) ∧ Below w.heap.size w w') (hr : (partsD p).length ≤ 8) (hr2 : r < 0) (w : World) : Calls Tryz.prog 59 #[.string p] w fun e w' => ∃ g, e = .returned (.tuple #[.slice (some ⟨g, 0, none⟩) (partsD p).length (partsD p).length, .bool true]) ∧ Hp w w' [⟨g, .cells (srow (partsD p)).toArray 9 (0, 0), true⟩] := by
  have hp0 : (p.toList == []) = false := by
    rw [ByteArray.toList_eq]
    cases h : p.data.toList with
    | nil => exact absurd (by simpa using congrArg List.length h) h0
    | cons _ _ => rfl
  have hle := partsD_le p
  have HI := hi
  clear hi
  have HH := Hp.nil w
  go_enter Tryz.func59, Tryz.ntmps59
  go_wp2_with (first | (go_at_call 69; (with_reducible refine (split_srow p hp _).mono ?_); rintro e V ⟨rfl, rfl⟩; replace HH := HH.alloc (.cells (srow (partsD p)).toArray 9); (try simp only [Act.put, zz])) | (go_at_call 72; (have HS := HH.lend 0 rfl); (with_reducible refine (contains_walk (partsD p) _ _ r (HI _) _ HS).mono ?_); clear HS; rintro e V ⟨rfl, hb⟩; replace HH := HH.next hb; clear hb; (try simp only [Act.put, zz])) | ((with_reducible show zX (Op.binOp _ _ _ _ _)); (refine wpl_cmp (p := ?_) rfl rfl rfl ?_ ?_ ?_; rotate_left; (focus (go_simp; with_reducible rfl)); all_goals (intro hq; (try (contradiction)); (try simp only [zw] at hq); (try simp only [Act.put, zz])))))
  all_goals (first | (go_ret2; exact ⟨_, rfl, HH⟩) | (exfalso; omega))

set_option maxRecDepth 100000 in
set_option maxHeartbeats 4000000 in
theorem labRight_nil (p : ByteArray) (bb : Bool) (hs : Gives 59 #[.string p] (.tuple #[.slice none 0 0, .bool bb])) (w : World) : Calls Tryz.prog 50 #[.string p] w fun e w' => e = .returned (.bool bb) ∧ Below w.heap.size w w' := by
  have HS := hs
  clear hs
  have HH := Hp.nil w
  go_enter Tryz.func50, Tryz.ntmps50
  go_wp2_with (go_at_call 59; (with_reducible refine ((HS) _).mono ?_); rintro e V ⟨rfl, hb⟩; replace HH := HH.next hb; clear hb)
  all_goals (go_ret; refine ⟨?_, HH.below rfl⟩; (rfl))

set_option maxRecDepth 100000 in
set_option maxHeartbeats 4000000 in
theorem labRight_good (ps : List ByteArray) (p : ByteArray) (n : Nat) (hs : ∀ w, Calls Tryz.prog 59 #[.string p] w fun e w' => ∃ g, e = .returned (.tuple #[.slice (some ⟨g, 0, none⟩) n n, .bool true]) ∧ Hp w w' [⟨g, .cells (srow ps).toArray 9 (0, 0), true⟩]) (w : World) : Calls Tryz.prog 50 #[.string p] w fun e w' => e = .returned (.bool true) ∧ Below w.heap.size w w' := by
  have HS := hs
  clear hs
  have HH := Hp.nil w
  go_enter Tryz.func50, Tryz.ntmps50
  go_wp2_with (go_at_call 59; (with_reducible refine (HS _).mono ?_); rintro e V ⟨g, rfl, hh⟩; replace HH := HH.join hh (by simp); clear hh; (try simp only [List.cons_append, List.nil_append] at HH); (try simp only [Act.put, zz]))
  all_goals (go_ret; refine ⟨?_, HH.below rfl⟩; (rfl))

set_option maxRecDepth 100000 in
set_option maxHeartbeats 4000000 in
theorem labLen_nil (p : ByteArray) (bb : Bool) (hs : Gives 59 #[.string p] (.tuple #[.slice none 0 0, .bool bb])) (w : World) : Calls Tryz.prog 60 #[.string p] w fun e w' => e = .returned (.int .i64 0) ∧ Below w.heap.size w w' := by
  have HS := hs
  clear hs
  have HH := Hp.nil w
  go_enter Tryz.func60, Tryz.ntmps60
  go_wp2_with (go_at_call 59; (with_reducible refine ((HS) _).mono ?_); rintro e V ⟨rfl, hb⟩; replace HH := HH.next hb; clear hb)
  all_goals (go_ret; refine ⟨?_, HH.below rfl⟩; (rfl))

set_option maxRecDepth 100000 in
set_option maxHeartbeats 4000000 in
theorem labLen_good (ps : List ByteArray) (p : ByteArray) (n : Nat) (hs : ∀ w, Calls Tryz.prog 59 #[.string p] w fun e w' => ∃ g, e = .returned (.tuple #[.slice (some ⟨g, 0, none⟩) n n, .bool true]) ∧ Hp w w' [⟨g, .cells (srow ps).toArray 9 (0, 0), true⟩]) (w : World) : Calls Tryz.prog 60 #[.string p] w fun e w' => e = .returned (.int .i64 n) ∧ Below w.heap.size w w' := by
  have HS := hs
  clear hs
  have HH := Hp.nil w
  go_enter Tryz.func60, Tryz.ntmps60
  go_wp2_with (go_at_call 59; (with_reducible refine (HS _).mono ?_); rintro e V ⟨g, rfl, hh⟩; replace HH := HH.join hh (by simp); clear hh; (try simp only [List.cons_append, List.nil_append] at HH); (try simp only [Act.put, zz]))
  all_goals (go_ret; refine ⟨?_, HH.below rfl⟩; (rfl))

/-- split, at every text. -/
theorem split_cases (p : ByteArray) (hp : p.size < 4294967281) : (p.size = 0 ∧ okL p = true ∧ Gives 59 #[.string p] (.tuple #[.slice none 0 0, .bool true])) ∨ (p.size ≠ 0 ∧ okL p = false ∧ Gives 59 #[.string p] (.tuple #[.slice none 0 0, .bool false])) ∨
    (p.size ≠ 0 ∧ okL p = true ∧ (partsD p).length ≤ 8 ∧ ∀ w, Calls Tryz.prog 59 #[.string p] w fun e w' => ∃ g, e = .returned (.tuple #[.slice (some ⟨g, 0, none⟩) (partsD p).length (partsD p).length, .bool true]) ∧ Hp w w' [⟨g, .cells (srow (partsD p)).toArray 9 (0, 0), true⟩]) := by
  by_cases h0 : p.size = 0
  · have e : p = ⟨#[]⟩ := by
      cases p with
      | mk d => congr; exact Array.eq_empty_of_size_eq_zero h0
    subst e
    exact .inl ⟨h0, by unfold okL; rw [decide_eq_true h0]; rfl, fun w => split_nil w⟩
  · have hle := partsD_le p
    have hz : ∀ k, k < (partsD p).length → (gs (partsD p) k).size < 2 ^ 62 := fun k hk => by
      have := partsD_size p k hk
      omega
    have ho : okL p = (decide ((partsD p).length ≤ 8) && decide (∀ k, k < (partsD p).length → labB (gs (partsD p) k) = true)) := by
      unfold okL
      rw [decide_eq_false h0]
      rfl
    obtain ⟨r, hr, hi⟩ := indexFunc_gives (partsD p) (partsD p).length (by omega) hz
    by_cases h8 : (partsD p).length ≤ 8
    · rcases hr with ⟨h1, k, hk, h2⟩ | ⟨h1, h2⟩
      · refine .inr (.inl ⟨h0, ?_, fun w => split_bad p hp h0 r hi (.inr h1) w⟩)
        rw [ho, decide_eq_false (p := ∀ k, k < (partsD p).length → labB (gs (partsD p) k) = true) (fun h => by rw [h k hk] at h2; cases h2), Bool.and_false]
      · refine .inr (.inr ⟨h0, ?_, h8, fun w => split_good p hp h0 r hi h8 h1 w⟩)
        rw [ho, decide_eq_true h8, decide_eq_true h2]
        rfl
    · refine .inr (.inl ⟨h0, ?_, fun w => split_bad p hp h0 r hi (.inl (by omega)) w⟩)
      rw [ho, decide_eq_false h8]
      rfl

end Go.Proofs.YtcbahkfbdlhabaaGreatDoor
namespace Go.Proofs.YtcbahkfbdlhabaaGreatDoor
set_option linter.unusedVariables false
set_option linter.unusedSimpArgs false
open Go.RowKit
attribute [local irreducible] wpList Code.wp wpB

theorem bytes_toList_inj {a b : ByteArray} (h : a.toList = b.toList) : a = b := by
  rw [ByteArray.toList_eq, ByteArray.toList_eq] at h
  cases a; cases b
  congr
  exact Array.toList_inj.1 h
theorem Px.same_iff {p q : Px} : p.same q = true ↔ p = q := by
  constructor
  · intro h
    unfold Px.same samePx at h
    simp only [Bool.and_eq_true, beq_iff_eq] at h
    obtain ⟨⟨h1, h2⟩, ⟨h3, h4, h5, h6, h7⟩, h8, h9, h10, h11, h12⟩ := h
    have e7 := bytes_toList_inj h7
    have e12 := bytes_toList_inj h12
    cases p with
    | mk a0 a1 k0 k1 => cases q with
      | mk b0 b1 m0 m1 => cases k0; cases k1; cases m0; cases m1; simp only at *; subst h1; subst h2; subst h3; subst h4; subst h8; subst h9; subst e7; subst e12; simp; omega
  · rintro rfl
    unfold Px.same samePx
    simp
theorem Px.same_self (p : Px) : p.same p = true := Px.same_iff.2 rfl
theorem Px.same_comm (p q : Px) : p.same q = q.same p := by
  rw [Bool.eq_iff_iff, Px.same_iff, Px.same_iff]
  exact ⟨Eq.symm, Eq.symm⟩
theorem Px.same_ne {p q : Px} (h : p ≠ q) : p.same q = false := by
  cases hs : p.same q
  · rfl
  · exact absurd (Px.same_iff.1 hs) h
instance : DecidableEq Px := fun p q => decidable_of_iff _ (Px.same_iff (p := p) (q := q))

/-- An entry of a map keyed by prefixes. -/
structure Me (α : Type) where
  p : Px
  v : α
  born : Nat
variable {α : Type} {enc : α → Value}
def Me.e (enc : α → Value) (x : Me α) : MapEntry := { key := x.p.v, val := enc x.v, born := x.born }
def mp (enc : α → Value) (l : List (Me α)) (c : Nat) : Obj := .map (l.map (Me.e enc)).toArray c
structure MOk (l : List (Me α)) (c : Nat) : Prop where
  keys : (l.map Me.p).Nodup
  borns : (l.map Me.born).Nodup
  lt : ∀ x ∈ l, x.born < c
theorem MOk.nil : MOk (α := α) [] 0 := ⟨by simp, by simp, by simp⟩
def mfind : List (Me α) → Px → Nat → Option (Nat × α)
  | [], _, _ => none
  | x :: r, p, i => if p.same x.p then some (i, x.v) else mfind r p (i + 1)
def mget : List (Me α) → Px → Option α
  | [], _ => none
  | x :: r, p => if p.same x.p then some x.v else mget r p
def mset : List (Me α) → Px → α → Option (List (Me α))
  | [], _, _ => none
  | x :: r, p, v => if p.same x.p then some (⟨p, v, x.born⟩ :: r) else (mset r p v).map (x :: ·)
def mputL (l : List (Me α)) (c : Nat) (p : Px) (v : α) : List (Me α) := (mset l p v).getD (l ++ [⟨p, v, c⟩])
def mputC (l : List (Me α)) (c : Nat) (p : Px) : Nat := if (mget l p).isSome then c else c + 1
def mdel : List (Me α) → Px → List (Me α)
  | [], _ => []
  | x :: r, p => if p.same x.p then r else x :: mdel r p
theorem mfind_get : ∀ (l : List (Me α)) (p : Px) (i : Nat), (mfind l p i).map Prod.snd = mget l p
  | [], _, _ => rfl
  | x :: r, p, i => by
    unfold mfind mget
    split
    · rfl
    · exact mfind_get r p (i + 1)
theorem mset_isSome : ∀ (l : List (Me α)) (p : Px) (v : α), (mset l p v).isSome = (mget l p).isSome
  | [], _, _ => rfl
  | x :: r, p, v => by
    unfold mset mget
    split
    · rfl
    · simpa using mset_isSome r p v
theorem mset_modify : ∀ (l : List (Me α)) (p : Px) (v : α) (i j : Nat) (u : α), mfind l p i = some (j, u) → i ≤ j ∧ j - i < l.length ∧ (∃ x, l[j - i]? = some x ∧ x.p = p) ∧ ∃ l', mset l p v = some l' ∧ (l.map (Me.e enc)).modify (j - i) (fun e : MapEntry => { e with key := p.v, val := enc v }) = l'.map (Me.e enc)
  | [], _, _, _, _, _, h => by cases h
  | x :: r, p, v, i, j, u, h => by
    unfold mfind at h
    unfold mset
    by_cases hs : p.same x.p = true
    · rw [if_pos hs] at h ⊢
      cases h
      rw [Nat.sub_self]
      exact ⟨Nat.le_refl _, by simp, ⟨x, rfl, (Px.same_iff.1 hs).symm⟩, _, rfl, rfl⟩
    · rw [if_neg hs] at h ⊢
      obtain ⟨h1, h2, ⟨y, hy, hyp⟩, l', h3, h4⟩ := mset_modify r p v (i + 1) j u h
      have hji : j - i = (j - (i + 1)) + 1 := by omega
      refine ⟨by omega, by simp; omega, ⟨y, by rw [hji]; simpa using hy, hyp⟩, x :: l', by rw [h3]; rfl, ?_⟩
      rw [hji]
      simp [h4]
theorem mdel_erase : ∀ (l : List (Me α)) (p : Px) (i j : Nat) (u : α), mfind l p i = some (j, u) → i ≤ j ∧ (l.map (Me.e enc)).eraseIdx (j - i) = (mdel l p).map (Me.e enc)
  | [], _, _, _, _, h => by cases h
  | x :: r, p, i, j, u, h => by
    unfold mfind at h
    unfold mdel
    by_cases hs : p.same x.p = true
    · rw [if_pos hs] at h ⊢
      cases h
      simp
    · rw [if_neg hs] at h ⊢
      obtain ⟨h1, h2⟩ := mdel_erase r p (i + 1) j u h
      have hji : j - i = (j - (i + 1)) + 1 := by omega
      refine ⟨by omega, ?_⟩
      rw [hji]
      simp [h2]
theorem mdel_none : ∀ (l : List (Me α)) (p : Px) (i : Nat), mfind l p i = none → mdel l p = l
  | [], _, _, _ => rfl
  | x :: r, p, i, h => by
    unfold mfind at h
    unfold mdel
    split at h
    · cases h
    · rw [if_neg (by assumption), mdel_none r p (i + 1) h]
theorem mset_none : ∀ (l : List (Me α)) (p : Px) (v : α) (i : Nat), mfind l p i = none → mset l p v = none ∧ mget l p = none
  | [], _, _, _, _ => ⟨rfl, rfl⟩
  | x :: r, p, v, i, h => by
    unfold mfind at h
    unfold mset mget
    split at h
    · cases h
    · obtain ⟨h1, h2⟩ := mset_none r p v (i + 1) h
      simp [*]
/-! ### what is there -/
theorem mget_none {l : List (Me α)} {p : Px} : mget l p = none ↔ ∀ x ∈ l, x.p ≠ p := by
  induction l with
  | nil => simp [mget]
  | cons x r ih =>
    unfold mget
    by_cases hs : p.same x.p = true
    · rw [if_pos hs]
      have := Px.same_iff.1 hs
      simp [this]
    · rw [if_neg hs, ih]
      have hne : x.p ≠ p := fun e => hs (by rw [e]; exact Px.same_self p)
      simp [hne]
theorem mget_split {l : List (Me α)} {p : Px} {u : α} (h : mget l p = some u) : ∃ l1 x l2, l = l1 ++ x :: l2 ∧ x.p = p ∧ x.v = u ∧ (∀ y ∈ l1, y.p ≠ p) ∧ mdel l p = l1 ++ l2 ∧ ∀ v, mset l p v = some (l1 ++ ⟨p, v, x.born⟩ :: l2) := by
  induction l with
  | nil => cases h
  | cons x r ih =>
    unfold mget at h
    unfold mdel mset
    by_cases hs : p.same x.p = true
    · rw [if_pos hs] at h
      cases h
      exact ⟨[], x, r, rfl, (Px.same_iff.1 hs).symm, rfl, by simp, by rw [if_pos hs]; rfl, fun v => by rw [if_pos hs]; rfl⟩
    · rw [if_neg hs] at h
      obtain ⟨l1, y, l2, rfl, h1, h2, h3, h4, h5⟩ := ih h
      have hne : x.p ≠ p := fun e => hs (by rw [e]; exact Px.same_self p)
      refine ⟨x :: l1, y, l2, rfl, h1, h2, fun z hz => ?_, by rw [if_neg hs, h4]; rfl, fun v => by rw [if_neg hs, h5 v]; rfl⟩
      rcases List.mem_cons.1 hz with rfl | hz
      · exact hne
      · exact h3 z hz
theorem mget_append {l1 l2 : List (Me α)} {p : Px} (h : ∀ y ∈ l1, y.p ≠ p) : mget (l1 ++ l2) p = mget l2 p := by
  induction l1 with
  | nil => rfl
  | cons x r ih =>
    rw [List.cons_append, mget, if_neg (fun hs => h x (by simp) (Px.same_iff.1 hs).symm)]
    exact ih fun y hy => h y (by simp [hy])
theorem mget_cons (x : Me α) (r : List (Me α)) (p : Px) : mget (x :: r) p = if x.p = p then some x.v else mget r p := by
  rw [mget]
  by_cases h : x.p = p
  · rw [if_pos h, if_pos (by rw [h]; exact Px.same_self p)]
  · rw [if_neg h, if_neg (fun hs => h (Px.same_iff.1 hs).symm)]
theorem mget_mid {l1 l2 : List (Me α)} {x y : Me α} {q : Px} (hp : x.p = y.p) (hq : q ≠ x.p) : mget (l1 ++ x :: l2) q = mget (l1 ++ y :: l2) q := by
  induction l1 with
  | nil => rw [List.nil_append, List.nil_append, mget_cons, mget_cons, if_neg (fun e => hq e.symm), if_neg (fun e => hq (by rw [hp, e]))]
  | cons z r ih => rw [List.cons_append, List.cons_append, mget_cons, mget_cons, ih]
theorem mget_drop {l1 l2 : List (Me α)} {x : Me α} {q : Px} (hq : q ≠ x.p) : mget (l1 ++ x :: l2) q = mget (l1 ++ l2) q := by
  induction l1 with
  | nil => rw [List.nil_append, List.nil_append, mget_cons, if_neg (fun e => hq e.symm)]
  | cons z r ih => rw [List.cons_append, List.cons_append, mget_cons, mget_cons, ih]
theorem mput_some {l : List (Me α)} {c : Nat} {p : Px} {u v : α} (h : mget l p = some u) : ∃ l1 x l2, l = l1 ++ x :: l2 ∧ x.p = p ∧ x.v = u ∧ mputL l c p v = l1 ++ ⟨p, v, x.born⟩ :: l2 ∧ mputC l c p = c ∧ (∀ y ∈ l1, y.p ≠ p) := by
  obtain ⟨l1, x, l2, h0, h1, h2, h3, _, h5⟩ := mget_split h
  exact ⟨l1, x, l2, h0, h1, h2, by unfold mputL; rw [h5]; rfl, by unfold mputC; rw [h]; rfl, h3⟩
theorem mput_none {l : List (Me α)} {c : Nat} {p : Px} {v : α} (h : mget l p = none) : mputL l c p v = l ++ [⟨p, v, c⟩] ∧ mputC l c p = c + 1 := by
  have hs : (mset l p v).isSome = false := by rw [mset_isSome, h]; rfl
  unfold mputL mputC
  rw [h]
  cases hm : mset l p v with
  | none => exact ⟨rfl, rfl⟩
  | some _ => rw [hm] at hs; cases hs
theorem mget_put (l : List (Me α)) (c : Nat) (p q : Px) (v : α) : mget (mputL l c p v) q = if q = p then some v else mget l q := by
  cases h : mget l p with
  | none =>
    rw [(mput_none h).1]
    by_cases hq : q = p
    · subst hq
      rw [if_pos rfl, mget_append (mget_none.1 h), mget_cons, if_pos rfl]
    · rw [if_neg hq]
      clear h
      induction l with
      | nil => rw [List.nil_append, mget_cons, if_neg (fun e => hq e.symm)]
      | cons x r ih => rw [List.cons_append, mget_cons, mget_cons, ih]
  | some u =>
    obtain ⟨l1, x, l2, rfl, h1, h2, h3, _, h5⟩ := mput_some (c := c) (v := v) h
    rw [h3]
    by_cases hq : q = p
    · subst hq
      rw [if_pos rfl, mget_append h5, mget_cons, if_pos rfl]
    · rw [if_neg hq]
      exact mget_mid h1.symm hq
theorem MOk.put {l : List (Me α)} {c : Nat} (h : MOk l c) (p : Px) (v : α) : MOk (mputL l c p v) (mputC l c p) := by
  cases hg : mget l p with
  | none =>
    rw [(mput_none hg).1, (mput_none (v := v) hg).2]
    refine ⟨?_, ?_, fun x hx => ?_⟩
    · rw [List.map_append, List.nodup_append]
      refine ⟨h.keys, by simp, fun a ha b hb => ?_⟩
      obtain ⟨x, hx, rfl⟩ := List.mem_map.1 ha
      simp only [List.map_cons, List.map_nil, List.mem_singleton] at hb
      subst hb
      exact mget_none.1 hg x hx
    · rw [List.map_append, List.nodup_append]
      refine ⟨h.borns, by simp, fun a ha b hb => ?_⟩
      obtain ⟨x, hx, rfl⟩ := List.mem_map.1 ha
      simp only [List.map_cons, List.map_nil, List.mem_singleton] at hb
      subst hb
      have := h.lt x hx
      omega
    · rcases List.mem_append.1 hx with hx | hx
      · have := h.lt x hx
        omega
      · simp only [List.mem_singleton] at hx
        subst hx
        simp
  | some u =>
    obtain ⟨l1, x, l2, rfl, h1, h2, h3, h4, h5⟩ := mput_some (c := c) (v := v) hg
    rw [h3, h4]
    refine ⟨by have := h.keys; simpa [h1] using this, by have := h.borns; simpa using this, fun y hy => ?_⟩
    simp only [List.mem_append, List.mem_cons] at hy
    rcases hy with hy | rfl | hy
    · exact h.lt y (by simp [hy])
    · exact h.lt x (by simp)
    · exact h.lt y (by simp [hy])
theorem mdel_of_none {l : List (Me α)} {p : Px} (h : mget l p = none) : mdel l p = l := by
  induction l with
  | nil => rfl
  | cons x r ih =>
    rw [mget_cons] at h
    unfold mdel
    by_cases hx : x.p = p
    · rw [if_pos hx] at h
      cases h
    · rw [if_neg hx] at h
      rw [if_neg (fun hs => hx (Px.same_iff.1 hs).symm), ih h]
theorem MOk.del {l : List (Me α)} {c : Nat} (h : MOk l c) (p : Px) : MOk (mdel l p) c := by
  cases hg : mget l p with
  | none => rw [mdel_of_none hg]; exact h
  | some u =>
    obtain ⟨l1, x, l2, rfl, h1, h2, h3, h4, _⟩ := mget_split hg
    rw [h4]
    have hsub : (l1 ++ l2).Sublist (l1 ++ x :: l2) := List.Sublist.append_left (List.sublist_cons_self _ _) _
    exact ⟨h.keys.sublist (hsub.map _), h.borns.sublist (hsub.map _), fun y hy => h.lt y (hsub.subset hy)⟩
theorem mget_del {l : List (Me α)} {c : Nat} (h : MOk l c) (p q : Px) : mget (mdel l p) q = if q = p then none else mget l q := by
  cases hg : mget l p with
  | none =>
    rw [mdel_of_none hg]
    by_cases hq : q = p
    · rw [if_pos hq, hq, hg]
    · rw [if_neg hq]
  | some u =>
    obtain ⟨l1, x, l2, rfl, h1, h2, h3, h4, _⟩ := mget_split hg
    rw [h4]
    by_cases hq : q = p
    · rw [if_pos hq, mget_none]
      intro y hy e
      have hk := h.keys
      rw [List.map_append, List.map_cons, List.nodup_append] at hk
      rcases List.mem_append.1 hy with hy | hy
      · exact h3 y hy (e.trans hq)
      · have := (List.nodup_cons.1 hk.2.1).1
        exact this (List.mem_map.2 ⟨y, hy, by rw [e, hq, h1]⟩)
    · rw [if_neg hq]
      exact (mget_drop (by rw [h1]; exact hq)).symm
theorem mget_mem {l : List (Me α)} {c : Nat} (h : MOk l c) {x : Me α} (hx : x ∈ l) : mget l x.p = some x.v := by
  obtain ⟨l1, l2, rfl⟩ := List.append_of_mem hx
  have hk := h.keys
  rw [List.map_append, List.map_cons, List.nodup_append] at hk
  rw [mget_append (fun y hy e => hk.2.2 y.p (List.mem_map.2 ⟨y, hy, rfl⟩) x.p (by simp) e), mget_cons, if_pos rfl]
theorem mem_of_mget {l : List (Me α)} {p : Px} {u : α} (h : mget l p = some u) : ∃ x ∈ l, x.p = p ∧ x.v = u := by
  obtain ⟨l1, x, l2, rfl, h1, h2, _⟩ := mget_split h
  exact ⟨x, by simp, h1, h2⟩
/-! ### the model's operations -/
theorem run_check_arr2 {d t e n : Nat} {em : Bool} {xs : Array Value} {a0 a1 : Value} (ht : Tryz.prog.underlying t = some (.array 2 e)) (hz : ∀ w, (Go.sizeOf e).run Tryz.prog w = .ok n w) (w : World)
    (x0 : (part e xs 0).run Tryz.prog w = .ok a0 w) (x1 : (part e xs n).run Tryz.prog w = .ok a1 w)
    (h0 : (Instr.checkKey em d e a0).run Tryz.prog w = .ok () w) (h1 : (Instr.checkKey em d e a1).run Tryz.prog w = .ok () w) : (Instr.checkKey em (d + 1) t (.agg xs)).run Tryz.prog w = .ok () w := by
  simp only [Instr.checkKey, Sem.run_bind, run_underlying ht, Result.andThen_ok, hz, Std.Legacy.Range.forIn_eq_forIn_range', Std.Legacy.Range.size]
  simp [List.range', List.forIn_cons, List.forIn_nil, Sem.run_bind, hz, x0, x1, h0, h1]
theorem check_int (em : Bool) (d t : Nat) (k : IntKind) (a : Int) (w : World) (ht : Tryz.prog.underlying t = some (.int k)) : (Instr.checkKey em (d + 1) t (.int k a)).run Tryz.prog w = .ok () w := by
  simp [Instr.checkKey, Sem.run_bind, run_underlying ht]
theorem check_str (em : Bool) (d t : Nat) (a : ByteArray) (w : World) (ht : Tryz.prog.underlying t = some .string) : (Instr.checkKey em (d + 1) t (.string a)).run Tryz.prog w = .ok () w := by
  simp [Instr.checkKey, Sem.run_bind, run_underlying ht]
theorem struct_of {t : TypeId} {l : List (Bool × TypeId × Nat)} (hne : l ≠ []) (h : (match Tryz.prog.underlying t with | some (.struct fs) => fs.toList.map (fun f => (f.name == "_", f.type, f.offset)) | _ => []) = l) : ∃ fs : Array Field, Tryz.prog.underlying t = some (.struct fs) ∧ fs.toList.map (fun f => (f.name == "_", f.type, f.offset)) = l := by
  cases hu : Tryz.prog.underlying t with
  | none => rw [hu] at h; exact absurd h.symm hne
  | some d =>
    rw [hu] at h
    cases d <;> first | exact ⟨_, rfl, h⟩ | exact absurd h.symm hne
theorem run_fields {em : Bool} {d : Nat} {cs : Array Value} {w : World} : ∀ (fs : List Field), (∀ f ∈ fs, (f.name == "_") = false ∧ ∃ v, (part f.type cs f.offset).run Tryz.prog w = .ok v w ∧ (Instr.checkKey em d f.type v).run Tryz.prog w = .ok () w) →
    (forIn fs PUnit.unit (fun (f : Field) (_ : PUnit) => (do if f.name ≠ "_" then (do Instr.checkKey em d f.type (← part f.type cs f.offset); pure (ForInStep.yield PUnit.unit)) else pure (ForInStep.yield PUnit.unit) : Sem (ForInStep PUnit)))).run Tryz.prog w = .ok PUnit.unit w
  | [], _ => by simp
  | f :: fs, h => by
    obtain ⟨h1, v, h2, h3⟩ := h f (by simp)
    have h1' : f.name ≠ "_" := by simpa using h1
    rw [List.forIn_cons]
    simp only [ne_eq, h1', not_false_eq_true, if_true, Sem.run_bind, h2, h3, Result.andThen_ok, Sem.run_pure]
    exact run_fields fs fun g hg => h g (by simp [hg])
theorem run_check_struct {em : Bool} {d : Nat} {t : TypeId} {fs : Array Field} {cs : Array Value} {w : World} (ht : Tryz.prog.underlying t = some (.struct fs)) (h : ∀ f ∈ fs.toList, (f.name == "_") = false ∧ ∃ v, (part f.type cs f.offset).run Tryz.prog w = .ok v w ∧ (Instr.checkKey em d f.type v).run Tryz.prog w = .ok () w) :
    (Instr.checkKey em (d + 1) t (.agg cs)).run Tryz.prog w = .ok () w := by
  have hr := run_fields fs.toList h
  simp only [Instr.checkKey, Sem.run_bind, run_underlying ht, Result.andThen_ok]
  rw [← Array.forIn_toList]
  rw [hr]
  rfl
set_option maxRecDepth 100000 in
theorem check31 (em : Bool) (d : Nat) (k l hi lo : Int) (p : ByteArray) (w : World) : (Instr.checkKey em (d + 2) 31 (.agg #[.int .i64 k, .int .i64 l, .int .u64 hi, .int .u64 lo, .string p])).run Tryz.prog w = .ok () w := by
  obtain ⟨fs, hu, hl⟩ := struct_of (t := 31) (l := [(false, 3, 0), (false, 3, 1), (false, 29, 2), (false, 29, 3), (false, 9, 4)]) (by simp) (by kernel_rfl)
  refine run_check_struct hu fun f hf => ?_
  have hm := List.mem_map_of_mem (f := fun f : Field => (f.name == "_", f.type, f.offset)) hf
  rw [hl] at hm
  simp only [List.mem_cons, List.not_mem_nil, or_false, Prod.mk.injEq] at hm
  rcases hm with ⟨h1, h2, h3⟩ | ⟨h1, h2, h3⟩ | ⟨h1, h2, h3⟩ | ⟨h1, h2, h3⟩ | ⟨h1, h2, h3⟩ <;> rw [h2, h3] <;> refine ⟨h1, ?_⟩
  · exact ⟨.int .i64 k, by kernel_rfl, check_int _ _ _ _ _ _ (by kernel_rfl)⟩
  · exact ⟨.int .i64 l, by kernel_rfl, check_int _ _ _ _ _ _ (by kernel_rfl)⟩
  · exact ⟨.int .u64 hi, by kernel_rfl, check_int _ _ _ _ _ _ (by kernel_rfl)⟩
  · exact ⟨.int .u64 lo, by kernel_rfl, check_int _ _ _ _ _ _ (by kernel_rfl)⟩
  · exact ⟨.string p, by kernel_rfl, check_str _ _ _ _ _ (by kernel_rfl)⟩
set_option maxRecDepth 100000 in
theorem check34 (em : Bool) (p : Px) (w : World) : (Instr.checkKey em 10000 34 p.v).run Tryz.prog w = .ok () w := by
  obtain ⟨fs, hu, hl⟩ := struct_of (t := 34) (l := [(false, 28, 0), (false, 32, 2)]) (by simp) (by kernel_rfl)
  refine run_check_struct (d := 9999) hu fun f hf => ?_
  have hm := List.mem_map_of_mem (f := fun f : Field => (f.name == "_", f.type, f.offset)) hf
  rw [hl] at hm
  simp only [List.mem_cons, List.not_mem_nil, or_false, Prod.mk.injEq] at hm
  rcases hm with ⟨h1, h2, h3⟩ | ⟨h1, h2, h3⟩ <;> rw [h2, h3] <;> refine ⟨h1, ?_⟩
  · exact ⟨.agg #[.int .i64 p.a0, .int .i64 p.a1], by kernel_rfl, run_check_arr2 (d := 9998) (n := 1) (e := 3) (by kernel_rfl) (fun _ => by kernel_rfl) w (by kernel_rfl) (by kernel_rfl) (check_int _ 9997 3 .i64 p.a0 w (by kernel_rfl)) (check_int _ 9997 3 .i64 p.a1 w (by kernel_rfl))⟩
  · exact ⟨.agg #[.int .i64 p.k0.k, .int .i64 p.k0.l, .int .u64 (p.k0.hi : Int), .int .u64 (p.k0.lo : Int), .string p.k0.p, .int .i64 p.k1.k, .int .i64 p.k1.l, .int .u64 (p.k1.hi : Int), .int .u64 (p.k1.lo : Int), .string p.k1.p], by kernel_rfl,
      run_check_arr2 (d := 9998) (n := 5) (e := 31) (by kernel_rfl) (fun _ => by kernel_rfl) w (by kernel_rfl) (by kernel_rfl) (check31 _ 9996 p.k0.k p.k0.l p.k0.hi p.k0.lo p.k0.p w) (check31 _ 9996 p.k1.k p.k1.l p.k1.hi p.k1.lo p.k1.p w)⟩
set_option maxRecDepth 100000 in
theorem equal34 (p q : Px) (w : World) : (Op.equal 34 p.v q.v).run Tryz.prog w = .ok (p.same q) w := by
  have e28 := run_eq28 p.a0 p.a1 q.a0 q.a1 w
  have e32 := run_eq32 p.k0.k p.k0.l p.k0.hi p.k0.lo p.k1.k p.k1.l p.k1.hi p.k1.lo q.k0.k q.k0.l q.k0.hi q.k0.lo q.k1.k q.k1.l q.k1.hi q.k1.lo p.k0.p q.k0.p p.k1.p q.k1.p w
  unfold Px.same samePx
  generalize (p.a0 == q.a0 && p.a1 == q.a1) = r at e28 ⊢
  generalize ((p.k0.k == q.k0.k && _) && _) = s at e32 ⊢
  show (Op.equalIn (9999 + 1) 34 p.v q.v).run Tryz.prog w = _
  rw [run_equalIn_struct _ _ _ _ _ (by kernel_rfl) (by kernel_rfl)]
  simp [go_sem, e28, e32]
  cases r <;> cases s <;> simp
theorem find34 (p : Px) (w : World) (l : List (Me α)) : (Instr.findKey 34 p.v (l.map (Me.e enc))).run Tryz.prog w = .ok ((mfind l p 0).map fun x => (x.1, enc x.2)) w := by
  obtain ⟨fs, hu, _⟩ := struct_of (t := 34) (l := [(false, 28, 0), (false, 32, 2)]) (by simp) (by kernel_rfl)
  have ask : ∀ (l : List (Me α)) (i : Nat), (Instr.findAsking 34 p.v (l.map (Me.e enc)) i).run Tryz.prog w = .ok ((mfind l p i).map fun x => (x.1, enc x.2)) w := by
    intro l
    induction l with
    | nil => intro i; rfl
    | cons x r ih =>
      intro i
      rw [List.map_cons, Instr.findAsking, Sem.run_bind]
      show ((Op.equal 34 p.v x.p.v).run Tryz.prog w).andThen _ = _
      rw [equal34, mfind]
      by_cases h : p.same x.p = true
      · simp [h, Me.e]
      · simp only [Bool.not_eq_true] at h
        simp only [h, Result.andThen_ok, Bool.false_eq_true, if_false]
        exact ih (i + 1)
  unfold Instr.findKey
  rw [Sem.run_bind, run_underlying hu, Result.andThen_ok]
  cases l with
  | nil => rfl
  | cons x r => exact ask (x :: r) 0
class MpT (T : TypeId) (E : outParam TypeId) (z : outParam Value) : Prop where
  ud : Tryz.prog.underlying T = some (.map 34 E)
  zr : ∀ w, (zeroValue E).run Tryz.prog w = .ok z w
theorem mp_get {w : World} {b : Nat} {l : List (Me α)} {c : Nat} (h : w.heap[b]? = some (mp enc l c)) : (getObj b).run Tryz.prog w = .ok (mp enc l c) w := by
  simp [getObj, Sem.run, h]
  rfl
theorem run_look34 {T E : TypeId} {z : Value} [hT : MpT T E z] {w : World} {b : Nat} {l : List (Me α)} {c : Nat} (p : Px) (ok : Bool) (h : w.heap[b]? = some (mp enc l c)) :
    (Instr.lookup T (.map (some b)) p.v ok).run Tryz.prog w = .ok (if ok then .tuple #[((mget l p).map enc).getD z, .bool (mget l p).isSome] else ((mget l p).map enc).getD z) w := by
  simp only [Instr.lookup, Sem.run_bind, run_underlying hT.ud, Result.andThen_ok, mp_get h, mp, Sem.run_pure, check34, find34]
  rw [← mfind_get l p 0]
  cases mfind l p 0 with
  | none => simp [hT.zr]
  | some x => simp
theorem run_keep34 (p : Px) (w : World) : (Instr.keyThatStays p.v p.v).run Tryz.prog w = .ok p.v w := by
  have h : Instr.sameBits 10000 p.v p.v = true := by
    have hb : ∀ b : ByteArray, (b == b) = true := fun b => by simp [MapKept.bytes_beq]
    simp [Instr.sameBits, hb]
  simp [Instr.keyThatStays, h]
theorem set_Turns {W : World} {b : Nat} {l l' : List (Me α)} {c c' : Nat} (h : W.heap[b]? = some (mp enc l c)) : (setObj b (mp enc l' c')).run Tryz.prog W = .ok () (ChangeMaps.setBlock W b (mp enc l' c')) ∧ Turns W b (mp enc l' c') (ChangeMaps.setBlock W b (mp enc l' c')) := by
  have hlt := (Array.getElem?_eq_some_iff.1 h).1
  refine ⟨?_, ⟨by simp [ChangeMaps.setBlock, hlt], by simp [ChangeMaps.setBlock], fun k hk => by simp [ChangeMaps.setBlock, Array.getElem?_setIfInBounds_ne (Ne.symm hk)], rfl, rfl, rfl⟩⟩
  exact MapKept.run_setObj_map _ h
theorem run_put34 {T E : TypeId} {z : Value} [hT : MpT T E z] {W : World} {b : Nat} {l : List (Me α)} {c : Nat} (p : Px) (v : α) (h : W.heap[b]? = some (mp enc l c)) :
    ∃ V, (Instr.mapUpdate T (.map (some b)) p.v (enc v)).run Tryz.prog W = .ok () V ∧ Turns W b (mp enc (mputL l c p v) (mputC l c p)) V := by
  simp only [Instr.mapUpdate, Sem.run_bind, run_underlying hT.ud, Result.andThen_ok, mp_get h, mp, Sem.run_pure, check34, find34]
  have hg := mfind_get l p 0
  cases hm : mfind l p 0 with
  | none =>
    rw [hm] at hg
    obtain ⟨h1, h2⟩ := mput_none (c := c) (v := v) hg.symm
    rw [h1, h2]
    obtain ⟨e, t⟩ := set_Turns (l' := l ++ [⟨p, v, c⟩]) (c' := c + 1) h
    refine ⟨_, ?_, t⟩
    rw [← e]
    simp [mp, Me.e]
  | some x =>
    obtain ⟨j, u⟩ := x
    obtain ⟨_, hlt, ⟨y, hy, hyp⟩, l', h1, h2⟩ := mset_modify (enc := enc) l p v 0 j u hm
    rw [Nat.sub_zero] at hlt hy h2
    rw [hm] at hg
    have e1 : mputL l c p v = l' := by unfold mputL; rw [h1]; rfl
    have e2 : mputC l c p = c := by unfold mputC; rw [← hg]; rfl
    rw [e1, e2]
    obtain ⟨e, t⟩ := set_Turns (l' := l') (c' := c) h
    refine ⟨_, ?_, t⟩
    rw [← e]
    have hk : (((l.map (Me.e enc)).toArray[j]?).map (·.key)).getD p.v = p.v := by
      simp [hy, Me.e, hyp]
    simp only [Option.map_some, hk, run_keep34, Sem.run_bind, Result.andThen_ok]
    congr 2
    rw [mp, ← h2]
    simp
theorem run_del34 {T E : TypeId} {z : Value} [hT : MpT T E z] {W : World} {b : Nat} {l : List (Me α)} {c : Nat} (p : Px) (ty : TypeId) (h : W.heap[b]? = some (mp enc l c)) :
    ∃ V, (Builtin.delete_ #[T, 34] ty #[.map (some b), p.v]).run Tryz.prog W = .ok (.tuple #[]) V ∧ Turns W b (mp enc (mdel l p) c) V := by
  simp only [Builtin.delete_, Sem.run_bind]
  simp only [zy, Sem.run_bind, run_underlying hT.ud, Result.andThen_ok, mp_get h, mp, Sem.run_pure, check34, find34]
  obtain ⟨e, t⟩ := set_Turns (l' := mdel l p) (c' := c) h
  cases hm : mfind l p 0 with
  | none =>
    rw [mdel_none l p 0 hm] at e t ⊢
    refine ⟨_, ?_, t⟩
    simp only [mp] at e
    simp only [Option.map_none, Sem.run_bind, e]
    rfl
  | some x =>
    obtain ⟨j, u⟩ := x
    obtain ⟨_, h2⟩ := mdel_erase (enc := enc) l p 0 j u hm
    rw [Nat.sub_zero] at h2
    refine ⟨_, ?_, t⟩
    simp only [Option.map_some, List.eraseIdxIfInBounds_toArray]
    rw [h2]
    simp only [mp] at e
    simp only [Sem.run_bind, e]
    rfl
theorem run_len34 {T E : TypeId} {z : Value} [hT : MpT T E z] {W : World} {b : Nat} {l : List (Me α)} {c : Nat} (ty : TypeId) (h : W.heap[b]? = some (mp enc l c)) :
    (Builtin.len_ #[T] ty #[.map (some b)]).run Tryz.prog W = .ok (.int .i64 (l.length : Int)) W := by
  simp only [Builtin.len_, Sem.run_bind]
  simp [Sem.run_bind, run_underlying hT.ud, mp_get h, mp, goInt]
end Go.Proofs.YtcbahkfbdlhabaaGreatDoor
namespace Go.Proofs.YtcbahkfbdlhabaaGreatDoor
set_option linter.unusedVariables false
set_option linter.unusedSimpArgs false
open Go.RowKit

/-- The fence without a bound, in a round or in none. -/
def wideAt : Option Nat → Fence
  | none => Fence.wide
  | some l => Fence.wide.inRound l
theorem callsIn_at {r : Option Nat} {n : Nat} {P : Program} {f : FuncId} {args : Array Value} {w : World} {R : Ending → World → Prop} (h : Calls P f args w R) : CallsIn (wideAt r) n P f args w R := by
  cases r with
  | none => exact callsIn_wide.2 h
  | some l => exact CallsIn.inRound l (callsIn_wide.2 h)
theorem rowsIn_at {r : Option Nat} {n : Nat} {P : Program} {row : String} {args : Array Value} {w : World} {R : Value → World → Prop} (h : Rows P row args w R) : RowsIn (wideAt r) n P row args w R := by
  have h2 : RowsIn Fence.wide n P row args w R := fun c cs _ => let ⟨v, w', q, s⟩ := h c cs; ⟨v, w', q, stepsIn_wide.2 s⟩
  cases r with
  | none => exact h2
  | some l => exact h2
def noDefer : Oper → Bool
  | ⟨_, .defer _, _, _, _, _⟩ => false
  | _ => true
theorem noDefer_ne {o : Oper} (h : noDefer o = true) (c : Call) : o.op ≠ .defer c := by
  intro e
  cases o
  simp only at e
  subst e
  cases h
theorem wideAt_fn (r : Option Nat) (f : FuncId) : (wideAt r).fn f := by cases r <;> trivial
theorem wideAt_depth (r : Option Nat) (h : (wideAt r).depth.isSome = true) {p : Prop} : p := by cases r <;> cases h
theorem wpIn_of_wp {r : Option Nat} {n : Nat} {P : Program} {o : Oper} {a : Act} {w : World} {next next' : Act → World → Prop} {Q : Exit → Act → World → Prop} (hd : noDefer o = true) (hn : ∀ a w, next a w → next' a w) (h : o.wp P a w next Q) : o.wpIn (wideAt r) n P a w next' Q := by
  refine ⟨fun f _ => wideAt_fn r f, ?_⟩
  rw [Oper.semAt_plain (wideAt r) _ _ (noDefer_ne hd)]
  unfold Oper.wp at h
  generalize (execOp a.eval o).run P w = res at h ⊢
  unfold Oper.upon at h
  unfold Oper.uponIn
  split at h
  · exact hn _ _ h
  · exact hn _ _ h
  · exact hn _ _ h
  · exact ⟨fun hs => wideAt_depth r hs, callsIn_at (h.mono fun e w' he => by
      cases e with
      | returned v => exact hn _ _ he
      | panicked c => exact he
      | outgrown => exact he)⟩
  · exact ⟨fun hs => wideAt_depth r hs, rowsIn_at (h.mono fun v w' he => hn _ _ he)⟩
  · exact h
  · exact h.elim
theorem wpListIn_of_wpList {r : Option Nat} {n : Nat} {P : Program} {ops : Array Oper} {Q : Exit → Act → World → Prop} : ∀ (l : List Oper) (a : Act) (w : World), ¬ LetsOut Q → l.all noDefer = true → wpList P ops Q l a w → wpListIn (wideAt r) n P ops Q l a w
  | [], _, _, _, _, h => h
  | o :: l, a, w, hq, hd, h => by
    simp only [List.all_cons, Bool.and_eq_true] at hd
    unfold wpList at h
    unfold wpListIn
    split at h
    · rename_i hw
      rw [if_pos hw]
      exact wpIn_of_wp hd.1 (fun a w h => wpListIn_of_wpList l a w hq hd.2 h) (h.resolve_right fun hx => hq hx.2)
    · rename_i hw
      rw [if_neg hw]
      exact ⟨fun f _ => wideAt_fn r f, wpListIn_of_wpList l _ w hq hd.2 h⟩
theorem wpAnyIn_of_wpAny {r : Option Nat} {n : Nat} {P : Program} {ops : Array Oper} {Q : Exit → Act → World → Prop} (hq : ¬ LetsOut Q) (hd : ops.all noDefer = true) : ∀ (m : Nat) (L : Array Bool) (a : Act) (w : World), wpAny P .any ops Q m L a w → wpAnyIn (wideAt r) n P .any ops Q m L a w
  | 0, L, a, w, h => h
  | m + 1, L, a, w, h => by
    refine ⟨h.1, fun i hi => ?_⟩
    have h2 := h.2 i hi
    unfold wpOp at h2
    unfold wpOpIn
    cases ho : ops[i]? with
    | none =>
      rw [ho] at h2
      exact wpAnyIn_of_wpAny hq hd m _ _ _ h2
    | some o =>
      rw [ho] at h2
      have hdo : noDefer o = true := by
        obtain ⟨hlt, he⟩ := Array.getElem?_eq_some_iff.1 ho
        rw [← he]
        exact Array.all_eq_true.1 hd i hlt
      dsimp only at h2 ⊢
      split at h2
      · rename_i hw
        rw [if_pos hw]
        exact wpIn_of_wp hdo (fun a w h => wpAnyIn_of_wpAny hq hd m _ a w h) (h2.resolve_right fun hx => hq hx.2)
      · rename_i hw
        rw [if_neg hw]
        exact ⟨fun f _ => wideAt_fn r f, wpAnyIn_of_wpAny hq hd m _ _ w h2⟩
theorem wpIn_list_at {r : Option Nat} {n id : Nat} {P : Program} {ops : Array Oper} {Q : Exit → Act → World → Prop} {a : Act} {w : World} (hq : ¬ LetsOut Q) (hd : ops.toList.all noDefer = true) (h : wpList P ops Q ops.toList a w) : (Code.region id ops false).wpIn (wideAt r) n P Q a w :=
  wpIn_region_list (wpListIn_of_wpList _ a w hq hd h)
end Go.Proofs.YtcbahkfbdlhabaaGreatDoor
namespace Go.Proofs.YtcbahkfbdlhabaaGreatDoor
set_option linter.unusedVariables false
set_option linter.unusedSimpArgs false
open Go.RowKit
open Go.Extern.Stop Go.Stop Go.Extern Go.Shelf in
theorem Tryz.extraJoin : Builder.Extra Tryz.prog Tryz.laysJoin_ren := {
  sizeBuilder := by kernel_rfl
  liesBuilder := by kernel_rfl
  t5 := by kernel_rfl
  a5 := fun _ => by kernel_rfl
  z5 := fun _ => by kernel_rfl
  v5 := fun _ => by kernel_rfl
  infoByte := by kernel_rfl
  cellsByte := by kernel_rfl
  sizeByte := by kernel_rfl
  neB5 := by decide }
attribute [local go_sem] index24_0 index24_1 field34_0 field34_1
attribute [local irreducible] wpList Code.wp wpB

def joinB (ls : List ByteArray) : ByteArray := ⟨(Lib.join (ls.map (·.data.toList)) [46]).toArray⟩
theorem join_nil (a : Option Addr) (k c : Nat) (hk : k = 0) (w : World) : Calls Tryz.prog 183 #[.slice a k c, .string dotS] w fun e w' => e = .returned (.string ⟨#[]⟩) ∧ Below w.heap.size w w' := by
  subst hk
  exact (Any.strings_Join_none Tryz.laysJoin Tryz.extraJoin a c dotS w).mono fun e w' ⟨he, hw⟩ => ⟨he, hw ▸ Below.refl _ _⟩
theorem join_row (ls : List ByteArray) (g m : Nat) (w : World) (HH : Hp w w [⟨g, .cells (srow ls).toArray 9 (0, 0), false⟩]) (hm : m ≤ ls.length) (hN : ls.length ≤ 140737488355328) (hl : (joinB (ls.take m)).size ≤ 140737488355328) :
    Calls Tryz.prog 183 #[.slice (some ⟨g, 0, none⟩) m ls.length, .string dotS] w fun e w' => e = .returned (.string (joinB (ls.take m))) ∧ Below w.heap.size w w' := by
  have hlen : (ls.take m).length = m := by simp; omega
  have h := Any.strings_Join Tryz.laysJoin Tryz.extraJoin g 0 ls.length (ls.take m) dotS w (fun j x hx => by
    have hr : w.heap[g]? = some (.cells (srow ls).toArray 9 (0, 0)) := HH.lies.1
    rw [cell_of_row w g _ _ _ _ hr]
    rw [List.getElem?_take] at hx
    split at hx
    · simp [srow, hx]
    · cases hx) (HH.lt ⟨g, .cells (srow ls).toArray 9 (0, 0), false⟩ (by simp)) (by rw [hlen]; omega) (by rw [hlen]; exact hm) hl
  rw [hlen] at h
  exact h

set_option maxRecDepth 100000 in
set_option maxHeartbeats 4000000 in
theorem labTop_nil (p : ByteArray) (bb : Bool) (hs : Gives 59 #[.string p] (.tuple #[.slice none 0 0, .bool bb])) (n : Int) (w : World) : Calls Tryz.prog 182 #[.string p, .int .i64 n] w fun e w' => e = .returned (.string ⟨#[]⟩) ∧ Below w.heap.size w w' := by
  have HS := hs
  clear hs
  have HH := Hp.nil w
  go_enter Tryz.func182, Tryz.ntmps182
  go_wp2_with (first | (go_at_call 59; (with_reducible refine ((HS) _).mono ?_); rintro e V ⟨rfl, hb⟩; replace HH := HH.next hb; clear hb) | (go_at_call 183; (with_reducible refine ((join_nil _ _ _ (by omega)) _).mono ?_); rintro e V ⟨rfl, hb⟩; replace HH := HH.next hb; clear hb))
  all_goals (go_ret; refine ⟨?_, HH.below rfl⟩; (rfl))

set_option maxRecDepth 100000 in
set_option maxHeartbeats 4000000 in
theorem labTop_good (ps : List ByteArray) (p : ByteArray) (hs : ∀ w, Calls Tryz.prog 59 #[.string p] w fun e w' => ∃ g, e = .returned (.tuple #[.slice (some ⟨g, 0, none⟩) ps.length ps.length, .bool true]) ∧ Hp w w' [⟨g, .cells (srow ps).toArray 9 (0, 0), true⟩]) (n : Int) (hN : ps.length ≤ 8) (hl : (joinB (ps.take (min (max n 0) (ps.length : Int)).toNat)).size ≤ 140737488355328) (w : World) : Calls Tryz.prog 182 #[.string p, .int .i64 n] w fun e w' => e = .returned (.string (joinB (ps.take (min (max n 0) (ps.length : Int)).toNat))) ∧ Below w.heap.size w w' := by
  have HS := hs
  clear hs
  have HH := Hp.nil w
  go_enter Tryz.func182, Tryz.ntmps182
  go_wp2_with (first | (go_at_call 59; (with_reducible refine (HS _).mono ?_); rintro e V ⟨g, rfl, hh⟩; replace HH := HH.join hh (by simp); clear hh; (try simp only [List.cons_append, List.nil_append] at HH); (try simp only [Act.put, zz])) | (go_at_call 183; (have HS2 := HH.lend 0 rfl); (with_reducible refine (join_row ps _ _ _ HS2 (by omega) (by omega) hl).mono ?_); clear HS2; rintro e V ⟨rfl, hb⟩; replace HH := HH.next hb; clear hb; (try simp only [Act.put, zz])))
  all_goals (go_ret; refine ⟨?_, HH.below rfl⟩; (rfl))

def joinK (ls : List ByteArray) : ByteArray := joinB ls
def topT (p : ByteArray) (n : Int) : ByteArray := if p.size = 0 then ⟨#[]⟩ else if okL p then joinB ((partsD p).take (min (max n 0) ((partsD p).length : Int)).toNat) else ⟨#[]⟩
def lenL (p : ByteArray) : Int := if p.size = 0 then 0 else if okL p then (partsD p).length else 0
theorem joinB_size : ∀ (ls : List ByteArray), (∀ x ∈ ls, x.size ≤ 16) → (joinB ls).size ≤ 17 * ls.length := by
  intro ls h
  show (Lib.join (ls.map (·.data.toList)) [46]).toArray.size ≤ _
  rw [List.size_toArray]
  cases ls with
  | nil => exact Nat.zero_le _
  | cons x r =>
    have hj := Lib.join_length x.data.toList (r.map (·.data.toList)) [46]
    rw [List.map_cons, hj]
    have hs : ∀ l : List ByteArray, (∀ y ∈ l, y.size ≤ 16) → Lib.lens (l.map (·.data.toList)) ≤ 16 * l.length := by
      intro l
      induction l with
      | nil => intro _; exact Nat.le_refl _
      | cons y t ih =>
        intro hy
        have h1 := ih fun z hz => hy z (by simp [hz])
        have h2 := hy y (by simp)
        have h3 : y.data.toList.length = y.size := by simp
        unfold Lib.lens at h1 ⊢
        simp only [List.map_cons, List.sum_cons, List.length_cons]
        rw [h3]
        omega
    have h9 := hs (x :: r) h
    rw [List.map_cons] at h9
    simp only [List.length_cons, List.length_nil, List.length_map] at h9 ⊢
    omega
theorem labB_size {p : ByteArray} (h : labB p = true) : p.size ≤ 16 := by
  unfold labB at h
  simp at h
  omega
theorem part_mem {ps : List ByteArray} {x : ByteArray} (hx : x ∈ ps) : ∃ k, k < ps.length ∧ gs ps k = x := by
  obtain ⟨k, hk, rfl⟩ := List.mem_iff_getElem.1 hx
  exact ⟨k, hk, by unfold gs; rw [List.getD_eq_getElem?_getD, List.getElem?_eq_getElem hk]; rfl⟩
theorem okL_parts {p : ByteArray} (h0 : p.size ≠ 0) (h : okL p = true) : (partsD p).length ≤ 8 ∧ ∀ k, k < (partsD p).length → labB (gs (partsD p) k) = true := by
  unfold okL at h
  rw [decide_eq_false h0] at h
  simp only [Bool.false_or, Bool.and_eq_true, decide_eq_true_eq] at h
  exact h
theorem topT_size (p : ByteArray) (n : Int) : (topT p n).size ≤ 136 := by
  unfold topT
  split
  · exact Nat.zero_le _
  · split
    · rename_i h0 h
      obtain ⟨h8, hl⟩ := okL_parts h0 h
      have := joinB_size ((partsD p).take (min (max n 0) ((partsD p).length : Int)).toNat) (fun x hx => by
        obtain ⟨k, hk, rfl⟩ := part_mem (List.mem_of_mem_take hx)
        exact labB_size (hl k hk))
      rw [List.length_take] at this
      omega
    · exact Nat.zero_le _
theorem labelFns : LabelFns okL lenL topT := {
  right := fun p hp w => by
    rcases split_cases p hp with ⟨h0, h1, h⟩ | ⟨h0, h1, h⟩ | ⟨h0, h1, h8, h⟩ <;> rw [h1]
    · exact labRight_nil p true h w
    · exact labRight_nil p false h w
    · exact labRight_good _ p _ h w
  len := fun p hp w => by
    unfold lenL
    rcases split_cases p hp with ⟨h0, h1, h⟩ | ⟨h0, h1, h⟩ | ⟨h0, h1, h8, h⟩ <;> rw [h1]
    · rw [if_pos h0]
      exact labLen_nil p true h w
    · rw [if_neg h0]
      exact labLen_nil p false h w
    · rw [if_neg h0]
      exact labLen_good _ p _ h w
  top := fun p n hp w => by
    have hz := topT_size p n
    unfold topT at hz ⊢
    rcases split_cases p hp with ⟨h0, h1, h⟩ | ⟨h0, h1, h⟩ | ⟨h0, h1, h8, h⟩ <;> rw [h1] at hz ⊢
    · rw [if_pos h0]
      exact labTop_nil p true h n w
    · rw [if_neg h0]
      exact labTop_nil p false h n w
    · rw [if_neg h0] at hz ⊢
      exact labTop_good _ p h n h8 (by rw [if_pos rfl] at hz; omega) w
  small := fun p n => by
    have := topT_size p n
    omega }

end Go.Proofs.YtcbahkfbdlhabaaGreatDoor
