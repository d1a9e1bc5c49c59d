/- A part of the proof that the law TopThree returns true for all arguments of bulk at most 1048576 (no other condition). Here: The document's dimensions: Lens, Len, Right. Labels: isByte; the document's IsLabel. Labels: IsLabel. -/
import Derived.Test.YtcbahkfbdlhabaaGreatDoorK04
import Derived.Test.YtcbahkfbdlhabaaGreatDoorK05
import Derived.Lib.ConvBytes
namespace Go.Proofs.YtcbahkfbdlhabaaGreatDoor
set_option linter.unusedVariables false
set_option linter.unusedSimpArgs false
open Go.RowKit
attribute [local go_sem] index24_0 index24_1 field34_0 field34_1
attribute [local irreducible] wpList Code.wp wpB

def irow (f : Nat → Int) (n : Nat) : List Value := (List.range n).map fun j => .int .i64 (f j)
theorem irow_succ (f : Nat → Int) (n : Nat) : irow f (n + 1) = irow f n ++ [.int .i64 (f n)] := by
  unfold irow
  rw [List.range_succ, List.map_append]
  rfl
theorem irow_len (f : Nat → Int) (n : Nat) : (irow f n).length = n := by simp [irow]
theorem irow_get (f : Nat → Int) (n : Nat) (js : List Value) (j : Nat) (hj : j < n) : rdv false 1 (irow f n ++ js) j = some (.int .i64 (f j)) := by
  show (irow f n ++ js)[j]? = _
  rw [List.getElem?_append_left (by rw [irow_len]; exact hj)]
  simp [irow, hj]
theorem elt107 : ElT 107 3 1 8 (.int .i64 0) :=
  ⟨by kernel_rfl, by
    have h : (Tryz.prog.info? 3).map (fun i => (i.zero, i.size, i.bytes)) = some (some (.int .i64 0), 1, 8) := by kernel_rfl
    exact info_parts h, rfl, by decide⟩
set_option maxRecDepth 100000 in
theorem run_bs107 (n : Int) (w : World) : (Instr.buildSlice 107 1 #[(0, .int .i64 n)]).run Tryz.prog w = .ok (.slice (some ⟨w.heap.size, 0, none⟩) 1 1) (w.alloc (.cells #[.int .i64 n] 3)) := by
  simp [go_sem]
theorem wpl_bs107 {ops : Array Oper} {rest : List Oper} {o : Oper} {act : Act} {Q : Exit → Act → World → Prop} {w0 W : World} {L : List En} {x : Operand} {n : Int} (HH : Hp w0 W L) (hop : o.op = .buildSlice 107 1 #[(0, x)]) (hw : Region.wanted o (yielded ops act.tmps) = true) (hx : act.eval x = .int .i64 n)
    (hh : ∀ b' V, Hp w0 V (⟨b', .cells #[.int .i64 n] 3 (0, 0), true⟩ :: L) → wpList Tryz.prog ops Q rest (act.put o.dst (.slice (some ⟨b', 0, none⟩) 1 1)) V) : wpList Tryz.prog ops Q (o :: rest) act W :=
  wpList_on hw fun K hK => by
    unfold Oper.wp execOp
    simp [hop, hx, run_bs107, Result.andThen]
    exact hK _ _ (hh _ _ (HH.alloc _))
set_option maxRecDepth 100000 in
theorem run_idx107 {ρ : Operand → Value} {o : Oper} {x y : Operand} {g n cap p : Nat} (hop : o.op = .indexAddr 107 x y) (hx : ρ x = .slice (some ⟨g, 0, none⟩) n cap) (hy : ρ y = .int .i64 (p : Int)) (hp : p < n) (w : World) : (execOp ρ o).run Tryz.prog w = .ok (.value (.pointer (some ⟨g, p, none⟩))) w := by
  unfold execOp
  simp only [hop, hx, hy]
  have hq : (p : Int) < (n : Int) := by omega
  have hz : ¬ (p : Int) < 0 := by omega
  go_simp
  all_goals (try simp [hp, hq, hz, Addr.add])

set_option maxRecDepth 100000 in
set_option maxHeartbeats 4000000 in
theorem refLens0 (k s t wd : Int) (hw : Gives 61 #[.int .i64 k] (.int .i64 wd)) (hb : ¬ (wd ≠ 0 ∧ (s = 1 ∨ s = 2) ∧ 1 ≤ t ∧ t ≤ wd)) (w : World) : Calls Tryz.prog 53 #[dv k s t] w fun e w' => e = .returned (.slice none 0 0) ∧ Below w.heap.size w w' := by
  have HW := hw
  clear hw
  have HH := Hp.nil w
  go_enter Tryz.func53, Tryz.ntmps53
  go_wp2_with (first | (go_at_call 61; (with_reducible refine ((HW) _).mono ?_); rintro e V ⟨rfl, hb⟩; replace HH := HH.next hb; clear hb) | ((with_reducible show zX (Op.load _ _)); (refine wpl_load HH 0 rfl rfl rfl rfl rfl ?_; (try simp only [Act.put, zz]))) | ((with_reducible show zX (Op.binOp _ _ _ _ _)); (refine wpl_cmp (p := ?_) rfl rfl rfl ?_ ?_ ?_; rotate_left; (focus (go_simp; with_reducible rfl)); all_goals (intro hq; (try (fail)); (try simp only [zw] at hq); (try simp only [Act.put, zz])))) | ((with_reducible show zY (Op.load _ _)); (refine wpl_load HH 0 rfl rfl rfl (by simp only [Region.wanted, yielded, zy, Option.bind_some]; decide) rfl ?_; (try simp only [Act.put, zz]))) | ((with_reducible show zY (Op.binOp _ _ _ _ _)); (refine wpl_cmp (p := ?_) rfl rfl (by simp only [Region.wanted, yielded, zy, Option.bind_some]; decide) ?_ ?_ ?_; rotate_left; (focus (go_simp; with_reducible rfl)); all_goals (intro hq; (try (fail)); (try simp only [zw] at hq); (try simp only [Act.put, zz])))) | ((with_reducible show zW (Op.box _ _)); refine wpl_box HH rfl rfl rfl ?_; clear HH; intro b V HH; simp only [Act.eval, zx, Value.cells, putl, zC, zB] at HH; (try simp only [Act.put, zz])))
  all_goals (first | (go_ret; refine ⟨?_, HH.below rfl⟩; (rfl)) | (exfalso; clear HH HW; simp only [beq_iff_eq, bne_iff_ne, ne_eq, beq_eq_false_iff_ne, bne_eq_false_iff_eq] at *; omega))

def lensF (wd t : Int) (j : Nat) : Int := max 0 (wd - j * t)
def slen : Value → Nat
  | .slice _ n _ => n
  | _ => 0
theorem lensF_bound (wd t : Int) (p : Nat) (h1 : 1 ≤ t) (h2 : 0 ≤ wd) (h3 : wd ≤ 128) : 0 ≤ lensF wd t p ∧ lensF wd t p ≤ 128 := by
  have := Int.mul_nonneg (Int.natCast_nonneg p) (show (0 : Int) ≤ t by omega)
  unfold lensF
  omega
theorem lens_more {wd t : Int} {p m : Nat} (h1 : 1 ≤ t) (hq : 0 < lensF wd t p) (hm2 : wd ≤ (m + 1 : Int) * t) : p ≤ m := by
  unfold lensF at hq
  have h2 : (p : Int) * t < (m + 1 : Int) * t := by omega
  have h3 := Int.lt_of_mul_lt_mul_right h2 (by omega)
  omega
theorem lens_val (wd t : Int) (p : Nat) : lensF wd t (p + 1) = max 0 (wd - p * t - t) := by
  unfold lensF
  have h2 : ((p + 1 : Nat) : Int) * t = p * t + t := by rw [Int.natCast_add, Int.add_mul]; simp
  omega
theorem lens_end {wd t : Int} {p m : Nat} (h1 : 1 ≤ t) (hq : lensF wd t p ≤ 0) (hm1 : (m : Int) * t < wd) : m < p := by
  unfold lensF at hq
  refine Nat.lt_of_not_le fun hle => ?_
  have h2 : (p : Int) * t ≤ (m : Int) * t := Int.mul_le_mul_of_nonneg_right (by omega) (by omega)
  omega

set_option maxRecDepth 100000 in
set_option maxHeartbeats 4000000 in
theorem refLens_1 (k t wd : Int) (hw : Gives 61 #[.int .i64 k] (.int .i64 wd)) (h1 : 1 ≤ t) (h2 : t ≤ wd) (h3 : wd ≤ 128) (m : Nat) (hm1 : (m : Int) * t < wd) (hm2 : wd ≤ (m + 1 : Int) * t) (w : World) : Calls Tryz.prog 53 #[dv k 1 t] w fun e w' => ∃ v r, e = .returned v ∧ SlR 3 1 true v (m + 2) (irow (lensF wd t) (m + 2)) r ∧ Hp w w' r := by
  have HW := hw
  clear hw
  have hm0 : (m : Int) < 128 := by
    have h0 := Int.mul_le_mul_of_nonneg_left h1 (Int.natCast_nonneg m)
    omega
  have HM := Lib.hid (And.intro hm1 hm2)
  clear hm1 hm2
  have HH := Hp.nil w
  go_enter Tryz.func53, Tryz.ntmps53
  go_wp2_with (first | ((with_reducible show zW (Op.buildSlice 107 _ _)); refine wpl_bs107 HH rfl rfl rfl ?_; clear HH; intro b V HH; (try simp only [Act.put, zz])) | (go_at_call 61; (with_reducible refine ((HW) _).mono ?_); rintro e V ⟨rfl, hb⟩; replace HH := HH.next hb; clear hb) | ((with_reducible show zX (Op.load _ _)); (refine wpl_load HH 0 rfl rfl rfl rfl rfl ?_; (try simp only [Act.put, zz]))) | ((with_reducible show zX (Op.binOp _ _ _ _ _)); (refine wpl_cmp (p := ?_) rfl rfl rfl ?_ ?_ ?_; rotate_left; (focus (go_simp; with_reducible rfl)); all_goals (intro hq; (try (fail)); (try simp only [zw] at hq); (try simp only [Act.put, zz])))) | ((with_reducible show zY (Op.load _ _)); (refine wpl_load HH 0 rfl rfl rfl (by simp only [Region.wanted, yielded, zy, Option.bind_some]; decide) rfl ?_; (try simp only [Act.put, zz]))) | ((with_reducible show zY (Op.binOp _ _ _ _ _)); (refine wpl_cmp (p := ?_) rfl rfl (by simp only [Region.wanted, yielded, zy, Option.bind_some]; decide) ?_ ?_ ?_; rotate_left; (focus (go_simp; with_reducible rfl)); all_goals (intro hq; (try (contradiction)); (try simp only [zw] at hq); (try simp only [Act.put, zz])))) | ((with_reducible show zW (Op.box _ _)); refine wpl_box HH rfl rfl rfl ?_; clear HH; intro b V HH; simp only [Act.eval, zx, Value.cells, putl, zC, zB] at HH; (try simp only [Act.put, zz])))
  all_goals (try (exfalso; (first | omega | (replace hq := eq_of_beq hq; omega))))
  go_loopw [4] (fun v wr => ∃ (p n g cap : Nat) (js : List Value), p + 1 = n ∧ n ≤ m + 2 ∧ v = .slice (some ⟨g, 0, none⟩) n cap ∧ cap - n ≤ js.length ∧ n ≤ cap ∧ cap ≤ maxLen ∧ Hp w wr ((Hp.lst HH).tail ++ [⟨g, .cells (irow (lensF wd t) n ++ js).toArray 3 (0, 0), true⟩])) (fun v _ => m + 3 - slen v)
  case atStart => exact ⟨0, 1, b, 1, [], rfl, by omega, rfl, by simp, Nat.le_refl _, by unfold maxLen; omega, by simpa [irow, lensF, Int.max_eq_right (show (0 : Int) ≤ wd by omega), Hp.lst] using HH.perm (List.Perm.swap _ _ _)⟩
  case round =>
    obtain ⟨p, n, g, cap, js, hpn, hn, rfl, hjs, hnc, hcm, HR⟩ := hrel
    dsimp only [Hp.lst, List.tail, List.cons_append, List.nil_append] at HR
    have HH := HR
    clear HR
    have HS : SlR 3 1 true (.slice (some ⟨g, 0, none⟩) n cap) n (irow (lensF wd t) n) [⟨g, .cells (irow (lensF wd t) n ++ js).toArray 3 (0, 0), true⟩] := ⟨by rw [irow_len]; omega, .inr ⟨g, cap, js, rfl, rfl, by omega, hnc, hcm⟩⟩
    have HV := fun j hj => irow_get (lensF wd t) n js j hj
    have HF := Lib.hid (lensF_bound wd t p h1 (by omega) h3)
    have w1 : wrap64 ((n : Int) - 1) = (p : Int) := by rw [IntWalk.wrap64_in _ (by omega)]; omega
    have w2 : IntKind.i64.wrap ((n : Int) - 1) = (p : Int) := by rw [IntWalk.i64_in _ (by omega)]; omega
    go_wp2_with (first | ((with_reducible show zW (Op.load 3 _)); refine wpl_load HH 1 rfl rfl rfl rfl (HV _ (by omega)) ?_; (try simp only [Act.put, zz])) | ((with_reducible show zW (Op.buildSlice 107 _ _)); refine wpl_bs107 HH rfl rfl rfl ?_; clear HH; intro b V HH; (try simp only [Act.put, zz])) | (at_builtin; (refine wpl_append1 elt107 HS HH rfl rfl rfl rfl rfl rfl (by omega) (by omega) ?_); clear HH HS; intro v r V HS HH; (try simp only [Act.put, zz])) | ((with_reducible show zX (Op.binOp _ _ _ _ _)); (refine wpl_cmp (p := ?_) rfl rfl rfl ?_ ?_ ?_; rotate_left; (focus (go_simp; with_reducible rfl)); all_goals (intro hq; (try (fail)); (try simp only [zw] at hq); (try simp only [Act.put, zz])))) | ((with_reducible show Code.wp _ (Code.region _ _ true) _ _ _); (refine wp_tail_Hp (id := 6) [0, 1, 2, 3, 4, 5, 6, 7, 8, 9] [] (by kernel_rfl) HH ?_; clear HH; (try dsimp only); (try simp only [pick, zy]); repeat' (first | ((with_reducible show wpB _ _ _ _ [] _); refine wpB_nil ?_; intro V HH; (try simp only [pick, zy]); (try simp only [Act.put, zz]); (try simp only [Value.cells] at HH)) | (((with_reducible show zU _); (first | ((with_reducible show zT (Op.move _)); refine wpB_move rfl rfl rfl ?_) | ((with_reducible show zT (Op.assign _)); refine wpB_assign rfl rfl rfl ?_) | ((with_reducible show zT (Op.indexAddr 107 _ _)); refine wpB_val rfl (fun w9 _ => run_idx107 rfl rfl rfl (by omega) w9) ?_) | ((with_reducible show zT (Op.load 3 _)); refine wpB_load 1 rfl rfl rfl rfl (HV _ (by omega)) ?_) | ((with_reducible show zT (Op.load _ _)); (refine wpB_load 0 rfl rfl rfl rfl rfl ?_)) | ((with_reducible show zT (Op.call _)); (refine wpB_val (v := ?_) rfl ?_ ?_; rotate_left; (focus (intro w9 hS9; go_simp; all_goals (with_reducible rfl))))) | (refine wpB_val (v := ?_) rfl ?_ ?_; rotate_left; (focus (intro w9 hS9; go_simp; all_goals (with_reducible rfl)))))); all_goals (try simp only [Act.put, zz, Act.eval, zx]))))))
    · have hf : 0 < lensF wd t p := by assumption
      have hp := lens_more h1 hf HM.out.2
      have hv := lens_val wd t p
      have hF := HF.out
      unfold lensF at hf
      have hFe : lensF wd t p = wd - p * t := by unfold lensF; omega
      rw [hpn] at hv
      rw [IntWalk.i64_in _ (by omega)] at hq
      have e : irow (lensF wd t) n ++ [Value.int IntKind.i64 0] = irow (lensF wd t) (n + 1) := by rw [irow_succ, show lensF wd t n = 0 by omega]
      rw [e] at HS
      rcases HS.2 with ⟨_, h0, _⟩ | ⟨g', cap', js', rfl, rfl, k1, k2, k3⟩
      · cases h0
      · exact ⟨⟨n, n + 1, g', cap', js', rfl, by omega, rfl, by omega, k2, k3, HH⟩, by simp [slen]; omega⟩
    · have hf : 0 < lensF wd t p := by assumption
      have hp := lens_more h1 hf HM.out.2
      have hv := lens_val wd t p
      have hF := HF.out
      unfold lensF at hf
      have hFe : lensF wd t p = wd - p * t := by unfold lensF; omega
      rw [hpn] at hv
      rw [IntWalk.i64_in _ (by omega)] at hq HS
      have e : irow (lensF wd t) n ++ [Value.int IntKind.i64 (lensF wd t p - t)] = irow (lensF wd t) (n + 1) := by rw [irow_succ, show lensF wd t n = lensF wd t p - t by omega]
      rw [e] at HS
      rcases HS.2 with ⟨_, h0, _⟩ | ⟨g', cap', js', rfl, rfl, k1, k2, k3⟩
      · cases h0
      · exact ⟨⟨n, n + 1, g', cap', js', rfl, by omega, rfl, by omega, k2, k3, HH⟩, by simp [slen]; omega⟩
    · have hp := lens_end h1 hq HM.out.1
      have hnm : n = m + 2 := by omega
      subst hnm
      go_ret
      exact ⟨_, _, rfl, HS, HH.drop rfl⟩

set_option maxRecDepth 100000 in
set_option maxHeartbeats 4000000 in
theorem refLens_2 (k t wd : Int) (hw : Gives 61 #[.int .i64 k] (.int .i64 wd)) (h1 : 1 ≤ t) (h2 : t ≤ wd) (h3 : wd ≤ 128) (m : Nat) (hm1 : (m : Int) * t < wd) (hm2 : wd ≤ (m + 1 : Int) * t) (w : World) : Calls Tryz.prog 53 #[dv k 2 t] w fun e w' => ∃ v r, e = .returned v ∧ SlR 3 1 true v (m + 2) (irow (lensF wd t) (m + 2)) r ∧ Hp w w' r := by
  have HW := hw
  clear hw
  have hm0 : (m : Int) < 128 := by
    have h0 := Int.mul_le_mul_of_nonneg_left h1 (Int.natCast_nonneg m)
    omega
  have HM := Lib.hid (And.intro hm1 hm2)
  clear hm1 hm2
  have HH := Hp.nil w
  go_enter Tryz.func53, Tryz.ntmps53
  go_wp2_with (first | ((with_reducible show zW (Op.buildSlice 107 _ _)); refine wpl_bs107 HH rfl rfl rfl ?_; clear HH; intro b V HH; (try simp only [Act.put, zz])) | (go_at_call 61; (with_reducible refine ((HW) _).mono ?_); rintro e V ⟨rfl, hb⟩; replace HH := HH.next hb; clear hb) | ((with_reducible show zX (Op.load _ _)); (refine wpl_load HH 0 rfl rfl rfl rfl rfl ?_; (try simp only [Act.put, zz]))) | ((with_reducible show zX (Op.binOp _ _ _ _ _)); (refine wpl_cmp (p := ?_) rfl rfl rfl ?_ ?_ ?_; rotate_left; (focus (go_simp; with_reducible rfl)); all_goals (intro hq; (try (fail)); (try simp only [zw] at hq); (try simp only [Act.put, zz])))) | ((with_reducible show zY (Op.load _ _)); (refine wpl_load HH 0 rfl rfl rfl (by simp only [Region.wanted, yielded, zy, Option.bind_some]; decide) rfl ?_; (try simp only [Act.put, zz]))) | ((with_reducible show zY (Op.binOp _ _ _ _ _)); (refine wpl_cmp (p := ?_) rfl rfl (by simp only [Region.wanted, yielded, zy, Option.bind_some]; decide) ?_ ?_ ?_; rotate_left; (focus (go_simp; with_reducible rfl)); all_goals (intro hq; (try (contradiction)); (try simp only [zw] at hq); (try simp only [Act.put, zz])))) | ((with_reducible show zW (Op.box _ _)); refine wpl_box HH rfl rfl rfl ?_; clear HH; intro b V HH; simp only [Act.eval, zx, Value.cells, putl, zC, zB] at HH; (try simp only [Act.put, zz])))
  all_goals (try (exfalso; (first | omega | (replace hq := eq_of_beq hq; omega))))
  go_loopw [4] (fun v wr => ∃ (p n g cap : Nat) (js : List Value), p + 1 = n ∧ n ≤ m + 2 ∧ v = .slice (some ⟨g, 0, none⟩) n cap ∧ cap - n ≤ js.length ∧ n ≤ cap ∧ cap ≤ maxLen ∧ Hp w wr ((Hp.lst HH).tail ++ [⟨g, .cells (irow (lensF wd t) n ++ js).toArray 3 (0, 0), true⟩])) (fun v _ => m + 3 - slen v)
  case atStart => exact ⟨0, 1, b, 1, [], rfl, by omega, rfl, by simp, Nat.le_refl _, by unfold maxLen; omega, by simpa [irow, lensF, Int.max_eq_right (show (0 : Int) ≤ wd by omega), Hp.lst] using HH.perm (List.Perm.swap _ _ _)⟩
  case round =>
    obtain ⟨p, n, g, cap, js, hpn, hn, rfl, hjs, hnc, hcm, HR⟩ := hrel
    dsimp only [Hp.lst, List.tail, List.cons_append, List.nil_append] at HR
    have HH := HR
    clear HR
    have HS : SlR 3 1 true (.slice (some ⟨g, 0, none⟩) n cap) n (irow (lensF wd t) n) [⟨g, .cells (irow (lensF wd t) n ++ js).toArray 3 (0, 0), true⟩] := ⟨by rw [irow_len]; omega, .inr ⟨g, cap, js, rfl, rfl, by omega, hnc, hcm⟩⟩
    have HV := fun j hj => irow_get (lensF wd t) n js j hj
    have HF := Lib.hid (lensF_bound wd t p h1 (by omega) h3)
    have w1 : wrap64 ((n : Int) - 1) = (p : Int) := by rw [IntWalk.wrap64_in _ (by omega)]; omega
    have w2 : IntKind.i64.wrap ((n : Int) - 1) = (p : Int) := by rw [IntWalk.i64_in _ (by omega)]; omega
    go_wp2_with (first | ((with_reducible show zW (Op.load 3 _)); refine wpl_load HH 1 rfl rfl rfl rfl (HV _ (by omega)) ?_; (try simp only [Act.put, zz])) | ((with_reducible show zW (Op.buildSlice 107 _ _)); refine wpl_bs107 HH rfl rfl rfl ?_; clear HH; intro b V HH; (try simp only [Act.put, zz])) | (at_builtin; (refine wpl_append1 elt107 HS HH rfl rfl rfl rfl rfl rfl (by omega) (by omega) ?_); clear HH HS; intro v r V HS HH; (try simp only [Act.put, zz])) | ((with_reducible show zX (Op.binOp _ _ _ _ _)); (refine wpl_cmp (p := ?_) rfl rfl rfl ?_ ?_ ?_; rotate_left; (focus (go_simp; with_reducible rfl)); all_goals (intro hq; (try (fail)); (try simp only [zw] at hq); (try simp only [Act.put, zz])))) | ((with_reducible show Code.wp _ (Code.region _ _ true) _ _ _); (refine wp_tail_Hp (id := 6) [0, 1, 2, 3, 4, 5, 6, 7, 8, 9] [] (by kernel_rfl) HH ?_; clear HH; (try dsimp only); (try simp only [pick, zy]); repeat' (first | ((with_reducible show wpB _ _ _ _ [] _); refine wpB_nil ?_; intro V HH; (try simp only [pick, zy]); (try simp only [Act.put, zz]); (try simp only [Value.cells] at HH)) | (((with_reducible show zU _); (first | ((with_reducible show zT (Op.move _)); refine wpB_move rfl rfl rfl ?_) | ((with_reducible show zT (Op.assign _)); refine wpB_assign rfl rfl rfl ?_) | ((with_reducible show zT (Op.indexAddr 107 _ _)); refine wpB_val rfl (fun w9 _ => run_idx107 rfl rfl rfl (by omega) w9) ?_) | ((with_reducible show zT (Op.load 3 _)); refine wpB_load 1 rfl rfl rfl rfl (HV _ (by omega)) ?_) | ((with_reducible show zT (Op.load _ _)); (refine wpB_load 0 rfl rfl rfl rfl rfl ?_)) | ((with_reducible show zT (Op.call _)); (refine wpB_val (v := ?_) rfl ?_ ?_; rotate_left; (focus (intro w9 hS9; go_simp; all_goals (with_reducible rfl))))) | (refine wpB_val (v := ?_) rfl ?_ ?_; rotate_left; (focus (intro w9 hS9; go_simp; all_goals (with_reducible rfl)))))); all_goals (try simp only [Act.put, zz, Act.eval, zx]))))))
    · have hf : 0 < lensF wd t p := by assumption
      have hp := lens_more h1 hf HM.out.2
      have hv := lens_val wd t p
      have hF := HF.out
      unfold lensF at hf
      have hFe : lensF wd t p = wd - p * t := by unfold lensF; omega
      rw [hpn] at hv
      rw [IntWalk.i64_in _ (by omega)] at hq
      have e : irow (lensF wd t) n ++ [Value.int IntKind.i64 0] = irow (lensF wd t) (n + 1) := by rw [irow_succ, show lensF wd t n = 0 by omega]
      rw [e] at HS
      rcases HS.2 with ⟨_, h0, _⟩ | ⟨g', cap', js', rfl, rfl, k1, k2, k3⟩
      · cases h0
      · exact ⟨⟨n, n + 1, g', cap', js', rfl, by omega, rfl, by omega, k2, k3, HH⟩, by simp [slen]; omega⟩
    · have hf : 0 < lensF wd t p := by assumption
      have hp := lens_more h1 hf HM.out.2
      have hv := lens_val wd t p
      have hF := HF.out
      unfold lensF at hf
      have hFe : lensF wd t p = wd - p * t := by unfold lensF; omega
      rw [hpn] at hv
      rw [IntWalk.i64_in _ (by omega)] at hq HS
      have e : irow (lensF wd t) n ++ [Value.int IntKind.i64 (lensF wd t p - t)] = irow (lensF wd t) (n + 1) := by rw [irow_succ, show lensF wd t n = lensF wd t p - t by omega]
      rw [e] at HS
      rcases HS.2 with ⟨_, h0, _⟩ | ⟨g', cap', js', rfl, rfl, k1, k2, k3⟩
      · cases h0
      · exact ⟨⟨n, n + 1, g', cap', js', rfl, by omega, rfl, by omega, k2, k3, HH⟩, by simp [slen]; omega⟩
    · have hp := lens_end h1 hq HM.out.1
      have hnm : n = m + 2 := by omega
      subst hnm
      go_ret
      exact ⟨_, _, rfl, HS, HH.drop rfl⟩

set_option maxRecDepth 100000 in
set_option maxHeartbeats 4000000 in
theorem refWidth_walk (k : Int) (w : World) : Calls Tryz.prog 61 #[.int .i64 k] w fun e w' => e = .returned (.int .i64 (if k = 1 then 32 else if k = 2 then 128 else if k = 3 then 8 else 0)) ∧ Below w.heap.size w w' := by
  have HH := Hp.nil w
  go_enter Tryz.func61, Tryz.ntmps61
  go_wp2_with ((with_reducible show zX (Op.binOp _ _ _ _ _)); (refine wpl_cmp (p := ?_) rfl rfl rfl ?_ ?_ ?_; rotate_left; (focus (go_simp; with_reducible rfl)); all_goals (intro hq; (try (fail)); (try simp only [zw] at hq); (try simp only [Act.put, zz]))))
  all_goals (go_ret; refine ⟨?_, HH.below rfl⟩; (first | rfl | (clear HH; simp_all)))

theorem SlR.full {E k n : Nat} {own : Bool} {v : Value} {xs : List Value} {r : List En} (h : SlR E k own v (n + 1) xs r) : ∃ g cap, ∃ js : List Value, v = .slice (some ⟨g, 0, none⟩) (n + 1) cap ∧ r = [⟨g, .cells (xs ++ js).toArray E (0, 0), own⟩] ∧ (cap - (n + 1)) * k ≤ js.length ∧ n + 1 ≤ cap ∧ cap ≤ maxLen := by
  rcases h.2 with ⟨_, h0, _⟩ | h
  · cases h0
  · exact h

set_option maxRecDepth 100000 in
set_option maxHeartbeats 4000000 in
theorem refRight8_0 (k s t : Int) (hl : Gives 53 #[dv k s t] (.slice none 0 0)) (w : World) : Calls Tryz.prog 52 #[dv k s t] w fun e w' => e = .returned (.bool false) ∧ Below w.heap.size w w' := by
  have HL := hl
  clear hl
  have HH := Hp.nil w
  go_enter Tryz.func52, Tryz.ntmps52
  go_wp2_with (first | (go_at_call 53; (with_reducible refine ((HL) _).mono ?_); rintro e V ⟨rfl, hb⟩; replace HH := HH.next hb; clear hb) | ((with_reducible show zX (Op.load _ _)); (refine wpl_load HH 0 rfl rfl rfl rfl rfl ?_; (try simp only [Act.put, zz]))) | ((with_reducible show zX (Op.binOp _ _ _ _ _)); (refine wpl_cmp (p := ?_) rfl rfl rfl ?_ ?_ ?_; rotate_left; (focus (go_simp; with_reducible rfl)); all_goals (intro hq; (try (contradiction)); (try simp only [zw] at hq); (try simp only [Act.put, zz])))) | ((with_reducible show zW (Op.box _ _)); refine wpl_box HH rfl rfl rfl ?_; clear HH; intro b V HH; simp only [Act.eval, zx, Value.cells, putl, zC, zB] at HH; (try simp only [Act.put, zz])))
  all_goals (go_ret; refine ⟨?_, HH.below rfl⟩; (rfl))

set_option maxRecDepth 100000 in
set_option maxHeartbeats 4000000 in
theorem refRight8_1 (k s t : Int) (N : Nat) (hN : N ≤ 300) (f : Nat → Int) (hl : GivesS 53 #[dv k s t] 3 1 (N + 1) (irow f (N + 1))) (w : World) : Calls Tryz.prog 52 #[dv k s t] w fun e w' => e = .returned (.bool true) ∧ Below w.heap.size w w' := by
  have HL := hl
  clear hl
  have HH := Hp.nil w
  go_enter Tryz.func52, Tryz.ntmps52
  go_wp2_with (first | (go_at_call 53; (with_reducible refine (HL _).mono ?_); rintro e V ⟨v, r, rfl, HS, hh⟩; replace HH := (HH.join hh HS.own).comm; clear hh; (try simp only [List.cons_append, List.nil_append] at HH); (obtain ⟨g, cap, js, rfl, rfl, k1, k2, k3⟩ := HS.full); (try simp only [Act.put, zz])) | ((with_reducible show zX (Op.load _ _)); (refine wpl_load HH 0 rfl rfl rfl rfl rfl ?_; (try simp only [Act.put, zz]))) | ((with_reducible show zX (Op.binOp _ _ _ _ _)); (refine wpl_cmp (p := ?_) rfl rfl rfl ?_ ?_ ?_; rotate_left; (focus (go_simp; with_reducible rfl)); all_goals (intro hq; (try (contradiction)); (try simp only [zw] at hq); (try simp only [Act.put, zz])))) | ((with_reducible show zW (Op.box _ _)); refine wpl_box HH rfl rfl rfl ?_; clear HH; intro b V HH; simp only [Act.eval, zx, Value.cells, putl, zC, zB] at HH; (try simp only [Act.put, zz])))
  all_goals (go_ret; refine ⟨?_, HH.below rfl⟩; (rfl))

set_option maxRecDepth 100000 in
set_option maxHeartbeats 4000000 in
theorem refLen8_0 (k s t a : Int) (hl : Gives 53 #[dv k s t] (.slice none 0 0)) (w : World) : Calls Tryz.prog 39 #[dv k s t, .int .i64 a] w fun e w' => e = .returned (.int .i64 (-1)) ∧ Below w.heap.size w w' := by
  have HL := hl
  clear hl
  have HH := Hp.nil w
  go_enter Tryz.func39, Tryz.ntmps39
  go_wp2_with (first | (go_at_call 53; (with_reducible refine ((HL) _).mono ?_); rintro e V ⟨rfl, hb⟩; replace HH := HH.next hb; clear hb) | ((with_reducible show zX (Op.load _ _)); (refine wpl_load HH 0 rfl rfl rfl rfl rfl ?_; (try simp only [Act.put, zz]))) | ((with_reducible show zX (Op.binOp _ _ _ _ _)); (refine wpl_cmp (p := ?_) rfl rfl rfl ?_ ?_ ?_; rotate_left; (focus (go_simp; with_reducible rfl)); all_goals (intro hq; (try (fail)); (try simp only [zw] at hq); (try simp only [Act.put, zz])))) | ((with_reducible show zY (Op.binOp _ _ _ _ _)); (refine wpl_cmp (p := ?_) rfl rfl (by simp only [Region.wanted, yielded, zy, Option.bind_some]; decide) ?_ ?_ ?_; rotate_left; (focus (go_simp; with_reducible rfl)); all_goals (intro hq; (try (contradiction)); (try simp only [zw] at hq); (try simp only [Act.put, zz])))) | ((with_reducible show zW (Op.box _ _)); refine wpl_box HH rfl rfl rfl ?_; clear HH; intro b V HH; simp only [Act.eval, zx, Value.cells, putl, zC, zB] at HH; (try simp only [Act.put, zz])))
  all_goals (go_ret; refine ⟨?_, HH.below rfl⟩; (rfl))

set_option maxRecDepth 100000 in
set_option maxHeartbeats 4000000 in
theorem refLen8_n (k s t a : Int) (ha : a < 0) (N : Nat) (hN : N ≤ 300) (f : Nat → Int) (hl : GivesS 53 #[dv k s t] 3 1 (N + 1) (irow f (N + 1))) (w : World) : Calls Tryz.prog 39 #[dv k s t, .int .i64 a] w fun e w' => e = .returned (.int .i64 (-1)) ∧ Below w.heap.size w w' := by
  have HL := hl
  clear hl
  have HH := Hp.nil w
  go_enter Tryz.func39, Tryz.ntmps39
  go_wp2_with (first | (go_at_call 53; (with_reducible refine (HL _).mono ?_); rintro e V ⟨v, r, rfl, HS, hh⟩; replace HH := (HH.join hh HS.own).comm; clear hh; (try simp only [List.cons_append, List.nil_append] at HH); (obtain ⟨g, cap, js, rfl, rfl, k1, k2, k3⟩ := HS.full); (try simp only [Act.put, zz])) | ((with_reducible show zX (Op.load _ _)); (refine wpl_load HH 0 rfl rfl rfl rfl rfl ?_; (try simp only [Act.put, zz]))) | ((with_reducible show zX (Op.binOp _ _ _ _ _)); (refine wpl_cmp (p := ?_) rfl rfl rfl ?_ ?_ ?_; rotate_left; (focus (go_simp; with_reducible rfl)); all_goals (intro hq; (try (contradiction)); (try simp only [zw] at hq); (try simp only [Act.put, zz])))) | ((with_reducible show zW (Op.box _ _)); refine wpl_box HH rfl rfl rfl ?_; clear HH; intro b V HH; simp only [Act.eval, zx, Value.cells, putl, zC, zB] at HH; (try simp only [Act.put, zz])))
  all_goals (go_ret; refine ⟨?_, HH.below rfl⟩; (rfl))

set_option maxRecDepth 100000 in
set_option maxHeartbeats 4000000 in
theorem refLen8_1 (k s t : Int) (j : Nat) (N : Nat) (hN : N ≤ 300) (f : Nat → Int) (hl : GivesS 53 #[dv k s t] 3 1 (N + 1) (irow f (N + 1))) (w : World) : Calls Tryz.prog 39 #[dv k s t, .int .i64 (j : Int)] w fun e w' => e = .returned (.int .i64 (if j ≤ N then f j else -1)) ∧ Below w.heap.size w w' := by
  have HL := hl
  clear hl
  have HV := fun (js : List Value) j hj => irow_get f (N + 1) js j hj
  have HH := Hp.nil w
  go_enter Tryz.func39, Tryz.ntmps39
  go_wp2_with (first | (go_at_call 53; (with_reducible refine (HL _).mono ?_); rintro e V ⟨v, r, rfl, HS, hh⟩; replace HH := (HH.join hh HS.own).comm; clear hh; (try simp only [List.cons_append, List.nil_append] at HH); (obtain ⟨g, cap, js, rfl, rfl, k1, k2, k3⟩ := HS.full); (try simp only [Act.put, zz])) | ((with_reducible show zW (Op.load 3 _)); refine wpl_load HH 1 rfl rfl rfl rfl (HV _ _ (by omega)) ?_; (try simp only [Act.put, zz])) | ((with_reducible show zX (Op.load _ _)); (refine wpl_load HH 0 rfl rfl rfl rfl rfl ?_; (try simp only [Act.put, zz]))) | ((with_reducible show zX (Op.binOp _ _ _ _ _)); (refine wpl_cmp (p := ?_) rfl rfl rfl ?_ ?_ ?_; rotate_left; (focus (go_simp; with_reducible rfl)); all_goals (intro hq; (try (contradiction)); (try simp only [zw] at hq); (try simp only [Act.put, zz])))) | ((with_reducible show zY (Op.binOp _ _ _ _ _)); (refine wpl_cmp (p := ?_) rfl rfl (by simp only [Region.wanted, yielded, zy, Option.bind_some]; decide) ?_ ?_ ?_; rotate_left; (focus (go_simp; with_reducible rfl)); all_goals (intro hq; (try (fail)); (try simp only [zw] at hq); (try simp only [Act.put, zz])))) | ((with_reducible show zW (Op.box _ _)); refine wpl_box HH rfl rfl rfl ?_; clear HH; intro b V HH; simp only [Act.eval, zx, Value.cells, putl, zC, zB] at HH; (try simp only [Act.put, zz])))
  all_goals (go_ret; refine ⟨?_, HH.below rfl⟩; (rfl))

theorem refWidth_gives (k : Int) : Gives 61 #[.int .i64 k] (.int .i64 (widthI k)) := fun w => refWidth_walk k w
theorem refLens_bad (k s t : Int) (h : dimR k s t = false) : Gives 53 #[dv k s t] (.slice none 0 0) := fun w =>
  refLens0 k s t _ (refWidth_gives k) (fun ⟨h0, h1, h2, h3⟩ => by
    have : dimR k s t = true := by
      unfold dimR
      rcases h1 with rfl | rfl <;> simp [h2, h3]
    rw [this] at h
    cases h) w
theorem depth_cut {wd t : Int} (h1 : 1 ≤ t) (h2 : t ≤ wd) : ∃ m : Nat, (m : Int) + 1 = (wd + t - 1) / t ∧ (m : Int) * t < wd ∧ wd ≤ (m + 1 : Int) * t := by
  have e : (wd + t - 1) / t = (wd - 1) / t + 1 := by
    rw [show wd + t - 1 = (wd - 1) + 1 * t by omega]
    exact Int.add_mul_ediv_right _ _ (by omega)
  have d0 : 0 ≤ (wd - 1) / t := Int.ediv_nonneg (by omega) (by omega)
  have d1 := Int.ediv_mul_le (wd - 1) (show t ≠ 0 by omega)
  have d2 := Int.lt_ediv_add_one_mul_self (wd - 1) (show 0 < t by omega)
  have c : (((wd - 1) / t).toNat : Int) = (wd - 1) / t := by omega
  refine ⟨((wd - 1) / t).toNat, by rw [e]; omega, by rw [c]; omega, by rw [c]; omega⟩
theorem refLens_good (k s t : Int) (h : dimR k s t = true) : ∃ N : Nat, N ≤ 128 ∧ (N : Int) = depthI k s t ∧ GivesS 53 #[dv k s t] 3 1 (N + 1) (irow (lensF (widthI k) t) (N + 1)) := by
  have h' := h
  unfold dimR at h'
  simp at h'
  obtain ⟨⟨hs, h1⟩, h2⟩ := h'
  obtain ⟨m, e, m1, m2⟩ := depth_cut h1 h2
  have hw := widthI_le k
  have hm := Int.mul_le_mul_of_nonneg_left h1 (Int.natCast_nonneg m)
  refine ⟨m + 1, by omega, by unfold depthI; rw [if_pos h]; omega, ?_⟩
  rcases hs with rfl | rfl
  · exact fun w => refLens_1 k t _ (refWidth_gives k) h1 h2 hw.2 m m1 m2 w
  · exact fun w => refLens_2 k t _ (refWidth_gives k) h1 h2 hw.2 m m1 m2 w
theorem refRight8_gives (k s t : Int) : Gives 52 #[dv k s t] (.bool (dimR k s t)) := fun w => by
  cases h : dimR k s t with
  | false => exact refRight8_0 k s t (refLens_bad k s t h) w
  | true =>
    obtain ⟨N, hN, _, hl⟩ := refLens_good k s t h
    exact refRight8_1 k s t N (by omega) _ hl w
theorem refLen8_gives (k s t a : Int) : Gives 39 #[dv k s t, .int .i64 a] (.int .i64 (lenI k s t a)) := fun w => by
  unfold lenI
  cases h : dimR k s t with
  | false =>
    rw [if_pos (.inl rfl)]
    exact refLen8_0 k s t a (refLens_bad k s t h) w
  | true =>
    obtain ⟨N, hN, hd, hl⟩ := refLens_good k s t h
    by_cases ha : a < 0
    · rw [if_pos (.inr (.inl ha))]
      exact refLen8_n k s t a ha N (by omega) _ hl w
    · obtain ⟨j, rfl⟩ : ∃ j : Nat, a = j := ⟨a.toNat, by omega⟩
      have r := refLen8_1 k s t j N (by omega) _ hl w
      by_cases hj : j ≤ N
      · rw [if_neg (by simp <;> omega)]
        rw [if_pos hj] at r
        exact r
      · rw [if_pos (.inr (.inr (by omega)))]
        rw [if_neg hj] at r
        exact r

end Go.Proofs.YtcbahkfbdlhabaaGreatDoor
namespace Go.Proofs.YtcbahkfbdlhabaaGreatDoor
set_option linter.unusedVariables false
set_option linter.unusedSimpArgs false
open Go.RowKit
attribute [local go_sem] index24_0 index24_1 field34_0 field34_1
attribute [local irreducible] wpList Code.wp wpB

/-- A letter, a digit or '_'. -/
def byteB (c : Int) : Bool := (decide (97 ≤ c) && decide (c ≤ 122)) || ((decide (48 ≤ c) && decide (c ≤ 57)) || c == 95)
/-- Byte k of a string. -/
def gb (s : ByteArray) (k : Nat) : Nat := if h : k < s.size then s[k].toNat else 0
theorem gb_eq (s : ByteArray) (k : Nat) (h : k < s.size) : s[k].toNat = gb s k := by rw [gb, dif_pos h]

set_option maxRecDepth 100000 in
set_option maxHeartbeats 4000000 in
theorem isByte_walk (c : Int) (w : World) : Calls Tryz.prog 76 #[.int .u8 c] w fun e w' => e = .returned (.bool (byteB c)) ∧ Below w.heap.size w w' := by
  unfold byteB
  have HH := Hp.nil w
  go_enter Tryz.func76, Tryz.ntmps76
  go_wp2_with (first | ((with_reducible show zX (Op.binOp _ _ _ _ _)); (refine wpl_cmp (p := ?_) rfl rfl rfl ?_ ?_ ?_; rotate_left; (focus (go_simp; with_reducible rfl)); all_goals (intro hq; (try (fail)); (try simp only [zw] at hq); (try simp only [Act.put, zz])))) | ((with_reducible show zY (Op.binOp _ _ _ _ _)); (refine wpl_cmp (p := ?_) rfl rfl (by simp only [Region.wanted, yielded, zy, Option.bind_some]; decide) ?_ ?_ ?_; rotate_left; (focus (go_simp; with_reducible rfl)); all_goals (intro hq; (try (fail)); (try simp only [zw] at hq); (try simp only [Act.put, zz])))))
  all_goals (go_ret; refine ⟨?_, HH.below rfl⟩; (clear HH; simp_all <;> omega))

set_option maxRecDepth 100000 in
set_option maxHeartbeats 4000000 in
theorem refIsLabel_walk (p : ByteArray) (r : Bool) (hp : p.size < 2 ^ 62) (hf : ∀ k, k < p.size → byteB (gb p k : Int) = false → r = false) (ht : (∀ k, k < p.size → byteB (gb p k : Int) = true) → r = (decide (0 < p.size) && decide (p.size < 17))) (w : World) : Calls Tryz.prog 73 #[.string p] w fun e w' => e = .returned (.bool r) ∧ Below w.heap.size w w' := by
  have HF := Lib.hid hf
  have HT := Lib.hid ht
  clear hf ht
  have HH := Hp.nil w
  go_enter Tryz.func73, Tryz.ntmps73
  go_wp2_with (fail)
  go_loopw [3] (fun i wr => ∃ k : Nat, k ≤ p.size ∧ i = .int .i64 k ∧ (∀ j, j < k → byteB (gb p j : Int) = true) ∧ Hp w wr (Hp.lst HH)) (fun i _ => (p.size - (intOf i).toNat))
  case atStart => exact ⟨0, by omega, rfl, by omega, HH⟩
  case round =>
    obtain ⟨k, hk, rfl, hb, HR⟩ := hrel
    dsimp only [Hp.lst] at HR
    have HH := HR
    clear HR
    go_wp2_with (first | ((with_reducible show zX (Op.binOp _ _ _ _ _)); (refine wpl_cmp (p := ?_) rfl rfl rfl ?_ ?_ ?_; rotate_left; (focus (go_simp; with_reducible rfl)); all_goals (intro hq; (try (fail)); (try simp only [zw] at hq); (try simp only [Act.put, zz])))) | ((with_reducible show zY (Op.binOp _ _ _ _ _)); (refine wpl_cmp (p := ?_) rfl rfl (by simp only [Region.wanted, yielded, zy, Option.bind_some]; decide) ?_ ?_ ?_; rotate_left; (focus (go_simp; with_reducible rfl)); all_goals (intro hq; (try (fail)); (try simp only [zw] at hq); (try simp only [Act.put, zz])))))
    all_goals (try (first | replace hq := eq_of_beq hq | replace hq := ne_of_beq_false hq))
    all_goals (first
      | (have hlt : k < p.size := by omega
         have hbk : byteB (gb p k : Int) = true := by
           rw [← gb_eq p k hlt]
           unfold byteB
           simp only [Bool.or_eq_true, Bool.and_eq_true, decide_eq_true_eq, beq_iff_eq]
           omega
         exact ⟨⟨k + 1, by omega, by simp, fun j hj => by
           rcases Nat.lt_or_ge j k with h' | h'
           · exact hb j h'
           · rw [show j = k by omega]
             exact hbk, HH⟩, by simp [intOf]; omega⟩)
      | (have hlt : k < p.size := by omega
         have hbk : byteB (gb p k : Int) = false := by
           rw [← gb_eq p k hlt]
           unfold byteB
           simp only [Bool.or_eq_false_iff, Bool.and_eq_false_iff, decide_eq_false_iff_not, beq_eq_false_iff_ne]
           omega
         have hr := HF.out k hlt hbk
         subst hr
         go_ret
         exact ⟨rfl, HH.below rfl⟩)
      | (have hr := HT.out (fun j hj => hb j (by omega))
         subst hr
         go_ret
         refine ⟨?_, HH.below rfl⟩
         simp
         omega))

end Go.Proofs.YtcbahkfbdlhabaaGreatDoor
namespace Go.Proofs.YtcbahkfbdlhabaaGreatDoor
set_option linter.unusedVariables false
set_option linter.unusedSimpArgs false
open Go.RowKit
attribute [local go_sem] index24_0 index24_1 field34_0 field34_1
attribute [local irreducible] wpList Code.wp wpB

instance : Shp 5 false 1 := ⟨fun _ => by kernel_rfl, by kernel_rfl⟩
theorem run_conv134 (w : World) (s : ByteArray) : (convert 9 134 (.string s)).run Tryz.prog w = .ok (.slice (some ⟨w.heap.size, 0, none⟩) s.size (grownCap w s.size 0 5)) (Lib.bytesWorld w 5 s) :=
  Lib.run_convert_string_bytes w 9 134 5 s (u := (Tryz.prog.underlying 9).get (by kernel_rfl)) (by simp) (by kernel_rfl) (by kernel_rfl)
theorem Hp.bytes {w0 W : World} {l : List En} (h : Hp w0 W l) (s : ByteArray) : Hp w0 (Lib.bytesWorld W 5 s) (⟨W.heap.size, .cells (Lib.bytesCells W 5 s) 5 ((Lib.bytesCells W 5 s).size, (Lib.bytesCells W 5 s).size + 1), true⟩ :: l) := by
  have hb : Below W.heap.size W (Lib.bytesWorld W 5 s) := ⟨rfl, rfl, rfl, by rw [Lib.bytesWorld_size]; omega, fun j hj => Lib.bytesWorld_at_old W 5 s j hj⟩
  have h2 := h.next hb
  refine ⟨⟨Lib.bytesWorld_at_new W 5 s, h2.lies⟩, ?_, ?_, h2.os, h2.tape, h2.output, h2.size, fun k hk hn => h2.rest k hk fun e he => hn e (by simp [he])⟩
  · rw [List.map_cons, List.nodup_cons]
    refine ⟨fun hm => ?_, h.nodup⟩
    obtain ⟨e, he, hb⟩ := List.mem_map.1 hm
    have := h.lt e he
    simp only at hb
    omega
  · intro e he ht
    rcases List.mem_cons.1 he with rfl | he
    · exact h.size
    · exact h.own e he ht
theorem bytesCells_get (w : World) (s : ByteArray) (k : Nat) (hk : k < s.size) : (Lib.bytesCells w 5 s)[k]? = some (.int .u8 (gb s k : Int)) := by
  have h := Lib.bytesWorld_cell w 5 s k hk
  rw [cell_of_row _ _ _ _ _ _ (Lib.bytesWorld_at_new w 5 s)] at h
  rw [h, gb, dif_pos hk]
  have h : k < s.data.toList.length := by simpa using hk
  rw [List.getD_eq_getElem?_getD, List.getElem?_eq_getElem h, zL, Array.getElem_toList]
  rfl
section conv
variable {ops : Array Oper} {rest : List Oper} {o : Oper} {a : Act} {Q : Exit → Act → World → Prop} {w0 W : World} {l : List En} {x : Operand} {s : ByteArray}
theorem wpl_conv134 (HH : Hp w0 W l) (hop : o.op = .convert 9 134 x) (hw : Region.wanted o (yielded ops a.tmps) = true) (hx : a.eval x = .string s)
    (h : ∀ (b cap : Nat) (c : Array Value) (V : World), (∀ k, k < s.size → c[k]? = some (.int .u8 (gb s k : Int))) → Hp w0 V (⟨b, .cells c 5 (c.size, c.size + 1), true⟩ :: l) → wpList Tryz.prog ops Q rest (a.put o.dst (.slice (some ⟨b, 0, none⟩) s.size cap)) V) : wpList Tryz.prog ops Q (o :: rest) a W :=
  wpList_on hw fun K hK => by
    unfold Oper.wp execOp
    simp only [hop, hx, Sem.run_bind, Sem.run_pure, run_conv134, Result.andThen_ok]
    exact hK _ _ (h _ _ _ _ (bytesCells_get W s) (HH.bytes s))
theorem wpl_load5 (i : Nat) (HH : Hp w0 W l) {b k : Nat} {c : Array Value} {m : Nat × Nat} {own : Bool} {v : Value} (hop : o.op = .load 5 x) (hx : a.eval x = .pointer (some ⟨b, k, none⟩)) (he : l[i]? = some ⟨b, .cells c 5 m, own⟩) (hw : Region.wanted o (yielded ops a.tmps) = true) (hv : c[k]? = some v)
    (h : wpList Tryz.prog ops Q rest (a.put o.dst v) W) : wpList Tryz.prog ops Q (o :: rest) a W :=
  wpList_on hw fun K hK => by
    have hs : Shp 5 false 1 := inferInstance
    have hc : W.cell? ⟨b, k, none⟩ = some v := by rw [cell_of_row W b _ _ _ _ (HH.get i he)]; exact hv
    have hr : (Instr.loadAt 5 (.pointer (some ⟨b, k, none⟩))).run Tryz.prog W = .ok v W := by
      simp [Instr.loadAt, Instr.sureAddr, loadVar, Sem.run_bind, hs.agg W, hc]
    unfold Oper.wp execOp
    simp only [hop, hx, Sem.run_bind, Sem.run_pure, Result.andThen_ok, hr]
    exact hK _ _ h
end conv
theorem isByte_gives (c : Int) : Gives 76 #[.int .u8 c] (.bool (byteB c)) := fun w => isByte_walk c w

set_option maxRecDepth 100000 in
set_option maxHeartbeats 4000000 in
theorem isLabel_walk (p : ByteArray) (r : Bool) (hp : p.size < 2 ^ 62) (hf : ∀ k, k < p.size → byteB (gb p k : Int) = false → r = false) (ht : (∀ k, k < p.size → byteB (gb p k : Int) = true) → r = (decide (0 < p.size) && decide (p.size < 17))) (w : World) : Calls Tryz.prog 71 #[.string p] w fun e w' => e = .returned (.bool r) ∧ Below w.heap.size w w' := by
  have HF := Lib.hid hf
  have HT := Lib.hid ht
  clear hf ht
  have HH := Hp.nil w
  go_enter Tryz.func71, Tryz.ntmps71
  go_wp2_with ((with_reducible show zW (Op.convert 9 134 _)); refine wpl_conv134 HH rfl rfl rfl ?_; clear HH; intro b cap c V HC HH; (try simp only [Act.put, zz]))
  go_loopw [8] (fun i wr => ∃ k : Nat, k ≤ p.size ∧ i = .int .i64 k ∧ (∀ j, j < k → byteB (gb p j : Int) = true) ∧ Hp w wr (Hp.lst HH)) (fun i _ => (p.size - (intOf i).toNat))
  case atStart => exact ⟨0, by omega, rfl, by omega, HH⟩
  case round =>
    obtain ⟨k, hk, rfl, hb, HR⟩ := hrel
    dsimp only [Hp.lst] at HR
    have HH := HR
    clear HR
    go_wp2_with (first | ((with_reducible show zW (Op.load 5 _)); refine wpl_load5 0 HH rfl rfl rfl rfl (HC _ (by omega)) ?_; (try simp only [Act.put, zz])) | (go_at_call 76; (with_reducible refine ((isByte_gives _) _).mono ?_); rintro e V ⟨rfl, hb⟩; replace HH := HH.next hb; clear hb) | ((with_reducible show zX (Op.binOp _ _ _ _ _)); (refine wpl_cmp (p := ?_) rfl rfl rfl ?_ ?_ ?_; rotate_left; (focus (go_simp; with_reducible rfl)); all_goals (intro hq; (try (fail)); (try simp only [zw] at hq); (try simp only [Act.put, zz])))) | ((with_reducible show zY (Op.binOp _ _ _ _ _)); (refine wpl_cmp (p := ?_) rfl rfl (by simp only [Region.wanted, yielded, zy, Option.bind_some]; decide) ?_ ?_ ?_; rotate_left; (focus (go_simp; with_reducible rfl)); all_goals (intro hq; (try (fail)); (try simp only [zw] at hq); (try simp only [Act.put, zz])))))
    all_goals (first
      | (have h9 : (!byteB (gb p k : Int)) = false := by assumption
         have hbk : byteB (gb p k : Int) = true := by simpa using h9
         exact ⟨⟨k + 1, by omega, by simp, fun j hj => by
           rcases Nat.lt_or_ge j k with h' | h'
           · exact hb j h'
           · rw [show j = k by omega]
             exact hbk, HH⟩, by simp [intOf]; omega⟩)
      | (have h9 : (!byteB (gb p k : Int)) = true := by assumption
         have hbk : byteB (gb p k : Int) = false := by simpa using h9
         have hr := HF.out k (by omega) hbk
         subst hr
         go_ret
         exact ⟨rfl, HH.below rfl⟩)
      | (have hr := HT.out (fun j hj => hb j (by omega))
         subst hr
         go_ret
         refine ⟨?_, HH.below rfl⟩
         simp
         omega))

/-- A label. -/
def labB (p : ByteArray) : Bool := decide (∀ k, k < p.size → byteB (gb p k : Int) = true) && (decide (0 < p.size) && decide (p.size < 17))
theorem labB_facts (p : ByteArray) : (∀ k, k < p.size → byteB (gb p k : Int) = false → labB p = false) ∧ ((∀ k, k < p.size → byteB (gb p k : Int) = true) → labB p = (decide (0 < p.size) && decide (p.size < 17))) := by
  constructor
  · intro k hk hb
    unfold labB
    rw [decide_eq_false (fun h => by rw [h k hk] at hb; cases hb)]
    rfl
  · intro h
    unfold labB
    rw [decide_eq_true h]
    rfl
theorem isLabel_gives (p : ByteArray) (hp : p.size < 2 ^ 62) : Gives 71 #[.string p] (.bool (labB p)) := fun w => isLabel_walk p _ hp (labB_facts p).1 (labB_facts p).2 w
theorem refIsLabel_gives (p : ByteArray) (hp : p.size < 2 ^ 62) : Gives 73 #[.string p] (.bool (labB p)) := fun w => refIsLabel_walk p _ hp (labB_facts p).1 (labB_facts p).2 w

end Go.Proofs.YtcbahkfbdlhabaaGreatDoor
