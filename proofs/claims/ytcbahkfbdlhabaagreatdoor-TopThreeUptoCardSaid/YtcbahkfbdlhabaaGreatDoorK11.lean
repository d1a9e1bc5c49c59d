/- A part of the proof that the law TopThree returns true for all arguments of bulk at most 1048576 (no other condition). Here: grid.Walk: the iterator. Operations that write, floating among those that only read. Writing operations that float, with one more beside them in whatever order. Writing operations in their order, before each some that only read, with one more beside all of them; a reader's contract as one on what it leaves. -/
import Derived.Test.YtcbahkfbdlhabaaGreatDoorK07
import Derived.Test.YtcbahkfbdlhabaaGreatDoorK04
namespace Go.Proofs.YtcbahkfbdlhabaaGreatDoor
set_option linter.unusedVariables false
set_option linter.unusedSimpArgs false
open Go.RowKit
attribute [local go_sem] Oper.semAt_some
theorem wide_fn (f : FuncId) : Fence.wide.fn f = True := rfl
theorem wide_depth : Fence.wide.depth = none := rfl
attribute [local go_sem] wide_fn wide_depth Fence.inRound_fn Fence.inRound_depth
attribute [local go_sem] index24_0 index24_1 field34_0 field34_1

theorem below_grow {W V : World} (h : Below W.heap.size W V) : W.grownBy V none := ⟨h.os, h.tape, h.output, h.size, fun k hk _ => h.block k hk⟩
section
variable {r : Option Nat} {n : Nat} {ops : Array Oper} {rest : List Oper} {o : Oper} {a : Act} {Q : Exit → Act → World → Prop} {W : World} {x : Operand} {T t k b off : Nat} {agg : Bool} {c : List Value} {v : Value}
theorem wpListIn_load (hr : W.heap[b]? = some (.cells c.toArray t (0, 0))) (hop : o.op = .load T x) (hx : a.eval x = .pointer (some ⟨b, off, none⟩)) (hw : Region.wanted o (yielded ops a.tmps) = true) [hs : Shp T agg k] (hv : rdv agg k c off = some v)
    (h : wpListIn (wideAt r) n Tryz.prog ops Q rest (a.put o.dst v) W) : wpListIn (wideAt r) n Tryz.prog ops Q (o :: rest) a W := by
  unfold wpListIn
  rw [if_pos hw]
  refine wpIn_of_wp (next := wpListIn (wideAt r) n Tryz.prog ops Q rest) ?_ (fun _ _ h => h) ?_
  · obtain ⟨d, op, ty, pos, af, g⟩ := o
    simp only at hop
    subst hop
    rfl
  · have hl := run_load_en hs hr hv
    unfold Oper.wp execOp
    simp only [hop, hx, Sem.run_bind, Sem.run_pure, Result.andThen_ok, hl]
    exact h
theorem wpListIn_load0 (hr : W.heap[b]? = some (.cells c.toArray t (0, 0))) (hop : o.op = .load T x) (hx : a.eval x = .pointer (some ⟨b, off, none⟩)) (hw : Region.wanted o (yielded ops a.tmps) = true) [hs : Shp T agg k] (hv : rdv agg k c off = some v)
    (h : wpListIn Fence.wide n Tryz.prog ops Q rest (a.put o.dst v) W) : wpListIn Fence.wide n Tryz.prog ops Q (o :: rest) a W := wpListIn_load (r := none) hr hop hx hw hv h
theorem wpListIn_loadR {l : Nat} (hr : W.heap[b]? = some (.cells c.toArray t (0, 0))) (hop : o.op = .load T x) (hx : a.eval x = .pointer (some ⟨b, off, none⟩)) (hw : Region.wanted o (yielded ops a.tmps) = true) [hs : Shp T agg k] (hv : rdv agg k c off = some v)
    (h : wpListIn (Fence.wide.inRound l) n Tryz.prog ops Q rest (a.put o.dst v) W) : wpListIn (Fence.wide.inRound l) n Tryz.prog ops Q (o :: rest) a W := wpListIn_load (r := some l) hr hop hx hw hv h
end
/-! the nodes, in order -/
def cntH (e0 e1 : Int) (h : Nat) : Nat := (spanT e0 h - spanF e1 h + 1).toNat
def wOn (e1 : Int) (p0 h k : Nat) : List (Int × Int × Int) := (List.range k).map fun t => (((p0 + t : Nat) : Int), spanF e1 h + (t : Int), (h : Int) - (spanF e1 h + (t : Int)))
def wUp (e0 e1 : Int) : Nat → List (Int × Int × Int)
  | 0 => []
  | h + 1 => wUp e0 e1 h ++ wOn e1 (wUp e0 e1 h).length h (cntH e0 e1 h)
theorem wOn_succ (e1 : Int) (p0 h k : Nat) : wOn e1 p0 h (k + 1) = wOn e1 p0 h k ++ [(((p0 + k : Nat) : Int), spanF e1 h + (k : Int), (h : Int) - (spanF e1 h + (k : Int)))] := by
  unfold wOn
  rw [List.range_succ, List.map_append]
  rfl
theorem wOn_len (e1 : Int) (p0 h k : Nat) : (wOn e1 p0 h k).length = k := by simp [wOn]
theorem cntH_le {e0 e1 : Int} (c0 : e0 ≤ 128) (h : Nat) : cntH e0 e1 h ≤ 129 := by
  unfold cntH spanT spanF
  omega
theorem wUp_le {e0 e1 : Int} (c0 : e0 ≤ 128) : ∀ h : Nat, (wUp e0 e1 h).length ≤ 129 * h
  | 0 => by simp [wUp]
  | h + 1 => by
    have := wUp_le c0 (e1 := e1) h
    have := cntH_le (e1 := e1) c0 h
    rw [wUp, List.length_append, wOn_len]
    omega
/-- A node's levels. -/
def BX (e0 e1 : Int) (x : Int × Int × Int) : Prop := 0 ≤ x.2.1 ∧ x.2.1 ≤ e0 ∧ 0 ≤ x.2.2 ∧ x.2.2 ≤ e1
abbrev encW (x : Int × Int × Int) : Array Value := #[.int .i64 x.1, .agg #[.int .i64 x.2.1, .int .i64 x.2.2]]
set_option maxRecDepth 100000 in
set_option maxHeartbeats 4000000 in
theorem walk1_in (s : Sp) (e0 e1 : Int) (b0 : 0 ≤ e0) (b1 : 0 ≤ e1) (c0 : e0 ≤ 128) (c1 : e1 ≤ 128) (hs : Gives 23 #[s.v] (.bool true)) (ht : Gives 142 #[s.v] (.int .i64 (e0 + e1)))
    (hsp : ∀ h : Nat, h ≤ 256 → Gives 179 #[s.v, .int .i64 (h : Int)] (.tuple #[.int .i64 (spanF e1 h), .int .i64 (spanT e0 h)])) (n l bs : Nat) (J Jx : List (Int × Int × Int) → World → Prop)
    (hJ : ∀ pre A B, J pre A → A.grownBy B none → J pre B)
    (hY : ∀ pre x W, BX e0 e1 x → J pre W → pre.length < 100000 → YieldAt Fence.wide (n - 1) Tryz.prog l (encW x) W fun e W' =>
      (e = .returned (.bool true) ∧ J (pre ++ [x]) W' ∧ W'.heap[bs]? = W.heap[bs]?) ∨ (e = .returned (.bool false) ∧ Jx (pre ++ [x]) W'))
    (W : World) (hbox : W.heap[bs]? = some (.cells #[.int .i64 s.n, .int .i64 s.d0.k, .int .i64 s.d0.s, .int .i64 s.d0.t, .int .i64 s.d1.k, .int .i64 s.d1.s, .int .i64 s.d1.t] 26 (0, 0))) (h0 : J [] W) :
    CallsIn Fence.wide n Tryz.prog 178 #[.func (.yield l) #[] #[], .pointer (some ⟨bs, 0, none⟩)] W fun e W' => (∃ v, e = .returned v) ∧
      ((∃ ys, ys = wUp e0 e1 ((e0 + e1).toNat + 1) ∧ J ys W') ∨ (∃ pre, True ∧ Jx pre W')) := by
  refine callsIn_of_wp Tryz.func178 rfl trivial ?_ rfl
  simp only [Tryz.ntmps178, List.size_toArray, List.length_cons, List.length_nil, Nat.reduceAdd, Nat.reduceSub, Array.replicate_succ, Array.replicate_zero, List.push_toArray, List.append_toArray, List.nil_append, List.cons_append]
  have w1 : wrap64 (e0 + e1 + 1) = e0 + e1 + 1 := IntWalk.wrap64_in _ (by omega)
  have w2 : IntKind.i64.wrap (e0 + e1 + 1) = e0 + e1 + 1 := IntWalk.i64_in _ (by omega)
  gi_wp2_with (first | ((with_reducible show wpListIn _ _ _ _ _ (Oper.mk _ (Op.load 26 _) _ _ _ _ :: _) _ _); refine wpListIn_load0 hbox rfl rfl rfl rfl ?_) | (gi_at_call 23; refine (callsIn_wide.2 (hs _)).mono ?_; rintro e V ⟨rfl, hb⟩; replace h0 := hJ _ _ _ h0 (below_grow hb); replace hbox := (hb.block bs (Array.getElem?_eq_some_iff.1 hbox).1).trans hbox; clear hb) | (gi_at_call 142; refine (callsIn_wide.2 (ht _)).mono ?_; rintro e V ⟨rfl, hb⟩; replace h0 := hJ _ _ _ h0 (below_grow hb); replace hbox := (hb.block bs (Array.getElem?_eq_some_iff.1 hbox).1).trans hbox; clear hb))
  gi_loopw [3, 14] (fun p i wr => ∃ h : Nat, (h : Int) ≤ e0 + e1 + 1 ∧ i = .int .i64 h ∧ p = .int .i64 ((wUp e0 e1 h).length : Int) ∧ J (wUp e0 e1 h) wr ∧ wr.heap[bs]? = some (.cells #[.int .i64 s.n, .int .i64 s.d0.k, .int .i64 s.d0.s, .int .i64 s.d0.t, .int .i64 s.d1.k, .int .i64 s.d1.s, .int .i64 s.d1.t] 26 (0, 0))) (fun _ i _ => (e0 + e1 + 1 - intOf i).toNat)
  case atStart => exact ⟨0, by omega, rfl, rfl, h0, hbox⟩
  case round =>
    obtain ⟨h, hh, rfl, rfl, hj, hbox⟩ := hrel
    have hlen := wUp_le c0 (e1 := e1) h
    have hcnt := cntH_le (e1 := e1) c0 h
    by_cases hlt : (h : Int) < e0 + e1 + 1
    · have hsp' := hsp h (by omega)
      gi_wp2_with (first | ((with_reducible show wpListIn _ _ _ _ _ (Oper.mk _ (Op.load 26 _) _ _ _ _ :: _) _ _); refine wpListIn_load0 hbox rfl rfl rfl rfl ?_) | (gi_at_call 179; refine (callsIn_wide.2 (hsp' _)).mono ?_; rintro e V ⟨rfl, hb⟩; replace hj := hJ _ _ _ hj (below_grow hb); replace hbox := (hb.block bs (Array.getElem?_eq_some_iff.1 hbox).1).trans hbox; clear hb))
      have hsz : (cntH e0 e1 h : Int) = spanT e0 h - spanF e1 h + 1 := by unfold cntH spanT spanF; omega
      have hF : 0 ≤ spanF e1 h ∧ spanF e1 h ≤ 256 := by unfold spanF; omega
      have hT : spanT e0 h ≤ 256 := by unfold spanT; omega
      have hh0 : (h : Int) ≤ 256 := by omega
      gi_loopw [3, 7] (fun p i wr => ∃ (k : Nat) (P I : Int), k ≤ cntH e0 e1 h ∧ I = spanF e1 h + k ∧ P = (((wUp e0 e1 h).length + k : Nat) : Int) ∧ i = .int .i64 I ∧ p = .int .i64 P ∧ J (wUp e0 e1 h ++ wOn e1 (wUp e0 e1 h).length h k) wr ∧ wr.heap[bs]? = some (.cells #[.int .i64 s.n, .int .i64 s.d0.k, .int .i64 s.d0.s, .int .i64 s.d0.t, .int .i64 s.d1.k, .int .i64 s.d1.s, .int .i64 s.d1.t] 26 (0, 0))) (fun _ i _ => (spanT e0 h + 1 - intOf i).toNat)
      case atStart => exact ⟨0, _, _, by omega, rfl, rfl, by simp, by simp, by simpa [wOn] using hj, hbox⟩
      case round =>
        obtain ⟨k, P, I, hk, hI, hP, rfl, rfl, hj, hbox⟩ := hrel
        have HI := Lib.hid (And.intro hI hP)
        have hIP : 0 ≤ I ∧ I ≤ 400 ∧ 0 ≤ P ∧ P ≤ 100000 ∧ (k < cntH e0 e1 h → I ≤ spanT e0 h) ∧ (¬ k < cntH e0 e1 h → spanT e0 h < I) := by
          refine ⟨by omega, by omega, by omega, by omega, by omega, by omega⟩
        clear hI hP
        have w3 : wrap64 ((h : Int) - I) = (h : Int) - I := IntWalk.wrap64_in _ (by omega)
        have w4 : IntKind.i64.wrap ((h : Int) - I) = (h : Int) - I := IntWalk.i64_in _ (by omega)
        have w5 : wrap64 (I + 1) = I + 1 := IntWalk.wrap64_in _ (by omega)
        have w6 : IntKind.i64.wrap (I + 1) = I + 1 := IntWalk.i64_in _ (by omega)
        have w7 : wrap64 (P + 1) = P + 1 := IntWalk.wrap64_in _ (by omega)
        have w8 : IntKind.i64.wrap (P + 1) = P + 1 := IntWalk.i64_in _ (by omega)
        by_cases hlk : k < cntH e0 e1 h
        · have hle : I ≤ spanT e0 h := hIP.2.2.2.2.1 hlk
          have hbx0 : BX e0 e1 (P, I, (h : Int) - I) := by
            have h1 := HI.out.1
            have h2 : spanF e1 h = max 0 ((h : Int) - e1) := rfl
            have h3 : spanT e0 h = min (h : Int) e0 := rfl
            exact ⟨by show 0 ≤ I; omega, by show I ≤ e0; omega, by show 0 ≤ (h : Int) - I; omega, by show (h : Int) - I ≤ e1; omega⟩
          obtain ⟨fn, tmps, assign, body, hy, hR⟩ := hY _ (P, I, (h : Int) - I) wr hbx0 hj (by rw [List.length_append, wOn_len]; omega)
          dsimp only [encW] at hy
          have hbx := Lib.hid hbox
          clear hbox
          gi_wp2
          refine hR.mono ?_
          rintro e W3 (⟨rfl, hJ3, hk3⟩ | ⟨rfl, hJx3⟩)
          · gi_wp2
            go_roundw
            case rel =>
              refine ⟨k + 1, P + 1, I + 1, by omega, by rw [HI.out.1]; push_cast; omega, by rw [HI.out.2]; push_cast; omega, rfl, rfl, ?_, hk3.trans hbx.out⟩
              rw [wOn_succ, ← List.append_assoc, ← HI.out.1, ← HI.out.2]
              exact hJ3
            case measure => simp [intOf]; omega
          · gi_wp2
            refine bodyPost_ret (results_none rfl _ _ _) rfl ?_
            exact ⟨⟨_, rfl⟩, .inr ⟨_, trivial, hJx3⟩⟩
        · have hkc : k = cntH e0 e1 h := by omega
          have hle : ¬ I ≤ spanT e0 h := by have := hIP.2.2.2.2.2 hlk; omega
          gi_wp2
          subst hkc
          refine ⟨⟨h + 1, by push_cast; omega, by simp, ?_, hj, hbox⟩, by simp [intOf]; omega⟩
          rw [HI.out.2, wUp, List.length_append, wOn_len]
    · gi_wp2
      go_end0
      have e : h = (e0 + e1).toNat + 1 := by omega
      exact ⟨⟨_, rfl⟩, .inl (by rw [← e]; exact hj)⟩
/-- What the loop over Walk must keep: the box that the iterator reads. -/
def KpB (bs : Nat) (A B : World) : Prop := B.heap[bs]? = A.heap[bs]?
abbrev AX (e0 e1 : Int) := { x : Int × Int × Int // BX e0 e1 x }
theorem walk_stops (s : Sp) (e0 e1 : Int) (b0 : 0 ≤ e0) (b1 : 0 ≤ e1) (c0 : e0 ≤ 128) (c1 : e1 ≤ 128) (hs : Gives 23 #[s.v] (.bool true)) (ht : Gives 142 #[s.v] (.int .i64 (e0 + e1)))
    (hsp : ∀ h : Nat, h ≤ 256 → Gives 179 #[s.v, .int .i64 (h : Int)] (.tuple #[.int .i64 (spanF e1 h), .int .i64 (spanT e0 h)])) (n bs : Nat) (w : World) (hbs : bs < w.heap.size)
    (hbox : w.heap[bs]? = some (.cells #[.int .i64 s.n, .int .i64 s.d0.k, .int .i64 s.d0.s, .int .i64 s.d0.t, .int .i64 s.d1.k, .int .i64 s.d1.s, .int .i64 s.d1.t] 26 (0, 0))) :
    SeqStopsK Fence.wide n Tryz.prog 178 #[.pointer (some ⟨bs, 0, none⟩)] (fun x : AX e0 e1 => encW x.1) (KpB bs) (fun xs => xs.map Subtype.val = wUp e0 e1 ((e0 + e1).toNat + 1)) (fun _ => True) 100000 w := fun l J Jx W hW hJa hJb hY h0 => by
  refine (walk1_in s e0 e1 b0 b1 c0 c1 hs ht hsp n l bs (fun pre W => ∃ pre' : List (AX e0 e1), pre'.map Subtype.val = pre ∧ J pre' W) (fun pre W => ∃ pre' : List (AX e0 e1), pre'.map Subtype.val = pre ∧ Jx pre' W)
    (fun pre A B hj hg => by obtain ⟨pre', h1, h2⟩ := hj; exact ⟨pre', h1, hJa pre' A B none h2 hg (fun r e => by cases e)⟩) (fun pre x W1 hx hj hl => ?_) W ((hW.block bs hbs).trans hbox) ⟨[], rfl, h0⟩).mono ?_
  · obtain ⟨pre', rfl, h2⟩ := hj
    obtain ⟨fn, tm, asg, bd, hy, hR⟩ := hY pre' ⟨x, hx⟩ W1 h2 (by simpa using hl)
    refine ⟨fn, tm, asg, bd, hy, hR.mono ?_⟩
    rintro e W' (⟨rfl, hj, hk⟩ | ⟨rfl, hj⟩)
    · exact .inl ⟨rfl, ⟨_, by simp, hj⟩, hk⟩
    · exact .inr ⟨rfl, _, by simp, hj⟩
  · rintro e W' ⟨he, ⟨ys, rfl, pre', h1, h2⟩ | ⟨pre, _, pre', h1, h2⟩⟩
    · exact ⟨he, .inl ⟨pre', h1, h2⟩⟩
    · exact ⟨he, .inr ⟨pre', trivial, h2⟩⟩
set_option maxRecDepth 100000 in
theorem walk_gives (s : Sp) (w : World) : Calls Tryz.prog 169 #[s.v] w fun e w' => e = .returned (.func (.func 178) #[] #[.pointer (some ⟨w.heap.size, 0, none⟩)]) ∧ w' = w.alloc (.cells #[.int .i64 s.n, .int .i64 s.d0.k, .int .i64 s.d0.s, .int .i64 s.d0.t, .int .i64 s.d1.k, .int .i64 s.d1.s, .int .i64 s.d1.t] 26) := by
  go_enter Tryz.func169, Tryz.ntmps169
  go_wp2
  go_ret
  exact ⟨rfl, rfl⟩
end Go.Proofs.YtcbahkfbdlhabaaGreatDoor
namespace Go.Proofs.YtcbahkfbdlhabaaGreatDoor
set_option linter.unusedVariables false
set_option linter.unusedSimpArgs false
open Go.RowKit
section float
variable {P : Program} {ops : Array Oper} {C : World → Prop} {M : Array Bool}
def noQ : Exit → Act → World → Prop := fun _ _ _ => False
theorem noQ_out : ¬ LetsOut noQ := by rintro ⟨a, w, h⟩; exact h
theorem wp_ofNo {o : Oper} {a : Act} {w : World} {K : Act → World → Prop} {Q : Exit → Act → World → Prop} (h : o.wp P a w K noQ) : o.wp P a w K Q := by
  unfold Oper.wp at *
  generalize (execOp a.eval o).run P w = r at *
  cases r with
  | ok n w' =>
    cases n <;> simp only [Oper.upon] at h ⊢ <;> first
      | exact h
      | (refine h.mono fun e w'' he => ?_
         cases e with
         | returned v => exact he
         | panicked c => exact he.elim
         | outgrown => exact absurd he noQ_out)
  | halt x w' => cases x <;> simp only [Oper.upon] at h ⊢ <;> first | exact h.elim | exact h
/-- Where nothing but the plain way out is left open. -/
def normQ (Q : Exit → Act → World → Prop) : Exit → Act → World → Prop := fun e a w => e = .normal ∧ Q .normal a w
theorem normQ_out {Q : Exit → Act → World → Prop} : ¬ LetsOut (normQ Q) := by rintro ⟨a, w, h, _⟩; cases h
theorem wp_norm {o : Oper} {a : Act} {w : World} {K : Act → World → Prop} {Q : Exit → Act → World → Prop} (h : o.wp P a w K (normQ Q)) : o.wp P a w K Q := by
  unfold Oper.wp at *
  generalize (execOp a.eval o).run P w = r at *
  cases r with
  | ok n w' =>
    cases n <;> simp only [Oper.upon] at h ⊢ <;> first
      | exact h
      | (refine h.mono fun e w'' he => ?_
         cases e with
         | returned v => exact he
         | panicked c => exact absurd he.1 (by simp)
         | outgrown => exact absurd he normQ_out)
  | halt x w' => cases x <;> simp only [Oper.upon] at h ⊢ <;> first | exact h.elim | exact absurd h.1 (by simp) | exact h
theorem wpListIn_norm {r : Option Nat} {n : Nat} {Q : Exit → Act → World → Prop} : ∀ (l : List Oper) (a : Act) (w : World), l.all noDefer = true → wpList P ops (normQ Q) l a w → wpListIn (wideAt r) n P ops Q l a w
  | [], _, _, _, h => h.2
  | o :: l, a, w, hd, h => by
    simp only [List.all_cons, Bool.and_eq_true] at hd
    unfold wpList at h
    unfold wpListIn
    split at h
    · rename_i hw
      rw [if_pos hw]
      exact wpIn_of_wp hd.1 (fun a w h => wpListIn_norm l a w hd.2 h) (wp_norm (h.resolve_right fun hx => normQ_out hx.2))
    · rename_i hw
      rw [if_neg hw]
      exact ⟨fun f _ => wideAt_fn r f, wpListIn_norm l _ w hd.2 h⟩
theorem wpListIn_norm0 {n : Nat} {Q : Exit → Act → World → Prop} {l : List Oper} {a : Act} {w : World} (hd : l.all noDefer = true) (h : wpList P ops (normQ Q) l a w) : wpListIn Fence.wide n P ops Q l a w := wpListIn_norm (r := none) l a w hd h
theorem wpListIn_normR {n lp : Nat} {Q : Exit → Act → World → Prop} {l : List Oper} {a : Act} {w : World} (hd : l.all noDefer = true) (h : wpList P ops (normQ Q) l a w) : wpListIn (Fence.wide.inRound lp) n P ops Q l a w := wpListIn_norm (r := some lp) l a w hd h
theorem defers_put (a : Act) (l : List Deferred) (d : Option Tmp) (u : Value) : ({ a.put d u with defers := l } : Act) = ({ a with defers := l } : Act).put d u := by
  cases d <;> rfl
theorem tmps_put {a a2 : Act} (h : a2.tmps = a.tmps) (d : Option Tmp) (u : Value) : (a2.put d u).tmps = (a.put d u).tmps := by
  cases d <;> simp [Act.put, h]
theorem eval_tmps {a a2 : Act} (h : a2.tmps = a.tmps) : a2.eval = a.eval := by
  funext x
  cases x <;> simp [Act.eval, h]
theorem YieldsB.tmps {oi : Oper} {v : Value} {a a2 : Act} (h : a2.tmps = a.tmps) (hy : YieldsB P ops C oi v a) : YieldsB P ops C oi v a2 := by
  unfold YieldsB at *
  rw [h, eval_tmps h]
  exact hy
theorem wp_put {o : Oper} (hsel : ∀ cs b, o.op ≠ .select cs b) {a : Act} {d : Option Tmp} {u : Value} (h1 : ∀ x, d = some x → x ∉ o.looksAt ops) (h2 : ∀ x, d = some x → o.dst ≠ some x) {w : World} {K : Act → World → Prop}
    (h : o.wp P (a.put d u) w K noQ) : o.wp P a w (fun a' w' => (∃ (a2 : Act) (u2 : Value), a2.tmps = a.tmps ∧ a' = a2.put o.dst u2) ∧ K (a'.put d u) w') noQ := by
  unfold Oper.wp at *
  rw [execOp_put o hsel a d u h1] at h
  generalize (execOp a.eval o).run P w = r at *
  cases r with
  | ok n w' =>
    cases n <;> simp only [Oper.upon] at h ⊢
    case value v => exact ⟨⟨a, v, rfl, rfl⟩, by rw [← Act.put_comm a u v h2]; exact h⟩
    case skip => exact ⟨⟨a, undef, rfl, rfl⟩, by rw [← Act.put_comm a u undef h2]; exact h⟩
    case defer dd =>
      refine ⟨⟨{ a with defers := dd :: a.defers }, undef, rfl, rfl⟩, ?_⟩
      have e9 : ({ tmps := (a.put d u).tmps, defers := dd :: a.defers } : Act) = ({ tmps := a.tmps, defers := dd :: a.defers } : Act).put d u := by cases d <;> rfl
      rw [← Act.put_comm _ u undef h2, ← e9]
      have hd : (a.put d u).defers = a.defers := by cases d <;> rfl
      rw [hd] at h
      exact h
    case enter f args =>
      refine h.mono fun e w'' he => ?_
      cases e with
      | returned v => exact ⟨⟨a, v, rfl, rfl⟩, by rw [← Act.put_comm a u v h2]; exact he⟩
      | panicked c => exact he
      | outgrown => exact he
    case row rr args =>
      exact Rows.mono h fun v w'' he => ⟨⟨a, v, rfl, rfl⟩, by rw [← Act.put_comm a u v h2]; exact he⟩
    all_goals exact h
  | halt x w' => cases x <;> simp only [Oper.upon] at h ⊢ <;> first | exact h.elim | exact h
/-- The operation number i; q: the writing ones to come, in their order; D: the worlds at hand. -/
def qY (P : Program) (ops : Array Oper) (C : World → Prop) (i : Nat) (o : Oper) (K : List Nat → (World → Prop) → Act → Prop) : List Nat → (World → Prop) → Act → Prop
  | [], D, a => qB P ops C o (K [] D) a
  | j :: r, D, a => if i = j then Region.wanted o (yielded ops a.tmps) = true ∧ ∀ V, D V → o.wp P a V (fun a' V' => ∃ D', Abides C D' ∧ D' V' ∧ K r D' a') noQ else qB P ops C o (K (j :: r) D) a
theorem qY_other {i : Nat} {o : Oper} {K : List Nat → (World → Prop) → Act → Prop} {q : List Nat} {D : World → Prop} {a : Act} (h : q.head? ≠ some i) : qY P ops C i o K q D a = qB P ops C o (K q D) a := by
  cases q with
  | nil => rfl
  | cons j r =>
    have hne : i ≠ j := fun e => h (by rw [e]; rfl)
    simp only [qY, if_neg hne]
theorem qY_head {i : Nat} {o : Oper} {K : List Nat → (World → Prop) → Act → Prop} {r : List Nat} {D : World → Prop} {a : Act} : qY P ops C i o K (i :: r) D a = (Region.wanted o (yielded ops a.tmps) = true ∧ ∀ V, D V → o.wp P a V (fun a' V' => ∃ D', Abides C D' ∧ D' V' ∧ K r D' a') noQ) := by
  simp only [qY, if_true]
def wpY (P : Program) (ops : Array Oper) (C : World → Prop) (M : Array Bool) (Q : (World → Prop) → Act → Prop) : Nat → Array Bool → List Nat → (World → Prop) → Act → Prop
  | 0, L, q, D, a => L = M ∧ q = [] ∧ Q D a
  | n + 1, L, q, D, a => Region.ready .any ops L ≠ [] ∧ ∀ i ∈ Region.ready .any ops L, M.getD i false = true ∧ ∀ o, ops[i]? = some o → qY P ops C i o (fun q' D' a' => wpY P ops C M Q n (L.setIfInBounds i true) q' D' a') q D a
theorem wpY_first {Q : (World → Prop) → Act → Prop} {i : Nat} {oi : Oper} {v : Value} (hi : ops[i]? = some oi) (hsel : ∀ (j : Nat) (o : Oper) cs b, ops[j]? = some o → o.op ≠ .select cs b) (hMi : M.getD i false = true) (hMr : Ahead ops M i) :
    ∀ (n : Nat) (L : Array Bool) (q : List Nat) (D : World → Prop) (a : Act), i ∉ q → Cl ops L →
      (∀ j oj, ops[j]? = some oj → j ≠ i → L.getD j true = false → (∀ e ∈ oj.after, Region.binds .any e = true → e.on ≠ i) → oi.apart ops oj = true) →
      i ∈ Region.ready .any ops L → YieldsB P ops C oi v a → wpY P ops C M Q n (L.setIfInBounds i true) q D (a.put oi.dst v) → wpY P ops C M Q (n + 1) L q D a := by
  have self : ∀ (n : Nat) (L : Array Bool) (q : List Nat) (D : World → Prop) (a : Act), i ∉ q → YieldsB P ops C oi v a → wpY P ops C M Q n (L.setIfInBounds i true) q D (a.put oi.dst v) → M.getD i false = true ∧ ∀ o, ops[i]? = some o → qY P ops C i o (fun q' D' a' => wpY P ops C M Q n (L.setIfInBounds i true) q' D' a') q D a := fun n L q D a hq hy H => by
    refine ⟨hMi, fun o ho => ?_⟩
    rw [hi] at ho
    cases ho
    rw [qY_other (fun e => hq (List.mem_of_mem_head? e))]
    exact hy.qB H
  intro n
  induction n with
  | zero =>
    intro L q D a hq hcl _ hr hy H
    refine ⟨fun h => (by rw [h] at hr; cases hr), fun j hj => ?_⟩
    by_cases hji : j = i
    · subst hji; exact self 0 L q D a hq hy H
    · exact absurd (hMr L hcl H.1 j hj hr) hji
  | succ n ih =>
    intro L q D a hq hcl hfree hr hy H
    refine ⟨fun h => (by rw [h] at hr; cases hr), fun j hj => ?_⟩
    by_cases hji : j = i
    · subst hji; exact self (n + 1) L q D a hq hy H
    · obtain ⟨hMj, h1⟩ := H.2 j (ready_mono hj hji)
      refine ⟨hMj, fun oj hoj => ?_⟩
      obtain ⟨hjun, oj', hoj', hall⟩ := mem_ready.1 hj
      rw [hoj] at hoj'
      cases hoj'
      have hnot : ∀ e ∈ oj.after, Region.binds .any e = true → e.on ≠ i := fun e he hb heq => by
        have h1 := hall e he hb
        rw [heq, ready_off hr] at h1
        cases h1
      have hap := hfree j oj hoj hji hjun hnot
      have h1 := h1 oj hoj
      have on : ∀ q' D' a', i ∉ q' → YieldsB P ops C oi v a' → wpY P ops C M Q n ((L.setIfInBounds i true).setIfInBounds j true) q' D' (a'.put oi.dst v) → wpY P ops C M Q (n + 1) (L.setIfInBounds j true) q' D' a' := fun q' D' a' hq' hy' h' =>
        ih (L.setIfInBounds j true) q' D' a' hq' (hcl.set hj) (fun k ok hk hki hun hno => hfree k ok hk hki (by
          by_cases hjk : j = k
          · subst hjk; exact hjun
          · rw [getD_set_ne true hjk] at hun; exact hun) hno) (ready_mono hr (Ne.symm hji)) hy' (by rw [Array.setIfInBounds_comm _ _ hji]; exact h')
      obtain ⟨p1, p2, p3⟩ := Oper.apart_spec hap
      by_cases hja : q.head? = some j
      · obtain ⟨r, rfl⟩ : ∃ r, q = j :: r := by
          cases q with
          | nil => cases hja
          | cons k r => cases hja; exact ⟨r, rfl⟩
        rw [qY_head] at h1 ⊢
        refine ⟨by rw [← wanted_put oj a oi.dst v p1]; exact h1.1, fun V hV => ?_⟩
        refine Oper.wp_mono (fun a' V' h' => ?_) (wp_put (hsel j oj · · hoj) p1 p2 (h1.2 V hV))
        obtain ⟨⟨a2, u2, hz, rfl⟩, D', hD', hV', h2⟩ := h'
        exact ⟨D', hD', hV', on r D' _ (fun h => hq (List.mem_cons_of_mem _ h)) ((hy.tmps hz).put (fun cs b => hsel i oi cs b hi) _ _ p3) h2⟩
      · rw [qY_other hja] at h1 ⊢
        have h2 := qB_put hap (fun cs b => hsel i oi cs b hi) (fun cs b => hsel j oj cs b hoj) hy h1
        obtain ⟨u, hu, h3⟩ := YieldsB.of_qB h2
        exact hu.qB (on q D _ hq h3.1 h3.2)
theorem wpY_path (hs : Region.noSelect ops = true) (hA : aheadB ops M = true) (hM : M.size = ops.size) {Q : (World → Prop) → Act → Prop} {q : List Nat} {D : World → Prop} {m : Nat} {R : Act → Prop} : ∀ (p : List Nat) (L : Array Bool) (a : Act), Cl ops L → p.all (fun i => !q.contains i) = true → pathB ops M L p = true →
    (∀ a, R a → wpY P ops C M Q m (p.foldl (fun L i => L.setIfInBounds i true) L) q D a) → wpB P ops C R (pick ops p) a → wpY P ops C M Q (m + p.length) L q D a
  | [], L, a, _, _, _, hR, h => hR a h
  | i :: r, L, a, hcl, hal, hB, hR, h => by
    simp only [pathB, Bool.and_eq_true, decide_eq_true_eq] at hB
    simp only [List.all_cons, Bool.and_eq_true] at hal
    obtain ⟨⟨⟨⟨hlt, hr⟩, hf⟩, hMi⟩, hB'⟩ := hB
    have h0 : ops[i]? = some ops[i] := Array.getElem?_eq_getElem hlt
    simp only [pick, h0] at h
    have hr' : i ∈ Region.ready .any ops L := by simpa using hr
    obtain ⟨v, hy, hK⟩ := YieldsB.of_qB h
    exact wpY_first h0 (Region.noSelect_spec hs) hMi (ahead_of hA hM i) _ L q D a (by simpa using hal.1) hcl (Region.free_spec h0 hf) hr' hy (wpY_path hs hA hM r _ _ (hcl.set hr') hal.2 hB' hR hK)
/-- The writing ones, in their order. -/
def wpS (P : Program) (ops : Array Oper) (C : World → Prop) (Q : (World → Prop) → Act → Prop) : List Oper → (World → Prop) → Act → Prop
  | [], D, a => Q D a
  | o :: r, D, a => Region.wanted o (yielded ops a.tmps) = true ∧ ∀ V, D V → o.wp P a V (fun a' V' => ∃ D', Abides C D' ∧ D' V' ∧ wpS P ops C Q r D' a') noQ
def seqM (ops : Array Oper) (M : Array Bool) : Array Bool → List Nat → Bool
  | L, [] => L == M
  | L, i :: r => decide (i < ops.size) && (Region.ready .any ops L == [i]) && M.getD i false && seqM ops M (L.setIfInBounds i true) r
theorem wpY_seq {Q : (World → Prop) → Act → Prop} : ∀ (q : List Nat) (L : Array Bool) (D : World → Prop) (a : Act), seqM ops M L q = true → wpS P ops C Q (pick ops q) D a → wpY P ops C M Q q.length L q D a
  | [], L, D, a, hB, h => ⟨by simpa [seqM] using hB, rfl, h⟩
  | i :: r, L, D, a, hB, h => by
    simp only [seqM, Bool.and_eq_true, decide_eq_true_eq] at hB
    obtain ⟨⟨⟨hlt, hr⟩, hMi⟩, hB'⟩ := hB
    have hr' : Region.ready .any ops L = [i] := by simpa using hr
    have h0 : ops[i]? = some ops[i] := Array.getElem?_eq_getElem hlt
    simp only [pick, h0] at h
    refine ⟨fun h0 => (by rw [hr'] at h0; cases h0), fun j hj => ?_⟩
    rw [hr'] at hj
    obtain rfl : j = i := by simpa using hj
    refine ⟨hMi, fun o ho => ?_⟩
    rw [h0] at ho
    cases ho
    rw [qY_head]
    refine ⟨h.1, fun V hV => Oper.wp_mono (fun a' V' h' => ?_) (h.2 V hV)⟩
    obtain ⟨D', h1, h2, h3⟩ := h'
    exact ⟨D', h1, h2, wpY_seq r _ D' a' hB' h3⟩
theorem wpAny_of_Y {Q : (World → Prop) → Act → Prop} {Q' : Exit → Act → World → Prop} {n : Nat}
    (hQ : ∀ D a w, Abides C D → D w → Q D a → wpAny P .any ops Q' n M a w) : ∀ (k : Nat) (L : Array Bool) (q : List Nat) (D : World → Prop) (a : Act) (w : World), Abides C D → D w → wpY P ops C M Q k L q D a → wpAny P .any ops Q' (n + k) L a w
  | 0, L, q, D, a, w, hD, hw, h => by rw [h.1]; exact hQ D a w hD hw h.2.2
  | k + 1, L, q, D, a, w, hD, hw, h => ⟨fun h0 => absurd h0 h.1, fun i hi => by
    obtain ⟨hun, o, ho, hall⟩ := mem_ready.1 hi
    have h1 := (h.2 i hi).2 o ho
    by_cases hia : q.head? = some i
    · obtain ⟨r, rfl⟩ : ∃ r, q = i :: r := by
        cases q with
        | nil => cases hia
        | cons k r => cases hia; exact ⟨r, rfl⟩
      rw [qY_head] at h1
      unfold wpOp
      simp only [ho]
      rw [if_pos h1.1]
      refine .inl (Oper.wp_mono (fun a' V' h' => ?_) (wp_ofNo (h1.2 w hw)))
      obtain ⟨D', h2, h3, h4⟩ := h'
      exact wpAny_of_Y hQ k _ r D' a' V' h2 h3 h4
    · rw [qY_other hia] at h1
      exact wpOp_of_qB hD ho hw (fun a' w' hw' h' => wpAny_of_Y hQ k _ q D a' w' hD hw' h') h1⟩
/-- p: what reads or calls; f: what writes and floats among p; q: what comes behind all of them. -/
def tailF (ops : Array Oper) (p f q : List Nat) : Bool :=
  Region.noSelect ops && pathB ops (maskOf ops.size (p ++ f)) (Array.replicate ops.size false) p && aheadB ops (maskOf ops.size (p ++ f)) && seqM ops (maskOf ops.size (p ++ f)) (maskOf ops.size p) f && seqB ops (maskOf ops.size (p ++ f)) q && (q.length + (f.length + p.length) == ops.size) && p.all (fun i => !f.contains i)
theorem wpAny_float {Q : Exit → Act → World → Prop} {D : World → Prop} {a : Act} {w : World} (p f q : List Nat) (hB : tailF ops p f q = true) (hD : Abides C D) (hw : D w)
    (h : wpB P ops C (fun a' => wpS P ops C (fun D' a'' => ∀ V, D' V → wpList P ops Q (pick ops q) a'' V) (pick ops f) D a') (pick ops p) a) : wpAny P .any ops Q ops.size (Array.replicate ops.size false) a w := by
  simp only [tailF, Bool.and_eq_true] at hB
  obtain ⟨⟨⟨⟨⟨⟨hs, hp⟩, hA⟩, hf⟩, hq⟩, hn⟩, hz⟩ := hB
  have h1 := wpY_path (P := P) (C := C) (M := maskOf ops.size (p ++ f)) hs hA (by unfold maskOf; rw [size_fold]; simp) (Q := fun D' a => ∀ V, D' V → wpList P ops Q (pick ops q) a V) (q := f) (D := D) (m := f.length) p (Array.replicate ops.size false) a cl_none
    hz hp (fun a' ha => wpY_seq f _ D a' hf ha) h
  have := wpAny_of_Y (n := q.length) (Q' := Q) (fun D' a' w' _ hw' h' => wpAny_seq q _ a' w' hq (h' w' hw')) _ _ _ _ a w hD hw h1
  rw [show q.length + (f.length + p.length) = ops.size by simpa using hn] at this
  exact this
end float
section floatHp
variable {ops : Array Oper} {w0 W : World} {l lC : List En} {Q : Exit → Act → World → Prop} {a : Act}
theorem Hp.abidesC (hsub : ∀ V, Hp w0 V l → Hp w0 V lC) : Abides (fun V => Hp w0 V lC) (fun V => Hp w0 V l) := ⟨hsub, fun _ _ h hb => h.next hb⟩
theorem wp_float_Hp {id : Nat} (p f q : List Nat) (lC : List En) (hB : tailF ops p f q = true) (HH : Hp w0 W l) (hsub : ∀ V, Hp w0 V l → Hp w0 V lC)
    (h : wpB Tryz.prog ops (fun V => Hp w0 V lC) (fun a' => wpS Tryz.prog ops (fun V => Hp w0 V lC) (fun D' a'' => ∀ V, D' V → wpList Tryz.prog ops Q (pick ops q) a'' V) (pick ops f) (fun V => Hp w0 V l) a') (pick ops p) a) : (Code.region id ops true).wp Tryz.prog Q a W :=
  wp_region_any (by kernel_rfl) (wpAny_float p f q hB (Hp.abidesC hsub) HH.drew h)
theorem wp_float_Hp_at {id lp n : Nat} (p f q : List Nat) (lC : List En) (hq : ¬ LetsOut Q) (hd : ops.all noDefer = true) (hB : tailF ops p f q = true) (HH : Hp w0 W l) (hsub : ∀ V, Hp w0 V l → Hp w0 V lC)
    (h : wpB Tryz.prog ops (fun V => Hp w0 V lC) (fun a' => wpS Tryz.prog ops (fun V => Hp w0 V lC) (fun D' a'' => ∀ V, D' V → wpList Tryz.prog ops Q (pick ops q) a'' V) (pick ops f) (fun V => Hp w0 V l) a') (pick ops p) a) : (Code.region id ops true).wpIn (Fence.wide.inRound lp) n Tryz.prog Q a W :=
  wpIn_region_any (by kernel_rfl) (wpAnyIn_of_wpAny (r := some lp) hq hd _ _ _ _ (wpAny_float p f q hB (Hp.abidesC hsub) HH.drew h))
/-- What one writing operation leaves. -/
def stepQ (ops : Array Oper) (C : World → Prop) (Q : (World → Prop) → Act → Prop) (r : List Oper) : Exit → Act → World → Prop := fun e a' V' => e = .normal ∧ ∃ D', Abides C D' ∧ D' V' ∧ wpS Tryz.prog ops C Q r D' a'
theorem wpS_step {C : World → Prop} {QS : (World → Prop) → Act → Prop} {o : Oper} {r : List Oper} (hw : Region.wanted o (yielded ops a.tmps) = true) (h : ∀ W, Hp w0 W l → wpList Tryz.prog ops (stepQ ops C QS r) [o] a W) : wpS Tryz.prog ops C QS (o :: r) (fun V => Hp w0 V l) a := by
  refine ⟨hw, fun V hV => ?_⟩
  have h1 := h V hV
  unfold wpList at h1
  rw [if_pos hw] at h1
  have hno : ¬ LetsOut (stepQ ops C QS r) := by rintro ⟨a, w, h, _⟩; cases h
  have h2 := h1.resolve_right fun hx => hno hx.2
  unfold Oper.wp at *
  generalize (execOp a.eval o).run Tryz.prog V = res at *
  have hnil : ∀ a' V', wpList Tryz.prog ops (stepQ ops C QS r) [] a' V' → ∃ D', Abides C D' ∧ D' V' ∧ wpS Tryz.prog ops C QS r D' a' := fun a' V' h => by
    unfold wpList at h
    exact h.2
  cases res with
  | ok n w' =>
    cases n <;> simp only [Oper.upon] at h2 ⊢ <;> first
      | exact hnil _ _ h2
      | (refine h2.mono fun e w'' he => ?_
         cases e with
         | returned v => exact hnil _ _ he
         | panicked c => exact absurd he.1 (by simp)
         | outgrown => exact absurd he hno)
      | exact Rows.mono h2 fun v w'' he => hnil _ _ he
      | exact h2
  | halt x w' => cases x <;> simp only [Oper.upon] at h2 ⊢ <;> first | exact h2.elim | exact absurd h2.1 (by simp)
theorem wpS_on {C : World → Prop} {QS : (World → Prop) → Act → Prop} {r : List Oper} (HH : Hp w0 W l) (hsub : ∀ V, Hp w0 V l → C V) (h : wpS Tryz.prog ops C QS r (fun V => Hp w0 V l) a) : wpList Tryz.prog ops (stepQ ops C QS r) [] a W := by
  unfold wpList
  exact ⟨rfl, _, ⟨hsub, fun _ _ h hb => h.next hb⟩, HH, h⟩
theorem stepQ_on {C : World → Prop} {QS : (World → Prop) → Act → Prop} {r : List Oper} (HH : Hp w0 W l) (hsub : ∀ V, Hp w0 V l → C V) (h : wpS Tryz.prog ops C QS r (fun V => Hp w0 V l) a) : stepQ ops C QS r .normal a W :=
  ⟨rfl, _, ⟨hsub, fun _ _ h hb => h.next hb⟩, HH, h⟩
theorem wpS_nil {C : World → Prop} {QS : (World → Prop) → Act → Prop} (h : QS (fun V => Hp w0 V l) a) : wpS Tryz.prog ops C QS [] (fun V => Hp w0 V l) a := h
/-- An own entry let go, wherever it stands. -/
theorem Hp.lose (h : Hp w0 W l) (i : Nat) {e : En} (he : l[i]? = some e) (ho : e.own = true) : Hp w0 W (l.eraseIdx i) := by
  have hp : ∀ (l : List En) (i : Nat), l[i]? = some e → l.Perm (e :: l.eraseIdx i) := by
    intro l
    induction l with
    | nil => intro i h; cases h
    | cons x r ih =>
      intro i h
      cases i with
      | zero => cases h; exact List.Perm.refl _
      | succ i => exact ((ih i h).cons x).trans (List.Perm.swap _ _ _)
  exact (h.perm (hp l i he)).drop ho
end floatHp
end Go.Proofs.YtcbahkfbdlhabaaGreatDoor
namespace Go.Proofs.YtcbahkfbdlhabaaGreatDoor
set_option linter.unusedVariables false
set_option linter.unusedSimpArgs false
open Go.RowKit
section float2
variable {P : Program} {ops : Array Oper} {C : World → Prop} {M : Array Bool}
/-- As wpY; the operation j is still to come, wherever. -/
def wpZ (P : Program) (ops : Array Oper) (C : World → Prop) (M : Array Bool) (Q : (World → Prop) → Act → Prop) (j : Nat) : Nat → Array Bool → List Nat → (World → Prop) → Act → Prop
  | 0, _, _, _, _ => False
  | n + 1, L, q, D, a => Region.ready .any ops L ≠ [] ∧ ∀ i ∈ Region.ready .any ops L, M.getD i false = true ∧ ∀ o, ops[i]? = some o →
      if i = j then Region.wanted o (yielded ops a.tmps) = true ∧ ∀ V, D V → o.wp P a V (fun a' V' => ∃ D', Abides C D' ∧ D' V' ∧ wpY P ops C M Q n (L.setIfInBounds i true) q D' a') noQ
      else qY P ops C i o (fun q' D' a' => wpZ P ops C M Q j n (L.setIfInBounds i true) q' D' a') q D a
theorem wpZ_first {Q : (World → Prop) → Act → Prop} {jj i : Nat} {oi : Oper} {v : Value} (hi : ops[i]? = some oi) (hsel : ∀ (j : Nat) (o : Oper) cs b, ops[j]? = some o → o.op ≠ .select cs b) (hMi : M.getD i false = true) (hMr : Ahead ops M i) (hij : i ≠ jj) :
    ∀ (n : Nat) (L : Array Bool) (q : List Nat) (D : World → Prop) (a : Act), i ∉ q → Cl ops L →
      (∀ j oj, ops[j]? = some oj → j ≠ i → L.getD j true = false → (∀ e ∈ oj.after, Region.binds .any e = true → e.on ≠ i) → oi.apart ops oj = true) →
      i ∈ Region.ready .any ops L → YieldsB P ops C oi v a → wpZ P ops C M Q jj n (L.setIfInBounds i true) q D (a.put oi.dst v) → wpZ P ops C M Q jj (n + 1) L q D a := by
  have self : ∀ (n : Nat) (L : Array Bool) (q : List Nat) (D : World → Prop) (a : Act), i ∉ q → YieldsB P ops C oi v a → wpZ P ops C M Q jj n (L.setIfInBounds i true) q D (a.put oi.dst v) → M.getD i false = true ∧ ∀ o, ops[i]? = some o →
      if i = jj then Region.wanted o (yielded ops a.tmps) = true ∧ ∀ V, D V → o.wp P a V (fun a' V' => ∃ D', Abides C D' ∧ D' V' ∧ wpY P ops C M Q n (L.setIfInBounds i true) q D' a') noQ
      else qY P ops C i o (fun q' D' a' => wpZ P ops C M Q jj n (L.setIfInBounds i true) q' D' a') q D a := fun n L q D a hq hy H => by
    refine ⟨hMi, fun o ho => ?_⟩
    rw [hi] at ho
    cases ho
    rw [if_neg hij, qY_other (fun e => hq (List.mem_of_mem_head? e))]
    exact hy.qB H
  intro n
  induction n with
  | zero =>
    intro L q D a hq hcl _ hr hy H
    exact H.elim
  | succ n ih =>
    intro L q D a hq hcl hfree hr hy H
    refine ⟨fun h => (by rw [h] at hr; cases hr), fun j hj => ?_⟩
    by_cases hji : j = i
    · subst hji; exact self (n + 1) L q D a hq hy H
    · obtain ⟨hMj, h1⟩ := H.2 j (ready_mono hj hji)
      refine ⟨hMj, fun oj hoj => ?_⟩
      obtain ⟨hjun, oj', hoj', hall⟩ := mem_ready.1 hj
      rw [hoj] at hoj'
      cases hoj'
      have hnot : ∀ e ∈ oj.after, Region.binds .any e = true → e.on ≠ i := fun e he hb heq => by
        have h1 := hall e he hb
        rw [heq, ready_off hr] at h1
        cases h1
      have hap := hfree j oj hoj hji hjun hnot
      have h1 := h1 oj hoj
      have free2 : ∀ k ok, ops[k]? = some ok → k ≠ i → (L.setIfInBounds j true).getD k true = false → (∀ e ∈ ok.after, Region.binds .any e = true → e.on ≠ i) → oi.apart ops ok = true := fun k ok hk hki hun hno => hfree k ok hk hki (by
          by_cases hjk : j = k
          · subst hjk; exact hjun
          · rw [getD_set_ne true hjk] at hun; exact hun) hno
      have on : ∀ q' D' a', i ∉ q' → YieldsB P ops C oi v a' → wpZ P ops C M Q jj n ((L.setIfInBounds i true).setIfInBounds j true) q' D' (a'.put oi.dst v) → wpZ P ops C M Q jj (n + 1) (L.setIfInBounds j true) q' D' a' := fun q' D' a' hq' hy' h' =>
        ih (L.setIfInBounds j true) q' D' a' hq' (hcl.set hj) free2 (ready_mono hr (Ne.symm hji)) hy' (by rw [Array.setIfInBounds_comm _ _ hji]; exact h')
      have onY : ∀ q' D' a', i ∉ q' → YieldsB P ops C oi v a' → wpY P ops C M Q n ((L.setIfInBounds i true).setIfInBounds j true) q' D' (a'.put oi.dst v) → wpY P ops C M Q (n + 1) (L.setIfInBounds j true) q' D' a' := fun q' D' a' hq' hy' h' =>
        wpY_first hi hsel hMi hMr n (L.setIfInBounds j true) q' D' a' hq' (hcl.set hj) free2 (ready_mono hr (Ne.symm hji)) hy' (by rw [Array.setIfInBounds_comm _ _ hji]; exact h')
      obtain ⟨p1, p2, p3⟩ := Oper.apart_spec hap
      by_cases hjj : j = jj
      · rw [if_pos hjj] at h1 ⊢
        refine ⟨by rw [← wanted_put oj a oi.dst v p1]; exact h1.1, fun V hV => ?_⟩
        refine Oper.wp_mono (fun a' V' h' => ?_) (wp_put (hsel j oj · · hoj) p1 p2 (h1.2 V hV))
        obtain ⟨⟨a2, u2, hz, rfl⟩, D', hD', hV', h2⟩ := h'
        exact ⟨D', hD', hV', onY q D' _ hq ((hy.tmps hz).put (fun cs b => hsel i oi cs b hi) _ _ p3) h2⟩
      · rw [if_neg hjj] at h1 ⊢
        by_cases hja : q.head? = some j
        · obtain ⟨r, rfl⟩ : ∃ r, q = j :: r := by
            cases q with
            | nil => cases hja
            | cons k r => cases hja; exact ⟨r, rfl⟩
          rw [qY_head] at h1 ⊢
          refine ⟨by rw [← wanted_put oj a oi.dst v p1]; exact h1.1, fun V hV => ?_⟩
          refine Oper.wp_mono (fun a' V' h' => ?_) (wp_put (hsel j oj · · hoj) p1 p2 (h1.2 V hV))
          obtain ⟨⟨a2, u2, hz, rfl⟩, D', hD', hV', h2⟩ := h'
          exact ⟨D', hD', hV', on r D' _ (fun h => hq (List.mem_cons_of_mem _ h)) ((hy.tmps hz).put (fun cs b => hsel i oi cs b hi) _ _ p3) h2⟩
        · rw [qY_other hja] at h1 ⊢
          have h2 := qB_put hap (fun cs b => hsel i oi cs b hi) (fun cs b => hsel j oj cs b hoj) hy h1
          obtain ⟨u, hu, h3⟩ := YieldsB.of_qB h2
          exact hu.qB (on q D _ hq h3.1 h3.2)
theorem wpZ_path (hs : Region.noSelect ops = true) (hA : aheadB ops M = true) (hM : M.size = ops.size) {Q : (World → Prop) → Act → Prop} {j : Nat} {q : List Nat} {D : World → Prop} {m : Nat} {R : Act → Prop} : ∀ (p : List Nat) (L : Array Bool) (a : Act), Cl ops L → p.all (fun i => !q.contains i && (i != j)) = true → pathB ops M L p = true →
    (∀ a, R a → wpZ P ops C M Q j m (p.foldl (fun L i => L.setIfInBounds i true) L) q D a) → wpB P ops C R (pick ops p) a → wpZ P ops C M Q j (m + p.length) L q D a
  | [], L, a, _, _, _, hR, h => hR a h
  | i :: r, L, a, hcl, hal, hB, hR, h => by
    simp only [pathB, Bool.and_eq_true, decide_eq_true_eq] at hB
    simp only [List.all_cons, Bool.and_eq_true] at hal
    obtain ⟨⟨⟨⟨hlt, hr⟩, hf⟩, hMi⟩, hB'⟩ := hB
    have h0 : ops[i]? = some ops[i] := Array.getElem?_eq_getElem hlt
    simp only [pick, h0] at h
    have hr' : i ∈ Region.ready .any ops L := by simpa using hr
    obtain ⟨v, hy, hK⟩ := YieldsB.of_qB h
    exact wpZ_first h0 (Region.noSelect_spec hs) hMi (ahead_of hA hM i) (by simpa using hal.1.2) _ L q D a (by simpa using hal.1.1) hcl (Region.free_spec h0 hf) hr' hy (wpZ_path hs hA hM r _ _ (hcl.set hr') hal.2 hB' hR hK)
/-- The writing ones, in their order, and one more wherever. -/
def wpT (P : Program) (ops : Array Oper) (C : World → Prop) (Q : (World → Prop) → Act → Prop) (o2 : Oper) : List Oper → (World → Prop) → Act → Prop
  | [], D, a => Region.wanted o2 (yielded ops a.tmps) = true ∧ ∀ V, D V → o2.wp P a V (fun a' V' => ∃ D', Abides C D' ∧ D' V' ∧ Q D' a') noQ
  | o :: r, D, a => (Region.wanted o (yielded ops a.tmps) = true ∧ ∀ V, D V → o.wp P a V (fun a' V' => ∃ D', Abides C D' ∧ D' V' ∧ wpT P ops C Q o2 r D' a') noQ) ∧
      (Region.wanted o2 (yielded ops a.tmps) = true ∧ ∀ V, D V → o2.wp P a V (fun a' V' => ∃ D', Abides C D' ∧ D' V' ∧ wpS P ops C Q (o :: r) D' a') noQ)
def seqT (ops : Array Oper) (M : Array Bool) (j : Nat) : Array Bool → List Nat → Bool
  | L, [] => decide (j < ops.size) && (Region.ready .any ops L == [j]) && M.getD j false && (L.setIfInBounds j true == M)
  | L, i :: r => decide (i < ops.size) && decide (j < ops.size) && M.getD i false && M.getD j false && (i != j) && seqM ops M (L.setIfInBounds j true) (i :: r) && ((Region.ready .any ops L == [j]) || ((Region.ready .any ops L == [i, j] || Region.ready .any ops L == [j, i]) && seqT ops M j (L.setIfInBounds i true) r))
theorem wpZ_seq {Q : (World → Prop) → Act → Prop} {j : Nat} {oj : Oper} (hoj : ops[j]? = some oj) : ∀ (q : List Nat) (L : Array Bool) (D : World → Prop) (a : Act), seqT ops M j L q = true → wpT P ops C Q oj (pick ops q) D a → wpZ P ops C M Q j (q.length + 1) L q D a
  | [], L, D, a, hB, h => by
    simp only [seqT, Bool.and_eq_true, decide_eq_true_eq] at hB
    obtain ⟨⟨⟨hlt, hr⟩, hMj⟩, hL⟩ := hB
    have hr' : Region.ready .any ops L = [j] := by simpa using hr
    refine ⟨fun h0 => (by rw [hr'] at h0; cases h0), fun i hi => ?_⟩
    rw [hr'] at hi
    obtain rfl : i = j := by simpa using hi
    refine ⟨hMj, fun o ho => ?_⟩
    rw [hoj] at ho
    cases ho
    rw [if_pos rfl]
    refine ⟨h.1, fun V hV => Oper.wp_mono (fun a' V' h' => ?_) (h.2 V hV)⟩
    obtain ⟨D', h1, h2, h3⟩ := h'
    exact ⟨D', h1, h2, by simpa using hL, rfl, h3⟩
  | i :: r, L, D, a, hB, h => by
    simp only [seqT, Bool.and_eq_true, decide_eq_true_eq] at hB
    obtain ⟨⟨⟨⟨⟨⟨hlt, hltj⟩, hMi⟩, hMj⟩, hij⟩, hBM⟩, hr⟩ := hB
    have hij' : i ≠ j := by simpa using hij
    have hcase : Region.ready .any ops L = [j] ∨ ((Region.ready .any ops L = [i, j] ∨ Region.ready .any ops L = [j, i]) ∧ seqT ops M j (L.setIfInBounds i true) r = true) := by
      rcases (Bool.or_eq_true _ _).mp hr with h1 | h1
      · exact .inl (by simpa using h1)
      · rw [Bool.and_eq_true, Bool.or_eq_true] at h1
        exact .inr ⟨h1.1.imp (fun h => by simpa using h) (fun h => by simpa using h), h1.2⟩
    have hmem : ∀ k, k ∈ Region.ready .any ops L → (k = i ∧ seqT ops M j (L.setIfInBounds i true) r = true) ∨ k = j := fun k hk => by
      rcases hcase with h1 | ⟨h1 | h1, h2⟩
      · rw [h1] at hk
        exact .inr (by simpa using hk)
      · rw [h1] at hk
        rcases (by simpa using hk : k = i ∨ k = j) with h3 | h3
        · exact .inl ⟨h3, h2⟩
        · exact .inr h3
      · rw [h1] at hk
        rcases (by simpa using hk : k = j ∨ k = i) with h3 | h3
        · exact .inr h3
        · exact .inl ⟨h3, h2⟩
    have hne : Region.ready .any ops L ≠ [] := fun h0 => by
      rcases hcase with h1 | ⟨h1 | h1, _⟩ <;> rw [h0] at h1 <;> cases h1
    have h0 : ops[i]? = some ops[i] := Array.getElem?_eq_getElem hlt
    have hpk : pick ops (i :: r) = ops[i] :: pick ops r := by simp only [pick, h0]
    rw [hpk] at h
    refine ⟨hne, fun k hk => ?_⟩
    rcases hmem k hk with ⟨rfl, hB'⟩ | rfl
    · refine ⟨hMi, fun o ho => ?_⟩
      rw [h0] at ho
      cases ho
      rw [if_neg hij', qY_head]
      refine ⟨h.1.1, fun V hV => Oper.wp_mono (fun a' V' h' => ?_) (h.1.2 V hV)⟩
      obtain ⟨D', h1, h2, h3⟩ := h'
      exact ⟨D', h1, h2, wpZ_seq hoj r _ D' a' hB' h3⟩
    · refine ⟨hMj, fun o ho => ?_⟩
      rw [hoj] at ho
      cases ho
      rw [if_pos rfl]
      refine ⟨h.2.1, fun V hV => Oper.wp_mono (fun a' V' h' => ?_) (h.2.2 V hV)⟩
      obtain ⟨D', h1, h2, h3⟩ := h'
      exact ⟨D', h1, h2, wpY_seq (i :: r) _ D' a' hBM (by rw [hpk]; exact h3)⟩
theorem wpAny_of_Z {Q : (World → Prop) → Act → Prop} {Q' : Exit → Act → World → Prop} {n j : Nat}
    (hQ : ∀ D a w, Abides C D → D w → Q D a → wpAny P .any ops Q' n M a w) : ∀ (k : Nat) (L : Array Bool) (q : List Nat) (D : World → Prop) (a : Act) (w : World), Abides C D → D w → wpZ P ops C M Q j k L q D a → wpAny P .any ops Q' (n + k) L a w
  | 0, L, q, D, a, w, hD, hw, h => h.elim
  | k + 1, L, q, D, a, w, hD, hw, h => ⟨fun h0 => absurd h0 h.1, fun i hi => by
    obtain ⟨hun, o, ho, hall⟩ := mem_ready.1 hi
    have h1 := (h.2 i hi).2 o ho
    by_cases hij : i = j
    · rw [if_pos hij] at h1
      unfold wpOp
      simp only [ho]
      rw [if_pos h1.1]
      refine .inl (Oper.wp_mono (fun a' V' h' => ?_) (wp_ofNo (h1.2 w hw)))
      obtain ⟨D', h2, h3, h4⟩ := h'
      exact wpAny_of_Y hQ k _ q D' a' V' h2 h3 h4
    · rw [if_neg hij] at h1
      by_cases hia : q.head? = some i
      · obtain ⟨r, rfl⟩ : ∃ r, q = i :: r := by
          cases q with
          | nil => cases hia
          | cons k r => cases hia; exact ⟨r, rfl⟩
        rw [qY_head] at h1
        unfold wpOp
        simp only [ho]
        rw [if_pos h1.1]
        refine .inl (Oper.wp_mono (fun a' V' h' => ?_) (wp_ofNo (h1.2 w hw)))
        obtain ⟨D', h2, h3, h4⟩ := h'
        exact wpAny_of_Z hQ k _ r D' a' V' h2 h3 h4
      · rw [qY_other hia] at h1
        exact wpOp_of_qB hD ho hw (fun a' w' hw' h' => wpAny_of_Z hQ k _ q D a' w' hD hw' h') h1⟩
def tailT (ops : Array Oper) (p f : List Nat) (j : Nat) (q : List Nat) : Bool :=
  Region.noSelect ops && pathB ops (maskOf ops.size (p ++ f ++ [j])) (Array.replicate ops.size false) p && aheadB ops (maskOf ops.size (p ++ f ++ [j])) && seqT ops (maskOf ops.size (p ++ f ++ [j])) j (maskOf ops.size p) f && seqB ops (maskOf ops.size (p ++ f ++ [j])) q && (q.length + ((f.length + 1) + p.length) == ops.size) && p.all (fun i => !f.contains i && (i != j))
theorem wpAny_float2 {Q : Exit → Act → World → Prop} {D : World → Prop} {a : Act} {w : World} (p f : List Nat) (j : Nat) (q : List Nat) {oj : Oper} (hoj : ops[j]? = some oj) (hB : tailT ops p f j q = true) (hD : Abides C D) (hw : D w)
    (h : wpB P ops C (fun a' => wpT P ops C (fun D' a'' => ∀ V, D' V → wpList P ops Q (pick ops q) a'' V) oj (pick ops f) D a') (pick ops p) a) : wpAny P .any ops Q ops.size (Array.replicate ops.size false) a w := by
  simp only [tailT, Bool.and_eq_true] at hB
  obtain ⟨⟨⟨⟨⟨⟨hs, hp⟩, hA⟩, hf⟩, hq⟩, hn⟩, hz⟩ := hB
  have h1 := wpZ_path (P := P) (C := C) (M := maskOf ops.size (p ++ f ++ [j])) hs hA (by unfold maskOf; rw [size_fold]; simp) (Q := fun D' a => ∀ V, D' V → wpList P ops Q (pick ops q) a V) (j := j) (q := f) (D := D) (m := f.length + 1) p (Array.replicate ops.size false) a cl_none
    hz hp (fun a' ha => wpZ_seq hoj f _ D a' hf ha) h
  have := wpAny_of_Z (n := q.length) (Q' := Q) (fun D' a' w' _ hw' h' => wpAny_seq q _ a' w' hq (h' w' hw')) _ _ _ _ a w hD hw h1
  rw [show q.length + ((f.length + 1) + p.length) = ops.size by simpa using hn] at this
  exact this
end float2
section float2Hp
variable {ops : Array Oper} {w0 W : World} {l lC : List En} {Q : Exit → Act → World → Prop} {a : Act}
theorem wp_float2_Hp {id : Nat} (p f : List Nat) (j : Nat) (q : List Nat) (lC : List En) {oj : Oper} (hoj : ops[j]? = some oj) (hB : tailT ops p f j q = true) (HH : Hp w0 W l) (hsub : ∀ V, Hp w0 V l → Hp w0 V lC)
    (h : wpB Tryz.prog ops (fun V => Hp w0 V lC) (fun a' => wpT Tryz.prog ops (fun V => Hp w0 V lC) (fun D' a'' => ∀ V, D' V → wpList Tryz.prog ops Q (pick ops q) a'' V) oj (pick ops f) (fun V => Hp w0 V l) a') (pick ops p) a) : (Code.region id ops true).wp Tryz.prog Q a W :=
  wp_region_any (by kernel_rfl) (wpAny_float2 p f j q hoj hB (Hp.abidesC hsub) HH.drew h)
/-- What one writing operation leaves, the other one still to come. -/
def stepT (ops : Array Oper) (C : World → Prop) (Q : (World → Prop) → Act → Prop) (o2 : Oper) (r : List Oper) : Exit → Act → World → Prop := fun e a' V' => e = .normal ∧ ∃ D', Abides C D' ∧ D' V' ∧ wpT Tryz.prog ops C Q o2 r D' a'
/-- What the last one leaves. -/
def stepE (ops : Array Oper) (C : World → Prop) (Q : (World → Prop) → Act → Prop) : Exit → Act → World → Prop := fun e a' V' => e = .normal ∧ ∃ D', Abides C D' ∧ D' V' ∧ Q D' a'
theorem one_wp {K : Act → World → Prop} {o : Oper} {V : World} (hw : Region.wanted o (yielded ops a.tmps) = true) (h1 : wpList Tryz.prog ops (fun e a' V' => e = .normal ∧ K a' V') [o] a V) : o.wp Tryz.prog a V K noQ := by
  unfold wpList at h1
  rw [if_pos hw] at h1
  have hno : ¬ LetsOut (fun e a' V' => e = Exit.normal ∧ K a' V') := by rintro ⟨a, w, h, _⟩; cases h
  have h2 := h1.resolve_right fun hx => hno hx.2
  unfold Oper.wp at *
  generalize (execOp a.eval o).run Tryz.prog V = res at *
  have hnil : ∀ a' V', wpList Tryz.prog ops (fun e a' V' => e = Exit.normal ∧ K a' V') [] a' V' → K a' V' := fun a' V' h => by
    unfold wpList at h
    exact h.2
  cases res with
  | ok n w' =>
    cases n <;> simp only [Oper.upon] at h2 ⊢ <;> first
      | exact hnil _ _ h2
      | (refine h2.mono fun e w'' he => ?_
         cases e with
         | returned v => exact hnil _ _ he
         | panicked c => exact absurd he.1 (by simp)
         | outgrown => exact absurd he hno)
      | exact Rows.mono h2 fun v w'' he => hnil _ _ he
      | exact h2
  | halt x w' => cases x <;> simp only [Oper.upon] at h2 ⊢ <;> first | exact h2.elim | exact absurd h2.1 (by simp)
theorem wpT_step {C : World → Prop} {QS : (World → Prop) → Act → Prop} {o o2 : Oper} {r : List Oper} (hw : Region.wanted o (yielded ops a.tmps) = true) (hw2 : Region.wanted o2 (yielded ops a.tmps) = true) (h : ∀ W, Hp w0 W l → wpList Tryz.prog ops (stepT ops C QS o2 r) [o] a W) (h2 : ∀ W, Hp w0 W l → wpList Tryz.prog ops (stepQ ops C QS (o :: r)) [o2] a W) : wpT Tryz.prog ops C QS o2 (o :: r) (fun V => Hp w0 V l) a :=
  ⟨⟨hw, fun V hV => one_wp hw (h V hV)⟩, hw2, fun V hV => one_wp hw2 (h2 V hV)⟩
theorem wpT_last {C : World → Prop} {QS : (World → Prop) → Act → Prop} {o2 : Oper} (hw2 : Region.wanted o2 (yielded ops a.tmps) = true) (h2 : ∀ W, Hp w0 W l → wpList Tryz.prog ops (stepE ops C QS) [o2] a W) : wpT Tryz.prog ops C QS o2 [] (fun V => Hp w0 V l) a :=
  ⟨hw2, fun V hV => one_wp hw2 (h2 V hV)⟩
theorem stepT_on {C : World → Prop} {QS : (World → Prop) → Act → Prop} {o2 : Oper} {r : List Oper} (HH : Hp w0 W l) (hsub : ∀ V, Hp w0 V l → C V) (h : wpT Tryz.prog ops C QS o2 r (fun V => Hp w0 V l) a) : stepT ops C QS o2 r .normal a W :=
  ⟨rfl, _, ⟨hsub, fun _ _ h hb => h.next hb⟩, HH, h⟩
theorem wpT_on {C : World → Prop} {QS : (World → Prop) → Act → Prop} {o2 : Oper} {r : List Oper} (HH : Hp w0 W l) (hsub : ∀ V, Hp w0 V l → C V) (h : wpT Tryz.prog ops C QS o2 r (fun V => Hp w0 V l) a) : wpList Tryz.prog ops (stepT ops C QS o2 r) [] a W := by
  unfold wpList
  exact stepT_on HH hsub h
theorem stepE_on {C : World → Prop} {QS : (World → Prop) → Act → Prop} (HH : Hp w0 W l) (hsub : ∀ V, Hp w0 V l → C V) (h : QS (fun V => Hp w0 V l) a) : stepE ops C QS .normal a W :=
  ⟨rfl, _, ⟨hsub, fun _ _ h hb => h.next hb⟩, HH, h⟩
theorem wpE_on {C : World → Prop} {QS : (World → Prop) → Act → Prop} (HH : Hp w0 W l) (hsub : ∀ V, Hp w0 V l → C V) (h : QS (fun V => Hp w0 V l) a) : wpList Tryz.prog ops (stepE ops C QS) [] a W := by
  unfold wpList
  exact stepE_on HH hsub h
end float2Hp
end Go.Proofs.YtcbahkfbdlhabaaGreatDoor
namespace Go.Proofs.YtcbahkfbdlhabaaGreatDoor
set_option linter.unusedVariables false
set_option linter.unusedSimpArgs false
open Go.RowKit
section segs
variable {P : Program} {ops : Array Oper} {C : World → Prop} {M : Array Bool}
def cntS : List (List Nat × Nat) → Nat
  | [] => 0
  | s :: r => (cntS r + 1) + s.1.length
def pickS (ops : Array Oper) : List (List Nat × Nat) → List (List Oper × Oper)
  | [] => []
  | s :: r => match ops[s.2]? with
    | some o => (pick ops s.1, o) :: pickS ops r
    | none => pickS ops r
def wpH (P : Program) (ops : Array Oper) (C : World → Prop) (Q : (World → Prop) → Act → Prop) : List (List Oper × Oper) → (World → Prop) → Act → Prop
  | [], D, a => Q D a
  | s :: r, D, a => wpB P ops C (fun a' => Region.wanted s.2 (yielded ops a'.tmps) = true ∧ ∀ V, D V → s.2.wp P a' V (fun a'' V' => ∃ D', Abides C D' ∧ D' V' ∧ wpH P ops C Q r D' a'') noQ) s.1 a
abbrev unf (r : List (List Oper × Oper × Bool)) : List (List Oper × Oper) := r.map fun s => (s.1, s.2.1)
abbrev stripN (r : List (List Nat × Nat × Bool)) : List (List Nat × Nat) := r.map fun s => (s.1, s.2.1)
def pickG (ops : Array Oper) : List (List Nat × Nat × Bool) → List (List Oper × Oper × Bool)
  | [] => []
  | s :: r => match ops[s.2.1]? with
    | some o => (pick ops s.1, o, s.2.2) :: pickG ops r
    | none => pickG ops r
theorem unf_pickG (ops : Array Oper) : ∀ r : List (List Nat × Nat × Bool), unf (pickG ops r) = pickS ops (stripN r)
  | [] => rfl
  | s :: r => by
    have ih := unf_pickG ops r
    cases h : ops[s.2.1]? with
    | none => simp only [pickG, h, stripN, List.map_cons, pickS]; exact ih
    | some o => simp only [pickG, h, stripN, List.map_cons, pickS]; exact congrArg _ ih
/-- The flag: may the operation come while the one beside is still to come. -/
def wpG (P : Program) (ops : Array Oper) (C : World → Prop) (Q : (World → Prop) → Act → Prop) (o2 : Oper) : List (List Oper × Oper × Bool) → (World → Prop) → Act → Prop
  | [], D, a => Region.wanted o2 (yielded ops a.tmps) = true ∧ ∀ V, D V → o2.wp P a V (fun a' V' => ∃ D', Abides C D' ∧ D' V' ∧ Q D' a') noQ
  | s :: r, D, a => wpB P ops C (fun a' => (s.2.2 = true → Region.wanted s.2.1 (yielded ops a'.tmps) = true ∧ ∀ V, D V → s.2.1.wp P a' V (fun a'' V' => ∃ D', Abides C D' ∧ D' V' ∧ wpG P ops C Q o2 r D' a'') noQ) ∧
      (Region.wanted o2 (yielded ops a'.tmps) = true ∧ ∀ V, D V → o2.wp P a' V (fun a'' V' => ∃ D', Abides C D' ∧ D' V' ∧ wpH P ops C Q (([], s.2.1) :: unf r) D' a'') noQ)) s.1 a
def setP (L : Array Bool) (p : List Nat) : Array Bool := p.foldl (fun L i => L.setIfInBounds i true) L
def segM (ops : Array Oper) (M : Array Bool) (qs : List Nat) : Array Bool → List (List Nat × Nat) → Bool
  | L, [] => L == M
  | L, s :: r => pathB ops M L s.1 && s.1.all (fun i => !qs.contains i) && decide (s.2 < ops.size) && (Region.ready .any ops (setP L s.1) == [s.2]) && M.getD s.2 false && segM ops M qs ((setP L s.1).setIfInBounds s.2 true) r
def segT (ops : Array Oper) (M : Array Bool) (qs : List Nat) (j : Nat) : Array Bool → List (List Nat × Nat × Bool) → Bool
  | L, [] => decide (j < ops.size) && (Region.ready .any ops L == [j]) && M.getD j false && (L.setIfInBounds j true == M)
  | L, s :: r => pathB ops M L s.1 && s.1.all (fun i => !qs.contains i && (i != j)) && decide (s.2.1 < ops.size) && decide (j < ops.size) && M.getD s.2.1 false && M.getD j false && (s.2.1 != j) && segM ops M qs ((setP L s.1).setIfInBounds j true) (([], s.2.1) :: stripN r) &&
      (if s.2.2 then (Region.ready .any ops (setP L s.1) == [s.2.1, j] || Region.ready .any ops (setP L s.1) == [j, s.2.1]) && segT ops M qs j ((setP L s.1).setIfInBounds s.2.1 true) r else Region.ready .any ops (setP L s.1) == [j])
theorem cl_setP : ∀ (p : List Nat) {L : Array Bool}, Cl ops L → pathB ops M L p = true → Cl ops (setP L p)
  | [], L, h, _ => h
  | i :: r, L, h, hB => by
    simp only [pathB, Bool.and_eq_true] at hB
    exact cl_setP r (h.set (by simpa using hB.1.1.1.2)) hB.2
theorem all_sub {p : List Nat} {qs q : List Nat} (h : p.all (fun i => !qs.contains i) = true) (hs : ∀ x ∈ q, x ∈ qs) : p.all (fun i => !q.contains i) = true := by
  rw [List.all_eq_true] at h ⊢
  intro i hi
  have h1 := h i hi
  simp only [Bool.not_eq_true', List.contains_eq_mem, decide_eq_false_iff_not] at h1 ⊢
  exact fun hc => h1 (hs i hc)
theorem wpY_segs (hs : Region.noSelect ops = true) (hA : aheadB ops M = true) (hM : M.size = ops.size) {Q : (World → Prop) → Act → Prop} (qs : List Nat) : ∀ (segs : List (List Nat × Nat)) (L : Array Bool) (D : World → Prop) (a : Act), Cl ops L → (∀ x ∈ segs.map Prod.snd, x ∈ qs) → segM ops M qs L segs = true →
    wpH P ops C Q (pickS ops segs) D a → wpY P ops C M Q (cntS segs) L (segs.map Prod.snd) D a
  | [], L, D, a, _, _, hB, h => ⟨by simpa [segM] using hB, rfl, h⟩
  | (p, i) :: r, L, D, a, hcl, hq, hB, h => by
    simp only [segM, Bool.and_eq_true, decide_eq_true_eq] at hB
    obtain ⟨⟨⟨⟨⟨hp, hpq⟩, hlt⟩, hr⟩, hMi⟩, hB'⟩ := hB
    have h0 : ops[i]? = some ops[i] := Array.getElem?_eq_getElem hlt
    have hpk : pickS ops ((p, i) :: r) = (pick ops p, ops[i]) :: pickS ops r := by simp only [pickS, h0]
    rw [hpk] at h
    have hcl2 := cl_setP p hcl hp
    have hr' : Region.ready .any ops (setP L p) = [i] := by simpa using hr
    have hcl3 : Cl ops ((setP L p).setIfInBounds i true) := hcl2.set (by rw [hr']; exact List.mem_singleton.2 rfl)
    refine wpY_path hs hA hM (m := cntS r + 1) p L a hcl (all_sub hpq hq) hp (fun a' ha => ?_) h
    refine ⟨fun h0 => (by have h1 : Region.ready .any ops (setP L p) = [] := h0; rw [hr'] at h1; cases h1), fun k hk => ?_⟩
    have hk' : k ∈ Region.ready .any ops (setP L p) := hk
    rw [hr'] at hk'
    obtain rfl : k = i := by simpa using hk'
    refine ⟨hMi, fun o ho => ?_⟩
    rw [h0] at ho
    cases ho
    show qY P ops C k _ _ (k :: List.map Prod.snd r) D a'
    rw [qY_head]
    refine ⟨ha.1, fun V hV => Oper.wp_mono (fun a'' V' h' => ?_) (ha.2 V hV)⟩
    obtain ⟨D', h1, h2, h3⟩ := h'
    exact ⟨D', h1, h2, wpY_segs hs hA hM qs r _ D' a'' hcl3 (fun x hx => hq x (by simp only [List.map_cons]; exact List.mem_cons_of_mem _ hx)) hB' h3⟩
theorem wpZ_segs (hs : Region.noSelect ops = true) (hA : aheadB ops M = true) (hM : M.size = ops.size) {Q : (World → Prop) → Act → Prop} (qs : List Nat) {j : Nat} {oj : Oper} (hoj : ops[j]? = some oj) : ∀ (segs : List (List Nat × Nat × Bool)) (L : Array Bool) (D : World → Prop) (a : Act), Cl ops L → (∀ x ∈ (stripN segs).map Prod.snd, x ∈ qs) → segT ops M qs j L segs = true →
    wpG P ops C Q oj (pickG ops segs) D a → wpZ P ops C M Q j (cntS (stripN segs) + 1) L ((stripN segs).map Prod.snd) D a
  | [], L, D, a, _, _, hB, h => by
    simp only [segT, Bool.and_eq_true, decide_eq_true_eq] at hB
    obtain ⟨⟨⟨hlt, hr⟩, hMj⟩, hL⟩ := hB
    have hr' : Region.ready .any ops L = [j] := by simpa using hr
    refine ⟨fun h0 => (by rw [hr'] at h0; cases h0), fun i hi => ?_⟩
    rw [hr'] at hi
    obtain rfl : i = j := by simpa using hi
    refine ⟨hMj, fun o ho => ?_⟩
    rw [hoj] at ho
    cases ho
    rw [if_pos rfl]
    refine ⟨h.1, fun V hV => Oper.wp_mono (fun a' V' h' => ?_) (h.2 V hV)⟩
    obtain ⟨D', h1, h2, h3⟩ := h'
    exact ⟨D', h1, h2, by simpa using hL, rfl, h3⟩
  | (p, i, fl) :: r, L, D, a, hcl, hq, hB, h => by
    simp only [segT, Bool.and_eq_true, decide_eq_true_eq] at hB
    obtain ⟨⟨⟨⟨⟨⟨⟨⟨hp, hpq⟩, hlt⟩, hltj⟩, hMi⟩, hMj⟩, hij⟩, hBM⟩, hr⟩ := hB
    have h0 : ops[i]? = some ops[i] := Array.getElem?_eq_getElem hlt
    have hpk : pickG ops ((p, i, fl) :: r) = (pick ops p, ops[i], fl) :: pickG ops r := by simp only [pickG, h0]
    have hpk0 : pickS ops (([], i) :: stripN r) = ([], ops[i]) :: unf (pickG ops r) := by rw [unf_pickG]; simp only [pickS, h0, pick]
    rw [hpk] at h
    have hcl2 := cl_setP p hcl hp
    have hij' : i ≠ j := by simpa using hij
    have hcase : Region.ready .any ops (setP L p) = [j] ∨ ((Region.ready .any ops (setP L p) = [i, j] ∨ Region.ready .any ops (setP L p) = [j, i]) ∧ (segT ops M qs j ((setP L p).setIfInBounds i true) r = true ∧ fl = true)) := by
      cases fl with
      | false =>
        rw [if_neg (by simp)] at hr
        exact .inl (by simpa using hr)
      | true =>
        rw [if_pos rfl, Bool.and_eq_true, Bool.or_eq_true] at hr
        exact .inr ⟨hr.1.imp (fun h => by simpa using h) (fun h => by simpa using h), hr.2, rfl⟩
    have hmem : ∀ k, k ∈ Region.ready .any ops (setP L p) → (k = i ∧ (segT ops M qs j ((setP L p).setIfInBounds i true) r = true ∧ fl = true)) ∨ k = j := fun k hk => by
      rcases hcase with h1 | ⟨h1 | h1, h2⟩
      · rw [h1] at hk
        exact .inr (by simpa using hk)
      · rw [h1] at hk
        rcases (by simpa using hk : k = i ∨ k = j) with h3 | h3
        · exact .inl ⟨h3, h2⟩
        · exact .inr h3
      · rw [h1] at hk
        rcases (by simpa using hk : k = j ∨ k = i) with h3 | h3
        · exact .inr h3
        · exact .inl ⟨h3, h2⟩
    have hne : Region.ready .any ops (setP L p) ≠ [] := fun h0 => by
      rcases hcase with h1 | ⟨h1 | h1, _⟩ <;> rw [h0] at h1 <;> cases h1
    have hpall : p.all (fun k => !(i :: (stripN r).map Prod.snd).contains k && (k != j)) = true := by
      rw [List.all_eq_true] at hpq ⊢
      intro k hk
      have h1 := hpq k hk
      rw [Bool.and_eq_true] at h1 ⊢
      refine ⟨?_, h1.2⟩
      have h2 := h1.1
      simp only [Bool.not_eq_true', List.contains_eq_mem, decide_eq_false_iff_not] at h2 ⊢
      exact fun hc => h2 (hq k hc)
    show wpZ P ops C M Q j ((cntS (stripN r) + 1 + p.length) + 1) L (i :: (stripN r).map Prod.snd) D a
    rw [show (cntS (stripN r) + 1 + p.length) + 1 = (cntS (stripN r) + 1 + 1) + p.length by omega]
    refine wpZ_path hs hA hM (m := cntS (stripN r) + 1 + 1) p L a hcl hpall hp (fun a' ha => ?_) h
    refine ⟨hne, fun k hk => ?_⟩
    have hk' : k ∈ Region.ready .any ops (setP L p) := hk
    rcases hmem k hk' with ⟨rfl, hB', hfl⟩ | rfl
    · refine ⟨hMi, fun o ho => ?_⟩
      rw [h0] at ho
      cases ho
      rw [if_neg hij', qY_head]
      refine ⟨(ha.1 hfl).1, fun V hV => Oper.wp_mono (fun a'' V' h' => ?_) ((ha.1 hfl).2 V hV)⟩
      obtain ⟨D', h1, h2, h3⟩ := h'
      exact ⟨D', h1, h2, wpZ_segs hs hA hM qs hoj r _ D' a'' (hcl2.set hk') (fun x hx => hq x (by simp only [List.map_cons]; exact List.mem_cons_of_mem _ hx)) hB' h3⟩
    · refine ⟨hMj, fun o ho => ?_⟩
      rw [hoj] at ho
      cases ho
      rw [if_pos rfl]
      refine ⟨ha.2.1, fun V hV => Oper.wp_mono (fun a'' V' h' => ?_) (ha.2.2 V hV)⟩
      obtain ⟨D', h1, h2, h3⟩ := h'
      have := wpY_segs (P := P) (C := C) hs hA hM (Q := Q) qs (([], i) :: stripN r) _ D' a'' (hcl2.set hk') (fun x hx => hq x hx) hBM (by rw [hpk0]; exact h3)
      exact ⟨D', h1, h2, this⟩
def tailG (ops : Array Oper) (segs : List (List Nat × Nat × Bool)) (j : Nat) : Bool :=
  Region.noSelect ops && aheadB ops (Array.replicate ops.size true) && segT ops (Array.replicate ops.size true) ((stripN segs).map Prod.snd) j (Array.replicate ops.size false) segs && (cntS (stripN segs) + 1 == ops.size)
theorem wpAny_segs {Q : Exit → Act → World → Prop} {D : World → Prop} {a : Act} {w : World} (segs : List (List Nat × Nat × Bool)) (j : Nat) {oj : Oper} (hoj : ops[j]? = some oj) (hB : tailG ops segs j = true) (hD : Abides C D) (hw : D w)
    (h : wpG P ops C (fun D' a'' => ∀ V, D' V → Q .normal a'' V) oj (pickG ops segs) D a) : wpAny P .any ops Q ops.size (Array.replicate ops.size false) a w := by
  simp only [tailG, Bool.and_eq_true] at hB
  obtain ⟨⟨⟨hs, hA⟩, hf⟩, hn⟩ := hB
  have h1 := wpZ_segs (P := P) (C := C) (M := Array.replicate ops.size true) hs hA (by simp) (Q := fun D' a => ∀ V, D' V → Q .normal a V) ((stripN segs).map Prod.snd) hoj segs (Array.replicate ops.size false) D a cl_none (fun x hx => hx) hf h
  have hready : Region.ready .any ops (Array.replicate ops.size true) = [] := by
    rw [List.eq_nil_iff_forall_not_mem]
    intro i hi
    obtain ⟨hu, o, ho, _⟩ := mem_ready.1 hi
    have hlt : i < ops.size := (Array.getElem?_eq_some_iff.1 ho).1
    simp [hlt] at hu
  have := wpAny_of_Z (n := 0) (Q' := Q) (fun D' a' w' _ hw' h' => ⟨hready, h' w' hw'⟩) _ _ _ _ a w hD hw h1
  rw [show 0 + (cntS (stripN segs) + 1) = ops.size by rw [Nat.zero_add]; simpa using hn] at this
  exact this
end segs
section segsHp
variable {ops : Array Oper} {w0 W : World} {l lC : List En} {Q : Exit → Act → World → Prop} {a : Act}
theorem wp_segs_Hp {id : Nat} (segs : List (List Nat × Nat × Bool)) (j : Nat) (lC : List En) {oj : Oper} (hoj : ops[j]? = some oj) (hB : tailG ops segs j = true) (HH : Hp w0 W l) (hsub : ∀ V, Hp w0 V l → Hp w0 V lC)
    (h : wpG Tryz.prog ops (fun V => Hp w0 V lC) (fun D' a'' => ∀ V, D' V → Q .normal a'' V) oj (pickG ops segs) (fun V => Hp w0 V l) a) : (Code.region id ops true).wp Tryz.prog Q a W :=
  wp_region_any (by kernel_rfl) (wpAny_segs segs j hoj hB (Hp.abidesC hsub) HH.drew h)
def stepG (ops : Array Oper) (C : World → Prop) (Q : (World → Prop) → Act → Prop) (o2 : Oper) (r : List (List Oper × Oper × Bool)) : Exit → Act → World → Prop := fun e a' V' => e = .normal ∧ ∃ D', Abides C D' ∧ D' V' ∧ wpG Tryz.prog ops C Q o2 r D' a'
def stepH (ops : Array Oper) (C : World → Prop) (Q : (World → Prop) → Act → Prop) (r : List (List Oper × Oper)) : Exit → Act → World → Prop := fun e a' V' => e = .normal ∧ ∃ D', Abides C D' ∧ D' V' ∧ wpH Tryz.prog ops C Q r D' a'
/-- The writing operation o, or the one beside it. -/
def effG (ops : Array Oper) (C : World → Prop) (Q : (World → Prop) → Act → Prop) (o2 o : Oper) (fl : Bool) (r : List (List Oper × Oper × Bool)) (D : World → Prop) (a : Act) : Prop :=
  (fl = true → Region.wanted o (yielded ops a.tmps) = true ∧ ∀ V, D V → o.wp Tryz.prog a V (fun a'' V' => ∃ D', Abides C D' ∧ D' V' ∧ wpG Tryz.prog ops C Q o2 r D' a'') noQ) ∧
      (Region.wanted o2 (yielded ops a.tmps) = true ∧ ∀ V, D V → o2.wp Tryz.prog a V (fun a'' V' => ∃ D', Abides C D' ∧ D' V' ∧ wpH Tryz.prog ops C Q (([], o) :: unf r) D' a'') noQ)
def effH (ops : Array Oper) (C : World → Prop) (Q : (World → Prop) → Act → Prop) (o : Oper) (r : List (List Oper × Oper)) (D : World → Prop) (a : Act) : Prop :=
  Region.wanted o (yielded ops a.tmps) = true ∧ ∀ V, D V → o.wp Tryz.prog a V (fun a'' V' => ∃ D', Abides C D' ∧ D' V' ∧ wpH Tryz.prog ops C Q r D' a'') noQ
variable {C : World → Prop} {QS : (World → Prop) → Act → Prop} {o o2 : Oper} {p : List Oper} {rG : List (List Oper × Oper × Bool)} {fl : Bool} {r : List (List Oper × Oper)}
theorem wpG_seg {D : World → Prop} (h : wpB Tryz.prog ops C (effG ops C QS o2 o fl rG D) p a) : wpG Tryz.prog ops C QS o2 ((p, o, fl) :: rG) D a := h
theorem wpH_seg {D : World → Prop} (h : wpB Tryz.prog ops C (effH ops C QS o r D) p a) : wpH Tryz.prog ops C QS ((p, o) :: r) D a := h
theorem effG_step (hw : Region.wanted o (yielded ops a.tmps) = true) (hw2 : Region.wanted o2 (yielded ops a.tmps) = true) (h : ∀ W, Hp w0 W l → wpList Tryz.prog ops (stepG ops C QS o2 rG) [o] a W) (h2 : ∀ W, Hp w0 W l → wpList Tryz.prog ops (stepH ops C QS (([], o) :: unf rG)) [o2] a W) : effG ops C QS o2 o true rG (fun V => Hp w0 V l) a :=
  ⟨fun _ => ⟨hw, fun V hV => one_wp hw (h V hV)⟩, hw2, fun V hV => one_wp hw2 (h2 V hV)⟩
theorem effG_only (hw2 : Region.wanted o2 (yielded ops a.tmps) = true) (h2 : ∀ W, Hp w0 W l → wpList Tryz.prog ops (stepH ops C QS (([], o) :: unf rG)) [o2] a W) : effG ops C QS o2 o false rG (fun V => Hp w0 V l) a :=
  ⟨fun h => (by cases h), hw2, fun V hV => one_wp hw2 (h2 V hV)⟩
theorem effH_step (hw : Region.wanted o (yielded ops a.tmps) = true) (h : ∀ W, Hp w0 W l → wpList Tryz.prog ops (stepH ops C QS r) [o] a W) : effH ops C QS o r (fun V => Hp w0 V l) a :=
  ⟨hw, fun V hV => one_wp hw (h V hV)⟩
theorem wpG_last (hw2 : Region.wanted o2 (yielded ops a.tmps) = true) (h2 : ∀ W, Hp w0 W l → wpList Tryz.prog ops (stepE ops C QS) [o2] a W) : wpG Tryz.prog ops C QS o2 [] (fun V => Hp w0 V l) a :=
  ⟨hw2, fun V hV => one_wp hw2 (h2 V hV)⟩
theorem wpH_nil (h : QS (fun V => Hp w0 V l) a) : wpH Tryz.prog ops C QS [] (fun V => Hp w0 V l) a := h
theorem stepG_on (HH : Hp w0 W l) (hsub : ∀ V, Hp w0 V l → C V) (h : wpG Tryz.prog ops C QS o2 rG (fun V => Hp w0 V l) a) : stepG ops C QS o2 rG .normal a W :=
  ⟨rfl, _, ⟨hsub, fun _ _ h hb => h.next hb⟩, HH, h⟩
theorem stepH_on (HH : Hp w0 W l) (hsub : ∀ V, Hp w0 V l → C V) (h : wpH Tryz.prog ops C QS r (fun V => Hp w0 V l) a) : stepH ops C QS r .normal a W :=
  ⟨rfl, _, ⟨hsub, fun _ _ h hb => h.next hb⟩, HH, h⟩
theorem wpGl_on (HH : Hp w0 W l) (hsub : ∀ V, Hp w0 V l → C V) (h : wpG Tryz.prog ops C QS o2 rG (fun V => Hp w0 V l) a) : wpList Tryz.prog ops (stepG ops C QS o2 rG) [] a W := by
  unfold wpList
  exact stepG_on HH hsub h
theorem wpHl_on (HH : Hp w0 W l) (hsub : ∀ V, Hp w0 V l → C V) (h : wpH Tryz.prog ops C QS r (fun V => Hp w0 V l) a) : wpList Tryz.prog ops (stepH ops C QS r) [] a W := by
  unfold wpList
  exact stepH_on HH hsub h
end segsHp
/-! a reader's contract -/
def heapL (V : World) (bs : List Nat) : List En := ((List.range V.heap.size).filter fun k => !bs.contains k).filterMap fun k => (V.heap[k]?).map fun o => ⟨k, o, true⟩
theorem heapL_mem {V : World} {bs : List Nat} {e : En} (h : e ∈ heapL V bs) : V.heap[e.b]? = some e.o ∧ e.b ∉ bs ∧ e.own = true := by
  unfold heapL at h
  obtain ⟨k, hk, he⟩ := List.mem_filterMap.1 h
  cases hq : V.heap[k]? with
  | none => rw [hq] at he; cases he
  | some o =>
    rw [hq] at he
    cases he
    refine ⟨hq, ?_, rfl⟩
    have := (List.mem_filter.1 hk).2
    simpa using this
theorem heapL_has {V : World} {bs : List Nat} {k : Nat} {o : Obj} (h : V.heap[k]? = some o) (hb : k ∉ bs) : (⟨k, o, true⟩ : En) ∈ heapL V bs := by
  unfold heapL
  refine List.mem_filterMap.2 ⟨k, List.mem_filter.2 ⟨List.mem_range.2 (Array.getElem?_eq_some_iff.1 h).1, by simpa using hb⟩, by rw [h]; rfl⟩
theorem fm_map (V : World) : ∀ l : List Nat, (∀ k ∈ l, k < V.heap.size) → (l.filterMap fun k => (V.heap[k]?).map fun o => (⟨k, o, true⟩ : En)).map En.b = l
  | [], _ => rfl
  | k :: r, h => by
    have hk := h k (by simp)
    have h0 : V.heap[k]? = some V.heap[k] := Array.getElem?_eq_getElem hk
    rw [List.filterMap_cons, h0]
    simp only [Option.map_some, List.map_cons]
    rw [fm_map V r (fun x hx => h x (by simp [hx]))]
theorem heapL_nodup (V : World) (bs : List Nat) : ((heapL V bs).map En.b).Nodup := by
  unfold heapL
  rw [fm_map V _ (fun k hk => List.mem_range.1 (List.mem_filter.1 hk).1)]
  exact List.nodup_range.filter _
theorem reader_of {f : FuncId} {args : Array Value} {V : World} {E : List En} {R : Ending → Prop} (hE : Lies V E) (hn : (E.map En.b).Nodup) (hc : ∀ (w0 : World) (l : List En), Hp w0 V (E ++ l) → Calls Tryz.prog f args V fun e w' => R e ∧ Hp w0 w' (E ++ l)) : Calls Tryz.prog f args V fun e w' => R e ∧ Below V.heap.size V w' := by
  have HP : Hp { V with heap := #[] } V (E ++ heapL V (E.map En.b)) := by
    refine ⟨Lies.of fun e he => ?_, ?_, fun e _ _ => Nat.zero_le _, rfl, rfl, rfl, Nat.zero_le _, fun k hk => absurd hk (Nat.not_lt_zero k)⟩
    · rcases List.mem_append.1 he with he | he
      · exact hE.mem e he
      · exact (heapL_mem he).1
    · rw [List.map_append, List.nodup_append]
      refine ⟨hn, heapL_nodup V _, fun x hx y hy hxy => ?_⟩
      obtain ⟨e, he, rfl⟩ := List.mem_map.1 hy
      exact (heapL_mem he).2.1 (by rw [← hxy]; exact hx)
  refine (hc _ _ HP).mono fun e w' ⟨hR, h2⟩ => ⟨hR, h2.os, h2.tape, h2.output, ?_, ?_⟩
  · rcases Nat.eq_zero_or_pos V.heap.size with h0 | h0
    · rw [h0]; exact Nat.zero_le _
    · have hlt : V.heap.size - 1 < V.heap.size := by omega
      have hg : V.heap[V.heap.size - 1]? = some V.heap[V.heap.size - 1] := Array.getElem?_eq_getElem hlt
      have hx : w'.heap[V.heap.size - 1]? = some V.heap[V.heap.size - 1] := by
        by_cases hb : V.heap.size - 1 ∈ E.map En.b
        · obtain ⟨e, he, heb⟩ := List.mem_map.1 hb
          have h3 := h2.lies.mem e (List.mem_append.2 (.inl he))
          have h4 := hE.mem e he
          rw [heb] at h3 h4
          rw [h3, ← h4, hg]
        · exact h2.lies.mem _ (List.mem_append.2 (.inr (heapL_has hg hb)))
      have := (Array.getElem?_eq_some_iff.1 hx).1
      omega
  · intro k hk
    have hg : V.heap[k]? = some V.heap[k] := Array.getElem?_eq_getElem hk
    by_cases hb : k ∈ E.map En.b
    · obtain ⟨e, he, heb⟩ := List.mem_map.1 hb
      have h3 := h2.lies.mem e (List.mem_append.2 (.inl he))
      have h4 := hE.mem e he
      rw [heb] at h3 h4
      rw [h3, ← h4]
    · rw [h2.lies.mem _ (List.mem_append.2 (.inr (heapL_has hg hb))), hg]
end Go.Proofs.YtcbahkfbdlhabaaGreatDoor
