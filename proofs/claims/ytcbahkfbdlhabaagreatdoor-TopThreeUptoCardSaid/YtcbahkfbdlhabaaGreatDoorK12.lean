/- A part of the proof that the law TopThree returns true for all arguments of bulk at most 1048576 (no other condition). Here: grid.All. -/
import Derived.Test.YtcbahkfbdlhabaaGreatDoorK11
import Derived.Test.YtcbahkfbdlhabaaGreatDoorK07
namespace Go.Proofs.YtcbahkfbdlhabaaGreatDoor
set_option linter.unusedVariables false
set_option linter.unusedSimpArgs false
open Go.RowKit
attribute [local go_sem] Oper.semAt_some wide_fn wide_depth Fence.inRound_fn Fence.inRound_depth
attribute [local go_sem] index24_0 index24_1 field34_0 field34_1
attribute [local irreducible] wpList Code.wp wpB

theorem Hp.dropSame {w0 W : World} {e : En} {l : List En} (h : Hp w0 W (e :: l)) (he : w0.heap[e.b]? = some e.o) : Hp w0 W l :=
  ⟨h.lies.2, (List.nodup_cons.1 (by simpa using h.nodup)).2, fun x hx => h.own x (by simp [hx]), h.os, h.tape, h.output, h.size, fun k hk hn => by
    by_cases hb : e.b = k
    · subst hb
      rw [he]
      exact h.lies.1
    · exact h.rest k hk fun x hx hxb => by
        rcases List.mem_cons.1 hx with rfl | hx
        · exact hb hxb
        · exact hn x hx hxb⟩
/-- append of one element to a slice whose row may have lain when the count began. -/
theorem run_append_any {T E k bytes : Nat} {z : Value} (hT : ElT T E k bytes z) {w0 W : World} {l r : List En} {v : Value} {n bn : Nat} {xs ys : List Value} {own : Bool} (ty : TypeId) (hR : SlR E k own v n xs r)
    (hold : ∀ e ∈ r, own = true ∨ w0.heap[e.b]? = some e.o) (HH : Hp w0 W (⟨bn, .cells ys.toArray E (0, 0), true⟩ :: (r ++ l))) (hl : ys.length = k) (h1 : ∀ u ∈ ys, u.oneCell' = true) (hb : (n + 1) * bytes ≤ 70368744177664) (hb2 : n + 1 ≤ 70368744177664) :
    ∃ v' r' V own', (Builtin.append_ #[T, T] ty #[v, .slice (some ⟨bn, 0, none⟩) 1 1]).run Tryz.prog W = .ok v' V ∧ SlR E k own' v' (n + 1) (xs ++ ys) r' ∧ Hp w0 V (r' ++ l) ∧ ∀ e ∈ r', e.own = true ∨ ∃ e' ∈ r, e'.b = e.b := by
  obtain ⟨i, hi, hz, hs, hby⟩ := hT.info
  have hnews : ∀ j u, ys[j]? = some u → W.cell? ((⟨bn, 0, none⟩ : Addr).add j) = some u := fun j u hu => by
    have hr : W.heap[bn]? = some (.cells ys.toArray E (0, 0)) := HH.lies.1
    have hadd : (⟨bn, 0, none⟩ : Addr).add j = ⟨bn, j, none⟩ := by unfold Addr.add; split <;> simp_all
    rw [hadd, cell_of_row W bn j _ _ _ hr]
    simpa using hu
  have hxl := hR.1
  have hxys : (xs ++ ys).length = (n + 1) * k := by rw [List.length_append, hxl, hl, Nat.add_mul, Nat.one_mul]
  have hmax : n + 1 ≤ maxLen := by unfold maxLen; omega
  have hrest : Hp w0 W l := by
    have h0 := HH.drop (e := ⟨bn, .cells ys.toArray E (0, 0), true⟩) rfl
    rcases hR.2 with ⟨_, _, rfl⟩ | ⟨g, cap, js, _, rfl, _⟩
    · exact h0
    · rcases hold _ (List.mem_singleton.2 rfl) with ho | ho
      · exact h0.drop ho
      · exact h0.dropSame ho
  rcases hR.2 with ⟨rfl, rfl, rfl⟩ | ⟨g, cap, js, rfl, rfl, hjs, hnc, hcm⟩
  · have hx0 : xs = [] := List.eq_nil_of_length_eq_zero (by simpa using hxl)
    subst hx0
    have hrun := run_append_nil (P := Tryz.prog) W T ty E i z hT.sl hi hz ⟨bn, 0, none⟩ 1 1 ys (by rw [hs, hl]; simp) hnews (by omega) (by omega) (by rw [hby]; omega)
    have hge := grownCap_ge W 1 0 E
    have hle := grownCap_le_maxLen W 1 0 E hmax
    refine ⟨_, [⟨W.heap.size, .cells (ys ++ (Builtin.zeroCells z.cells (grownCap W 1 0 E - 1)).toList).toArray E (0, 0), true⟩], _, true, hrun, ⟨by simpa using hxys, .inr ⟨_, _, (Builtin.zeroCells z.cells (grownCap W 1 0 E - 1)).toList, rfl, by simp, by rw [zeroCells_len, hT.zs]; exact Nat.le_refl _, hge, hle⟩⟩, ?_, by simp⟩
    have := hrest.drew.alloc (.cells (ys.toArray ++ Builtin.zeroCells z.cells (grownCap W 1 0 E - 1)) E)
    have e : (ys ++ (Builtin.zeroCells z.cells (grownCap W 1 0 E - 1)).toList).toArray = ys.toArray ++ Builtin.zeroCells z.cells (grownCap W 1 0 E - 1) := by simp
    rw [e]
    exact this
  · have hg : W.heap[g]? = some (.cells (xs ++ js).toArray E (0, 0)) := HH.lies.2.1
    by_cases hroom : n + 1 ≤ cap
    · have hjk : k ≤ js.length := by
        calc k = 1 * k := by simp
          _ ≤ (cap - n) * k := Nat.mul_le_mul_right _ (by omega)
          _ ≤ js.length := hjs
      have hrun := run_append_room (P := Tryz.prog) W T ty E i hT.sl hi g n cap (xs ++ js).toArray hg ⟨bn, 0, none⟩ 1 1 ys (by rw [hs, hl]; simp) hnews h1 hroom (by rw [hs, hl]; simp [hxl]; omega)
      refine ⟨_, [⟨g, .cells ((xs ++ ys) ++ js.drop k).toArray E (0, 0), own⟩], _, own, hrun, ⟨hxys, .inr ⟨g, cap, js.drop k, rfl, rfl, ?_, hroom, hcm⟩⟩, ?_, by simp⟩
      · rw [List.length_drop]
        rw [show cap - n = (cap - (n + 1)) + 1 by omega, Nat.add_mul] at hjs
        omega
      · have h2 : Hp w0 W (⟨g, .cells (xs ++ js).toArray E (0, 0), own⟩ :: l) := HH.drop rfl
        have ht := h2.turn 0 rfl (setRow_Turns (new := ((xs ++ js).toArray.toList.take (n * i.size) ++ ys ++ (xs ++ js).toArray.toList.drop (n * i.size + ys.length)).toArray) hg)
        have e : ((xs ++ js).toArray.toList.take (n * i.size) ++ ys ++ (xs ++ js).toArray.toList.drop (n * i.size + ys.length)) = (xs ++ ys) ++ js.drop k := by
          rw [hs, ← hxl, hl]
          simp
        rw [e] at ht ⊢
        exact ht
    · have hncap : n = cap := by omega
      subst hncap
      have holds : ∀ j u, xs[j]? = some u → W.cell? ((⟨g, 0, none⟩ : Addr).add j) = some u := fun j u hu => by
        have hadd : (⟨g, 0, none⟩ : Addr).add j = ⟨g, j, none⟩ := by unfold Addr.add; split <;> simp_all
        have hj : j < xs.length := (List.getElem?_eq_some_iff.1 hu).1
        rw [hadd, cell_of_row W g j _ _ _ hg]
        simpa [List.getElem?_append_left hj] using hu
      have hfit : Builtin.nextslicecap (n + 1) n * i.bytes ≤ 281474976710656 := by
        rw [hby]
        exact growslice_fits (by omega) (by omega)
      have hrun := run_append_grow (P := Tryz.prog) W T ty E i z hT.sl hi hz ⟨g, 0, none⟩ n n xs (by rw [hs]; exact hxl) holds ⟨bn, 0, none⟩ 1 1 ys (by rw [hs, hl]; simp) hnews (by omega) (by have := hmax; unfold maxLen at this; omega) hfit
      have hge := grownCap_ge W (n + 1) n E
      have hle := grownCap_le_maxLen W (n + 1) n E hmax
      refine ⟨_, [⟨W.heap.size, .cells ((xs ++ ys) ++ (Builtin.zeroCells z.cells (grownCap W (n + 1) n E - (n + 1))).toList).toArray E (0, 0), true⟩], _, true, hrun, ⟨hxys, .inr ⟨_, _, (Builtin.zeroCells z.cells (grownCap W (n + 1) n E - (n + 1))).toList, rfl, rfl, by rw [zeroCells_len, hT.zs]; exact Nat.le_refl _, hge, hle⟩⟩, ?_, by simp⟩
      have := hrest.drew.alloc (.cells (xs.toArray ++ ys.toArray ++ Builtin.zeroCells z.cells (grownCap W (n + 1) n E - (n + 1))) E)
      have e : ((xs ++ ys) ++ (Builtin.zeroCells z.cells (grownCap W (n + 1) n E - (n + 1))).toList).toArray = xs.toArray ++ ys.toArray ++ Builtin.zeroCells z.cells (grownCap W (n + 1) n E - (n + 1)) := by simp
      rw [e]
      exact this
theorem wpl_append_any {ops : Array Oper} {rest : List Oper} {o : Oper} {a : Act} {Q : Exit → Act → World → Prop} {T E k bytes : Nat} {z : Value} (hT : ElT T E k bytes z) {w0 W : World} {l r : List En} {v : Value} {n bn : Nat} {xs ys : List Value} {own : Bool} {x y : Operand}
    (HH : Hp w0 W (⟨bn, .cells ys.toArray E (0, 0), true⟩ :: (l ++ r))) (hR : SlR E k own v n xs r) (hold : ∀ e ∈ r, own = true ∨ w0.heap[e.b]? = some e.o) (hop : o.op = .call { callee := .builtin .append, args := #[x, y], argTypes := #[T, T] }) (hw : Region.wanted o (yielded ops a.tmps) = true)
    (hx : a.eval x = v) (hy : a.eval y = .slice (some ⟨bn, 0, none⟩) 1 1) (hl : ys.length = k) (h1 : ys.all (·.oneCell') = true) (hb : (n + 1) * bytes ≤ 70368744177664) (hb2 : n + 1 ≤ 70368744177664)
    (h : ∀ v' r' V own', SlR E k own' v' (n + 1) (xs ++ ys) r' → Hp w0 V (l ++ r') → (∀ e ∈ r', e.own = true ∨ ∃ e' ∈ r, e'.b = e.b) → wpList Tryz.prog ops Q rest (a.put o.dst v') V) : wpList Tryz.prog ops Q (o :: rest) a W :=
  wpList_on hw fun K hK => by
    obtain ⟨v', r', V, own', hrun, hR', hV, hb'⟩ := run_append_any hT o.type hR hold (HH.perm (List.Perm.cons _ List.perm_append_comm)) hl (List.all_eq_true.1 h1) hb hb2
    unfold Oper.wp
    simp [execOp, hop, resolve, invoke, builtin, hx, hy, hrun, Result.andThen]
    exact hK _ _ (h _ _ _ _ hR' hV.comm hb')
def En.mine (e : En) : En := ⟨e.b, e.o, true⟩
/-- Two counts, one behind the other. -/
theorem Hp.then {w W V : World} {l l' : List En} (hA : Hp w W l) (ho : ∀ e ∈ l, e.own = true) (hB : Hp W V l') (hm : ∀ e ∈ l', W.heap.size ≤ e.b ∨ ∃ e' ∈ l, e'.b = e.b) : Hp w V (l'.map En.mine) := by
  have hge : ∀ e ∈ l', w.heap.size ≤ e.b := fun e he => by
    rcases hm e he with h | ⟨e', he', hb⟩
    · exact Nat.le_trans hA.size h
    · rw [← hb]
      exact hA.own e' he' (ho e' he')
  refine ⟨Lies.of fun e he => ?_, ?_, fun e he _ => ?_, hB.os.trans hA.os, hB.tape.trans hA.tape, hB.output.trans hA.output, Nat.le_trans hA.size hB.size, fun k hk hn => ?_⟩
  · obtain ⟨x, hx, rfl⟩ := List.mem_map.1 he
    exact hB.lies.mem x hx
  · rw [List.map_map]
    exact hB.nodup
  · obtain ⟨x, hx, rfl⟩ := List.mem_map.1 he
    exact hge x hx
  · rw [hB.rest k (Nat.lt_of_lt_of_le hk hA.size) (fun e he hb => by have := hge e he; omega)]
    exact hA.rest k hk (fun e he hb => by have := hA.own e he (ho e he); omega)
theorem Hp.grown {w W W' : World} {row : Option Nat} {l : List En} (h : Hp w W l) (hc : ∀ e ∈ l, e.o.isCells = true) (hg : W.grownBy W' row) (hr : ∀ r, row = some r → w.heap.size ≤ r ∧ ∃ o : Obj, W.heap[r]? = some o ∧ o.isCells = false) : Hp w W' l := by
  have hne : ∀ e ∈ l, some e.b ≠ row := fun e he hb => by
    obtain ⟨_, o, ho, hf⟩ := hr e.b hb.symm
    rw [h.lies.mem e he] at ho
    cases ho
    rw [hc e he] at hf
    cases hf
  refine ⟨Lies.of fun e he => by rw [hg.block e.b (h.lt e he) (hne e he)]; exact h.lies.mem e he, h.nodup, h.own, hg.os.trans h.os, hg.tape.trans h.tape, hg.output.trans h.output, Nat.le_trans h.size hg.size, fun k hk hn => ?_⟩
  rw [hg.block k (Nat.lt_of_lt_of_le hk h.size) (fun hb => by have := (hr k hb.symm).1; omega)]
  exact h.rest k hk hn
theorem Hp.keeps {W V : World} {l : List En} (B : Nat) (h : Hp W V l) (hc : ∀ e ∈ l, e.own = true ∨ ∃ o : Obj, W.heap[e.b]? = some o ∧ o.isCells = true) : KeepsFrom B W V :=
  ⟨h.size, fun k o _ hk hf => by
    rw [h.rest k (Array.getElem?_eq_some_iff.1 hk).1 (fun e he hb => by
      subst hb
      rcases hc e he with ho | ⟨o', ho', hf'⟩
      · have := h.own e he ho
        have := (Array.getElem?_eq_some_iff.1 hk).1
        omega
      · rw [ho'] at hk
        cases hk
        rw [hf] at hf'
        cases hf')]
    exact hk⟩

theorem wp_region_tail_at {C : World → Prop} {ops : Array Oper} {r : Option Nat} {n id : Nat} {Q : Exit → Act → World → Prop} {a : Act} {w : World} (p q : List Nat) (hq : ¬ LetsOut Q) (hd : ops.all noDefer = true) (hB : tailB ops p q = true) (hC : Abides C C) (hw : C w.drew)
    (h : wpB Tryz.prog ops C (fun a' => ∀ V, C V → wpList Tryz.prog ops Q (pick ops q) a' V) (pick ops p) a) : (Code.region id ops true).wpIn (wideAt r) n Tryz.prog Q a w := by
  simp only [tailB, Bool.and_eq_true] at hB
  obtain ⟨⟨⟨⟨⟨hs, hp⟩, hA⟩, hq'⟩, hn⟩, hz⟩ := hB
  refine wpIn_region_any (by kernel_rfl) (wpAnyIn_of_wpAny hq hd _ _ _ _ ?_)
  have hnone : ops[ops.size]? = none := by simp
  have h1 := wpX_path (P := Tryz.prog) (C := C) (val := fun _ => undef) (al := ops.size) (M := maskOf ops.size p) hs hA (by unfold maskOf; rw [size_fold]; simp) (Q := fun _ a => ∀ V, C V → wpList Tryz.prog ops Q (pick ops q) a V) (s := none) (m := 0) p (Array.replicate ops.size false) a cl_none
    (by simpa using hz) hp (fun a ha => ⟨rfl, ha⟩) h
  have := wpAny_of_X (E := fun _ => C) (fun _ => hC) (obj := .cells #[] 0) (fun o ho => by rw [hnone] at ho; cases ho) (fun V hV => hC.next _ _ hV ((Below.refl _ _).alloc (Nat.le_refl _) _)) (n := q.length) (Q' := Q)
    (fun s a w hw h => wpAny_seq q _ a w hq' (h w hw)) _ _ _ a w.drew hw h1
  rw [Nat.zero_add, show q.length + p.length = ops.size by simpa using hn] at this
  exact this
theorem wp_tail_Hp_at {ops : Array Oper} {lp : Nat} {w0 W : World} {l : List En} {n id : Nat} {Q : Exit → Act → World → Prop} {a : Act} (p q : List Nat) (hq : ¬ LetsOut Q) (hd : ops.all noDefer = true) (hB : tailB ops p q = true) (HH : Hp w0 W l)
    (h : wpB Tryz.prog ops (fun V => Hp w0 V l) (fun a' => ∀ V, Hp w0 V l → wpList Tryz.prog ops Q (pick ops q) a' V) (pick ops p) a) : (Code.region id ops true).wpIn (Fence.wide.inRound lp) n Tryz.prog Q a W :=
  wp_region_tail_at (r := some lp) (C := fun V => Hp w0 V l) p q hq hd hB (Hp.abides w0 l) HH.drew h
theorem wpIn_list_round {lp n id : Nat} {ops : Array Oper} {Q : Exit → Act → World → Prop} {a : Act} {w : World} (hq : ¬ LetsOut Q) (hd : ops.toList.all noDefer = true) (h : wpList Tryz.prog ops Q ops.toList a w) : (Code.region id ops false).wpIn (Fence.wide.inRound lp) n Tryz.prog Q a w :=
  wpIn_list_at (r := some lp) hq hd h

set_option maxRecDepth 100000 in
set_option maxHeartbeats 4000000 in
theorem all_bad (s : Sp) (p : Px) (hr : Gives 17 #[s.v, p.v] (.bool false)) (w : World) : Calls Tryz.prog 148 #[s.v, p.v] w fun e w' => e = .returned (.slice none 0 0) ∧ Below w.heap.size w w' := by
  have HR := hr
  clear hr
  have HH := Hp.nil w
  go_enter Tryz.func148, Tryz.ntmps148
  go_wp2_with (first | (go_at_call 17; (with_reducible refine ((HR) _).mono ?_); rintro e V ⟨rfl, hb⟩; replace HH := HH.next hb; clear hb) | ((with_reducible show zX (Op.load _ _)); (first | (refine wpl_load HH 0 rfl rfl rfl rfl rfl ?_; (try simp only [Act.put, zz])) | (refine wpl_load HH 1 rfl rfl rfl rfl rfl ?_; (try simp only [Act.put, zz])))) | ((with_reducible show zW (Op.box _ _)); refine wpl_box HH rfl rfl rfl ?_; clear HH; intro b V HH; simp only [Act.eval, zx, Value.cells, putl, zC, zB] at HH; (try simp only [Act.put, zz])))
  all_goals (go_ret; refine ⟨?_, HH.below rfl⟩; (rfl))

theorem wpList_none {ops : Array Oper} {Q : Exit → Act → World → Prop} {a : Act} {w : World} (h : wpList Tryz.prog ops Q [] a w) : Q .normal a w := by
  unfold wpList at h
  exact h
theorem wp_then {o : Oper} {K : Act → World → Prop} {Q : Exit → Act → World → Prop} {a : Act} {w : World} (h : o.wp Tryz.prog a w K (Exit.then K Q)) : o.wp Tryz.prog a w K Q := by
  unfold Oper.wp at h ⊢
  generalize (execOp a.eval o).run Tryz.prog w = res at h ⊢
  unfold Oper.upon at h ⊢
  split at h
  · exact h
  · exact h
  · exact h
  · exact h.mono fun e w' he => by
      cases e with
      | returned v => exact he
      | panicked c => exact he
      | outgrown => exact he
  · exact h
  · exact h
  · exact h.elim
theorem getD_false {L : List Bool} {i : Nat} (h : L.toArray.getD i true = false) : L[i]? = some false := by
  cases hb : L[i]? with
  | none => simp [hb] at h
  | some b => cases b <;> simp [hb] at h ⊢
theorem getD_false' {L : List Bool} {i : Nat} (h : L[i]? = some false) : L.toArray.getD i true = false := by
  simp [h]
/-- A region walked by an invariant over what is listed: whatever the order. -/
theorem wpAny_inv {ops : Array Oper} {Q : Exit → Act → World → Prop} {A0 : Act} (Inv : Act → List Bool → Act → World → Prop) (hedge : (List.range ops.size).all (fun i => match ops[i]? with | some o => o.after.toList.all (fun e => decide (e.on < i)) | none => true) = true)
    (hstep : ∀ L a w i o, Inv A0 L a w → L.length = ops.size → ops[i]? = some o → L.getD i false = false → (∀ e ∈ o.after, Region.binds .any e = true → L.getD e.on false = true) → wpList Tryz.prog ops (Exit.then (fun a' w' => Inv A0 (L.set i true) a' w') Q) [o] a w)
    (hend : ∀ L a w, Inv A0 L a w → L.length = ops.size → (∀ i, i < ops.size → L.getD i false = true) → Q .normal a w) :
    ∀ (n : Nat) (L : List Bool) (a : Act) (w : World), L.length = ops.size → L.count false = n → Inv A0 L a w → wpAny Tryz.prog .any ops Q n L.toArray a w := by
  have hgetD : ∀ (L : List Bool) i, L.toArray.getD i false = L.getD i false := fun L i => by simp [zK, List.getD_eq_getElem?_getD]
  have hdone : ∀ L : List Bool, L.length = ops.size → Region.ready .any ops L.toArray = [] → ∀ i, i < ops.size → L.getD i false = true := by
    intro L hL hr i
    induction i using Nat.strongRecOn with
    | ind i ih =>
      intro hi
      refine Classical.byContradiction fun hc => ?_
      have ho : ops[i]? = some ops[i] := Array.getElem?_eq_getElem hi
      have hm : i ∈ Region.ready .any ops L.toArray := mem_ready.2 ⟨by
        have : L[i]? = some false := by
          have hlt : i < L.length := by omega
          rw [List.getD_eq_getElem?_getD, List.getElem?_eq_getElem hlt] at hc
          rw [List.getElem?_eq_getElem hlt]
          cases hb : L[i]
          · rfl
          · rw [hb] at hc; exact absurd rfl hc
        exact getD_false' this, ops[i], ho, fun e he hb => by
          rw [hgetD]
          have h1 := List.all_eq_true.1 hedge i (List.mem_range.2 hi)
          rw [ho] at h1
          have h2 := of_decide_eq_true (List.all_eq_true.1 h1 e (by simpa using he))
          exact ih e.on h2 (by omega)⟩
      rw [hr] at hm
      cases hm
  intro n
  induction n with
  | zero =>
    intro L a w hL hc hI
    have hall : ∀ i, i < ops.size → L.getD i false = true := fun i hi => by
      have hlt : i < L.length := by omega
      rw [List.getD_eq_getElem?_getD, List.getElem?_eq_getElem hlt]
      cases hb : L[i]
      · exact absurd (List.getElem_mem hlt) (by rw [hb]; exact List.count_eq_zero.1 hc)
      · rfl
    refine ⟨?_, hend L a w hI hL hall⟩
    cases hr : Region.ready .any ops L.toArray with
    | nil => rfl
    | cons i t =>
      obtain ⟨h1, o, ho, _⟩ := mem_ready.1 (show i ∈ Region.ready .any ops L.toArray by rw [hr]; simp)
      have h2 := hall i (Array.getElem?_eq_some_iff.1 ho).1
      have h3 : L[i]? = some false := getD_false h1
      rw [List.getD_eq_getElem?_getD, h3] at h2
      cases h2
  | succ n ih =>
    intro L a w hL hc hI
    refine ⟨fun hr => hend L a w hI hL (hdone L hL hr), fun i hi => ?_⟩
    obtain ⟨h1, o, ho, hall⟩ := mem_ready.1 hi
    have h3 : L[i]? = some false := getD_false h1
    have h4 : L.getD i false = false := by rw [List.getD_eq_getElem?_getD, h3]; rfl
    have hs := hstep L a w i o hI hL ho h4 (fun e he hb => by rw [← hgetD]; exact hall e he hb)
    have e : L.toArray.setIfInBounds i true = (L.set i true).toArray := by simp
    have hc' : (L.set i true).count false = n := by
      obtain ⟨hlt, hb⟩ := List.getElem?_eq_some_iff.1 h3
      rw [List.count_set (by omega), hb]
      simp
      omega
    rw [e]
    refine wpOp_mono (fun a' w' h' => ih (L.set i true) a' w' (by simpa using hL) hc' h') ?_
    unfold wpOp
    simp only [ho]
    unfold wpList at hs
    split at hs
    · rename_i hw
      rw [if_pos hw]
      rcases hs with hs | hs
      · exact .inl (wp_then (Oper.wp_mono (fun a w h => wpList_none h) hs))
      · exact .inr hs
    · rename_i hw
      rw [if_neg hw]
      exact wpList_none hs
theorem wp_region_inv {id : Nat} {ops : Array Oper} {Q : Exit → Act → World → Prop} {A0 : Act} {w : World} (Inv : Act → List Bool → Act → World → Prop) (hedge : (List.range ops.size).all (fun i => match ops[i]? with | some o => o.after.toList.all (fun e => decide (e.on < i)) | none => true) = true)
    (hstart : Inv A0 (List.replicate ops.size false) A0 w.drew)
    (hstep : ∀ L a w i o, Inv A0 L a w → L.length = ops.size → ops[i]? = some o → L.getD i false = false → (∀ e ∈ o.after, Region.binds .any e = true → L.getD e.on false = true) → wpList Tryz.prog ops (Exit.then (fun a' w' => Inv A0 (L.set i true) a' w') Q) [o] a w)
    (hend : ∀ L a w, Inv A0 L a w → L.length = ops.size → (∀ i, i < ops.size → L.getD i false = true) → Q .normal a w) : (Code.region id ops true).wp Tryz.prog Q A0 w := by
  refine wp_region_any (by kernel_rfl) ?_
  have h := wpAny_inv (Q := Q) (A0 := A0) Inv hedge hstep hend ops.size (List.replicate ops.size false) A0 w.drew (by simp) (by simp) hstart
  simpa using h

theorem fold2 (p1 p2 : Tmp) (x : Int × Int × Int) (t : Array Value) : ((#[p1, p2] : Array Tmp).zip (encW x)).foldl (fun t (p, v) => t.setIfInBounds p v) t = (t.setIfInBounds p1 (.int .i64 x.1)).setIfInBounds p2 (.agg #[.int .i64 x.2.1, .int .i64 x.2.2]) := by
  simp [encW]
theorem range_walk {g : Operand} {p1 p2 : Tmp} {assign body : Code} {Q : Exit → Act → World → Prop} {a : Act} {w : World} (s : Sp) (e0 e1 : Int) (b0 : 0 ≤ e0) (b1 : 0 ≤ e1) (c0 : e0 ≤ 128) (c1 : e1 ≤ 128) (hs : Gives 23 #[s.v] (.bool true)) (ht : Gives 142 #[s.v] (.int .i64 (e0 + e1)))
    (hsp : ∀ h : Nat, h ≤ 256 → Gives 179 #[s.v, .int .i64 (h : Int)] (.tuple #[.int .i64 (spanF e1 h), .int .i64 (spanT e0 h)])) (bs : Nat) (hbs : bs < w.heap.size)
    (hbox : w.heap[bs]? = some (.cells #[.int .i64 s.n, .int .i64 s.d0.k, .int .i64 s.d0.s, .int .i64 s.d0.t, .int .i64 s.d1.k, .int .i64 s.d1.s, .int .i64 s.d1.t] 26 (0, 0)))
    (hg : a.eval g = .func (.func 178) #[] #[.pointer (some ⟨bs, 0, none⟩)]) 
    (I : List (AX e0 e1) → World → Prop) (hI : OwnFrom w.heap.size I) (h0 : I [] w) (Ax : Act → AX e0 e1 → Act → World → Prop) (hAx : ∀ x a', OwnFrom w.heap.size (fun (_ : Unit) W => Ax a x a' W))
    (hassign : ∀ (l : Nat) (pre : List (AX e0 e1)) (x : AX e0 e1) (W : World) (K : Act → World → Prop), I pre W → (∀ a' W', KeepsFrom w.heap.size W W' → KpB bs W W' → I pre W' → Ax a x a' W' → K a' W') →
      assign.wpIn (Fence.wide.inRound l) 3 Tryz.prog (Exit.then K (fun _ _ _ => False)) { tmps := (a.tmps.setIfInBounds p1 (.int .i64 x.1.1)).setIfInBounds p2 (.agg #[.int .i64 x.1.2.1, .int .i64 x.1.2.2]), defers := [] } W)
    (hbody : ∀ (l : Nat) (pre : List (AX e0 e1)) (x : AX e0 e1) (a' : Act) (W : World), I pre W → Ax a x a' W → pre.length < 100000 → body.wpIn (Fence.wide.inRound l) 3 Tryz.prog (ownPostG w.heap.size (KpB bs) I (fun _ _ _ => False) (pre ++ [x]) W) a' W)
    (hdone : ∀ (D : Nat) (xs : List (AX e0 e1)) (W : World), w.heap.size ≤ D → xs.map Subtype.val = wUp e0 e1 ((e0 + e1).toNat + 1) → I xs W → W.heap[D]? = some (.deferred (some [])) → Q .normal { a with defers := { target := .collected D, args := #[] } :: a.defers } W) :
    (Code.rangeFunc g #[p1, p2] assign body).wp Tryz.prog Q a w := by
  refine (wpIn_wide (n := 5)).1 ?_
  refine wpIn_rangeFunc_ownH (F := Fence.wide) (n := 5) (Kp := KpB bs) (encs := fun x : AX e0 e1 => encW x.1) (w0 := w) rfl (by decide) (gf := 178) (lb := #[.pointer (some ⟨bs, 0, none⟩)]) hg trivial (enters_of Tryz.func178 (by kernel_rfl) rfl)
    (walk_stops s e0 e1 b0 b1 c0 c1 hs ht hsp 4 bs w hbs hbox) (fun h k => Eq.trans k h) (fun W l o o' hl ho _ _ => ?_) (Below.refl _ _) (fun x => rfl) I (fun _ _ _ => False) hI (fun _ _ _ _ _ hs _ _ => hs) h0 (Ax a) hAx (fun l pre x W K hi hK => by rw [fold2]; exact hassign l pre x W K hi hK) (fun l pre x a' W _ _ hi hax hl => hbody l pre x a' W hi hax hl) hdone (fun _ _ _ _ _ _ h _ => h.elim)
  exact World.putObj_heap_other (by omega)

instance : Shp 216 true 2 := ⟨fun _ => by kernel_rfl, by kernel_rfl⟩
instance : Zro 216 (.agg #[.slice none 0 0, .slice none 0 0]) := ⟨fun _ => by kernel_rfl⟩
instance : Shp 173 false 1 := ⟨fun _ => by kernel_rfl, by kernel_rfl⟩
instance : Zro 173 (.slice none 0 0) := ⟨fun _ => by kernel_rfl⟩
theorem wpList_empty {ops : Array Oper} {Q : Exit → Act → World → Prop} {a : Act} {w : World} (h : Q .normal a w) : wpList Tryz.prog ops Q [] a w := by
  unfold wpList
  exact h
theorem wpl_enter {ops : Array Oper} {Q : Exit → Act → World → Prop} {rest : List Oper} {o : Oper} {a : Act} {W : World} {f : FuncId} {args : Array Value} {R : Ending → World → Prop} (hw : Region.wanted o (yielded ops a.tmps) = true) (h : (execOp a.eval o).run Tryz.prog W = .ok (.enter f args) W) (hc : Calls Tryz.prog f args W R)
    (hk : ∀ e V, R e V → ∃ v, e = .returned v ∧ wpList Tryz.prog ops Q rest (a.put o.dst v) V) : wpList Tryz.prog ops Q (o :: rest) a W :=
  wpList_on hw fun K hK => by
    unfold Oper.wp
    rw [h]
    refine hc.mono fun e V he => ?_
    obtain ⟨v, rfl, h2⟩ := hk e V he
    exact hK _ _ h2
theorem wpl_valu {ops : Array Oper} {Q : Exit → Act → World → Prop} {rest : List Oper} {o : Oper} {a : Act} {W : World} {v : Value} (hw : Region.wanted o (yielded ops a.tmps) = true) (h : (execOp a.eval o).run Tryz.prog W = .ok (.value v) W) (hk : wpList Tryz.prog ops Q rest (a.put o.dst v) W) : wpList Tryz.prog ops Q (o :: rest) a W :=
  wpList_on hw fun K hK => by
    unfold Oper.wp
    rw [h]
    exact hK _ _ hk
theorem SlR.form {E k n : Nat} {own : Bool} {v : Value} {xs : List Value} {r : List En} (h : SlR E k own v n xs r) : ∃ a c, v = .slice a n c := by
  rcases h.2 with ⟨rfl, rfl, _⟩ | ⟨g, cap, js, rfl, _⟩
  · exact ⟨none, 0, rfl⟩
  · exact ⟨_, _, rfl⟩
/-- Region 3 of All, whatever the order. -/
def InvA (s : Sp) (p : Px) (f0 f1 : Nat → Ky) (m0 m1 : Nat) (w : World) (base : List En) (A0 : Act) (L : List Bool) (a : Act) (V : World) : Prop :=
  ∃ l0 l1 l2 l3 l4 l5 l6 l7 l8 : Bool, L = [l0, l1, l2, l3, l4, l5, l6, l7, l8] ∧ ((!l6 || (l2 && l5)) && ((!l5 || l2) && (!l8 || (l6 && l7)))) = true ∧ ∃ (v0 v1 : Value) (r0 r1 : List En) (b : Nat),
    (l2 = true → SlR 31 5 true v0 m0 (krow f0 m0) r0) ∧ (l5 = true → SlR 31 5 true v1 m1 (krow f1 m1) r1) ∧
    a = (((((((((A0.put (some 13) (if l0 then s.v else undef)).put (some 14) (if l1 then p.v else undef)).put (some 15) (if l2 then v0 else undef)).put (some 16) (if l3 then s.v else undef)).put (some 17) (if l4 then p.v else undef)).put (some 18) (if l5 then v1 else undef)).put (some 19) (if l6 then .agg #[v0, v1] else undef)).put (some 5) (if l7 then .pointer (some ⟨b, 0, none⟩) else undef)).put none undef) ∧
    Hp w V (base ++ ((if l7 then [⟨b, .cells (if l8 then [v0, v1] else [.slice none 0 0, .slice none 0 0]).toArray 216 (0, 0), true⟩] else []) ++ ((if l2 then r0 else []) ++ (if l5 then r1 else []))))

def pcells (q : Px) : List Value := [.int .i64 q.a0, .int .i64 q.a1, .int .i64 q.k0.k, .int .i64 q.k0.l, .int .u64 (q.k0.hi : Int), .int .u64 (q.k0.lo : Int), .string q.k0.p, .int .i64 q.k1.k, .int .i64 q.k1.l, .int .u64 (q.k1.hi : Int), .int .u64 (q.k1.lo : Int), .string q.k1.p]
def prow (l : List Px) : List Value := l.flatMap pcells
theorem prow_snoc (l : List Px) (q : Px) : prow (l ++ [q]) = prow l ++ pcells q := by simp [prow]
theorem prow_len : ∀ l : List Px, (prow l).length = l.length * 12
  | [] => rfl
  | q :: r => by
    show (pcells q ++ prow r).length = _
    rw [List.length_append, prow_len r, List.length_cons]
    show 12 + _ = _
    omega
/-- The prefixes over p among some nodes. -/
def selL (p : Px) (f0 f1 : Nat → Ky) {e0 e1 : Int} (pre : List (AX e0 e1)) : List Px := (pre.filter (fun x => decide (p.a0 ≤ x.1.2.1) && decide (p.a1 ≤ x.1.2.2))).map fun x => ⟨x.1.2.1, x.1.2.2, f0 x.1.2.1.toNat, f1 x.1.2.2.toNat⟩
theorem selL_snoc (p : Px) (f0 f1 : Nat → Ky) {e0 e1 : Int} (pre : List (AX e0 e1)) (x : AX e0 e1) : selL p f0 f1 (pre ++ [x]) = selL p f0 f1 pre ++ if decide (p.a0 ≤ x.1.2.1) && decide (p.a1 ≤ x.1.2.2) then [⟨x.1.2.1, x.1.2.2, f0 x.1.2.1.toNat, f1 x.1.2.2.toNat⟩] else [] := by
  unfold selL
  rw [List.filter_append, List.map_append]
  congr 1
  by_cases h : (decide (p.a0 ≤ x.1.2.1) && decide (p.a1 ≤ x.1.2.2)) = true
  · simp only [List.filter_cons, h, if_true, List.filter_nil, List.map_cons, List.map_nil]
  · simp only [List.filter_cons, h, if_false, List.filter_nil, List.map_nil]
    simp
theorem selL_le (p : Px) (f0 f1 : Nat → Ky) {e0 e1 : Int} (pre : List (AX e0 e1)) : (selL p f0 f1 pre).length ≤ pre.length := by
  unfold selL
  rw [List.length_map]
  exact List.length_filter_le _ _
def En.lend (e : En) : En := ⟨e.b, e.o, false⟩
theorem Hp.rebase {w W : World} {l : List En} (h : Hp w W l) : Hp W W (l.map En.lend) :=
  Hp.start (Lies.of fun e he => by
    obtain ⟨x, hx, rfl⟩ := List.mem_map.1 he
    exact h.lies.mem x hx) (by rw [List.map_map]; exact h.nodup) (by simp [En.lend])
theorem Hp.adding {W : World} {l : List En} (h : Hp W W l) {b : Nat} {o : Obj} (hb : W.heap[b]? = some o) (hl : l.all (fun e => !e.own) = true) (hne : ∀ e ∈ l, e.o ≠ o) : Hp W W (⟨b, o, false⟩ :: l) :=
  Hp.start ⟨hb, h.lies⟩ (List.nodup_cons.2 ⟨fun hm => by
    obtain ⟨e, he, hbe⟩ := List.mem_map.1 hm
    have := h.lies.mem e he
    simp only at hbe
    rw [hbe, hb] at this
    exact hne e he (Option.some.inj this).symm, h.nodup⟩) (by rw [List.all_cons, hl]; rfl)

theorem SlR.isC {E k n : Nat} {own : Bool} {v : Value} {xs : List Value} {r : List En} (h : SlR E k own v n xs r) : ∀ e ∈ r, e.o.isCells = true ∧ ∀ o c T, T ≠ E → o = Obj.cells c T (0, 0) → e.o ≠ o := by
  rcases h.2 with ⟨_, _, rfl⟩ | ⟨g, cap, js, _, rfl, _⟩
  · simp
  · intro e he
    simp only [List.mem_singleton] at he
    subst he
    refine ⟨rfl, fun o c T hT ho he => ?_⟩
    subst ho
    injection he with h1 h2
    exact hT h2.symm
theorem mine_lend {r : List En} (h : ∀ e ∈ r, e.own = true) : (r.map En.lend).map En.mine = r := by
  rw [List.map_map]
  conv => rhs; rw [← List.map_id r]
  refine List.map_congr_left fun e he => ?_
  have := h e he
  cases e
  simp only at this
  subst this
  rfl
def selT (p : Px) (f0 f1 : Nat → Ky) (l : List (Int × Int × Int)) : List Px := (l.filter (fun x => decide (p.a0 ≤ x.2.1) && decide (p.a1 ≤ x.2.2))).map fun x => ⟨x.2.1, x.2.2, f0 x.2.1.toNat, f1 x.2.2.toNat⟩
theorem selL_val (p : Px) (f0 f1 : Nat → Ky) {e0 e1 : Int} (xs : List (AX e0 e1)) : selL p f0 f1 xs = selT p f0 f1 (xs.map Subtype.val) := by
  unfold selL selT
  rw [List.filter_map, List.map_map]
  rfl

theorem Hp.round {w W V : World} {l l' : List En} (HR : Hp w W l) (ho : ∀ e ∈ l, e.own = true) (hc : ∀ e ∈ l, e.o.isCells = true) (HB : Hp W V l') (hm : ∀ e ∈ l', e.own = true ∨ ∃ e' ∈ l, e'.b = e.b) : (∀ B, KeepsFrom B W V) ∧ Hp w V (l'.map En.mine) :=
  ⟨fun B => HB.keeps B fun e he => by
    rcases hm e he with h | ⟨e', he', hb⟩
    · exact .inl h
    · exact .inr ⟨e'.o, by rw [← hb]; exact HR.lies.mem e' he', hc e' he'⟩,
   HR.then ho HB fun e he => by
    rcases hm e he with h | h
    · exact .inl (HB.own e he h)
    · exact .inr h⟩

theorem Hp.same {w W : World} {e : En} {l : List En} (h : Hp w W (e :: l)) (hw : w.heap[e.b]? = some e.o) : Hp w W l :=
  ⟨h.lies.2, (List.nodup_cons.1 (by simpa using h.nodup)).2, fun x hx => h.own x (by simp [hx]), h.os, h.tape, h.output, h.size, fun k hk hn => by
    by_cases hk2 : e.b = k
    · subst hk2
      rw [hw]
      exact h.lies.1
    · exact h.rest k hk fun x hx hb => by
        rcases List.mem_cons.1 hx with rfl | hx
        · exact hk2 hb
        · exact hn x hx hb⟩
theorem SlR.mine {E k n : Nat} {own : Bool} {v : Value} {xs : List Value} {r : List En} (h : SlR E k own v n xs r) : SlR E k true v n xs (r.map En.mine) := by
  refine ⟨h.1, ?_⟩
  rcases h.2 with ⟨h1, h2, rfl⟩ | ⟨g, cap, js, h1, rfl, h2⟩
  · exact .inl ⟨h1, h2, rfl⟩
  · exact .inr ⟨g, cap, js, h1, rfl, h2⟩
theorem SlR.lend {E k n : Nat} {own : Bool} {v : Value} {xs : List Value} {r : List En} (h : SlR E k own v n xs r) : SlR E k false v n xs (r.map En.lend) := by
  refine ⟨h.1, ?_⟩
  rcases h.2 with ⟨h1, h2, rfl⟩ | ⟨g, cap, js, h1, rfl, h2⟩
  · exact .inl ⟨h1, h2, rfl⟩
  · exact .inr ⟨g, cap, js, h1, rfl, h2⟩
theorem krow_get (f : Nat → Ky) (n i : Nat) (js : List Value) (hi : i < n) : rdv true 5 (krow f n ++ js) (i * 5) = some (f i).v := by
  have hs : ∀ n, i < n → ∃ t, krow f n = krow f i ++ (kcells (f i) ++ t) := by
    intro n
    induction n with
    | zero => intro h; omega
    | succ n ih =>
      intro h
      rw [krow_succ]
      rcases Nat.lt_or_ge i n with h' | h'
      · obtain ⟨t, ht⟩ := ih h'
        exact ⟨t ++ kcells (f n), by rw [ht]; simp⟩
      · obtain rfl : i = n := by omega
        exact ⟨[], by simp⟩
  obtain ⟨t, ht⟩ := hs n hi
  show (if true = true then _ else _) = _
  rw [if_pos rfl, ht, List.append_assoc, List.append_assoc]
  rw [List.drop_append_of_le_length (by rw [krow_len]; omega), List.drop_of_length_le (by rw [krow_len]; omega), List.nil_append]
  simp [kcells]
  rw [krow_len]
  omega
set_option maxRecDepth 100000 in
theorem run_idx214 {ρ : Operand → Value} {o : Oper} {x y : Operand} {g n cap p : Nat} (hop : o.op = .indexAddr 214 x y) (hx : ρ x = .slice (some ⟨g, 0, none⟩) n cap) (hy : ρ y = .int .i64 (p : Int)) (hp : p < n) (w : World) : (execOp ρ o).run Tryz.prog w = .ok (.value (.pointer (some ⟨g, p * 5, none⟩))) w := by
  unfold execOp
  simp only [hop, hx, hy]
  have hq : (p : Int) < (n : Int) := by omega
  have hz : ¬ (p : Int) < 0 := by omega
  go_simp
  all_goals (try simp [hp, hq, hz, Addr.add])

set_option maxRecDepth 100000 in
set_option maxHeartbeats 4000000 in
theorem all_walk (s : Sp) (p : Px) (e0 e1 : Int) (b0 : 0 ≤ e0) (b1 : 0 ≤ e1) (c0 : e0 ≤ 128) (c1 : e1 ≤ 128) (hsd : Gives 23 #[s.v] (.bool true)) (htl : Gives 142 #[s.v] (.int .i64 (e0 + e1))) (hspn : ∀ h : Nat, h ≤ 256 → Gives 179 #[s.v, .int .i64 (h : Int)] (.tuple #[.int .i64 (spanF e1 h), .int .i64 (spanT e0 h)])) (hr : Gives 17 #[s.v, p.v] (.bool true)) (f0 : Nat → Ky) (m0 : Nat) (hk0 : GivesS 168 #[s.v, p.v, .int .i64 0] 31 5 (m0 + 1) (krow f0 (m0 + 1))) (f1 : Nat → Ky) (m1 : Nat) (hk1 : GivesS 168 #[s.v, p.v, .int .i64 1] 31 5 (m1 + 1) (krow f1 (m1 + 1))) (hm0 : (m0 : Int) = e0) (hm1 : (m1 : Int) = e1) (w : World) : Calls Tryz.prog 148 #[s.v, p.v] w fun e w' => ∃ v r, e = .returned v ∧ SlR 34 12 true v (selT p f0 f1 (wUp e0 e1 ((e0 + e1).toNat + 1))).length (prow (selT p f0 f1 (wUp e0 e1 ((e0 + e1).toNat + 1)))) r ∧ Hp w w' r := by
  have HR := hr
  have HK0 := hk0
  have HK1 := hk1
  clear hr hk0 hk1
  have HSD := hsd
  have HTL := htl
  have HSP := hspn
  clear hsd htl hspn
  have HH := Hp.nil w
  refine callsIn_wide.1 (callsIn_of_wp_marks (n := 5) Tryz.func148 rfl trivial ?_ rfl)
  simp only [Tryz.ntmps148, List.size_toArray, List.length_cons, List.length_nil, Nat.reduceAdd, Nat.reduceSub, Array.replicate_succ, Array.replicate_zero, List.push_toArray, List.append_toArray, List.nil_append, List.cons_append]
  refine wpIn_wide.2 ?_
  go_wp2_with (first | (go_at_call 17; (with_reducible refine ((HR) _).mono ?_); rintro e V ⟨rfl, hb⟩; replace HH := HH.next hb; clear hb) | ((with_reducible show zX (Op.load _ _)); (first | (refine wpl_load HH 0 rfl rfl rfl rfl rfl ?_; (try simp only [Act.put, zz])) | (refine wpl_load HH 1 rfl rfl rfl rfl rfl ?_; (try simp only [Act.put, zz])))) | ((with_reducible show zW (Op.box _ _)); refine wpl_box HH rfl rfl rfl ?_; clear HH; intro b V HH; simp only [Act.eval, zx, Value.cells, putl, zC, zB] at HH; (try simp only [Act.put, zz])))
  refine wp_region_inv (InvA s p f0 f1 (m0 + 1) (m1 + 1) w (Hp.lst HH)) (by kernel_rfl) ?_ ?_ ?_
  · refine ⟨false, false, false, false, false, false, false, false, false, rfl, rfl, .nilIface, .nilIface, [], [], 0, (by intro h; cases h), (by intro h; cases h), ?_, by simpa using HH.drew⟩
    ((try dsimp only); simp only [List.getElem_toArray, List.getElem_cons_zero, List.getElem_cons_succ, Act.put, zA, zB, zC, if_true, Bool.false_eq_true, if_false])
  · rintro L a V i o ⟨l0, l1, l2, l3, l4, l5, l6, l7, l8, rfl, hd, v0, v1, r0, r1, b', hs0, hs1, ha, HV⟩ hL ho hf hall
    simp only [Act.put, zA, zB, zC] at ha
    subst ha
    have hi : i < 9 := (Array.getElem?_eq_some_iff.1 ho).1
    dsimp only [Hp.lst, List.cons_append, List.nil_append] at HV
    rcases (by omega : i = 0 ∨ i = 1 ∨ i = 2 ∨ i = 3 ∨ i = 4 ∨ i = 5 ∨ i = 6 ∨ i = 7 ∨ i = 8) with rfl | rfl | rfl | rfl | rfl | rfl | rfl | rfl | rfl
    all_goals (injection ho with ho; subst ho)
    · obtain rfl : l0 = false := hf
      refine wpl_load (v := s.v) HV 1 rfl rfl rfl rfl rfl (wpList_empty ?_)
      refine ⟨true, l1, l2, l3, l4, l5, l6, l7, l8, rfl, hd, v0, v1, r0, r1, b', hs0, hs1, ?_, HV⟩
      ((try dsimp only); simp only [List.getElem_toArray, List.getElem_cons_zero, List.getElem_cons_succ, Act.put, zA, zB, zC, if_true, Bool.false_eq_true, if_false])
    · obtain rfl : l1 = false := hf
      refine wpl_load (v := p.v) HV 0 rfl rfl rfl rfl rfl (wpList_empty ?_)
      refine ⟨l0, true, l2, l3, l4, l5, l6, l7, l8, rfl, hd, v0, v1, r0, r1, b', hs0, hs1, ?_, HV⟩
      ((try dsimp only); simp only [List.getElem_toArray, List.getElem_cons_zero, List.getElem_cons_succ, Act.put, zA, zB, zC, if_true, Bool.false_eq_true, if_false])
    · obtain rfl : l2 = false := hf
      obtain rfl : l0 = true := hall ⟨0, .data⟩ (by simp) rfl
      obtain rfl : l1 = true := hall ⟨1, .data⟩ (by simp) rfl
      obtain ⟨rfl, rfl, rfl⟩ : l5 = false ∧ l6 = false ∧ l8 = false := by revert hd; cases l5 <;> cases l6 <;> cases l8 <;> simp
      refine wpl_enter (f := 168) (args := #[s.v, p.v, .int .i64 0]) rfl ?_ (HK0 _) ?_
      · go_simp
        all_goals (try rfl)
      rintro e V2 ⟨v2, r2, rfl, HS2, hh⟩
      replace HV := HV.join hh HS2.own
      clear hh
      refine ⟨v2, rfl, wpList_empty ?_⟩
      refine ⟨true, true, true, l3, l4, false, false, l7, false, rfl, rfl, v2, v1, r2, r1, b', fun _ => HS2, hs1, ?_, ?_⟩
      · ((try dsimp only); simp only [List.getElem_toArray, List.getElem_cons_zero, List.getElem_cons_succ, Act.put, zA, zB, zC, if_true, Bool.false_eq_true, if_false])
      · simp only [if_true, Bool.false_eq_true, if_false, List.append_nil] at HV ⊢
        exact HV.comm
    · obtain rfl : l3 = false := hf
      refine wpl_load (v := s.v) HV 1 rfl rfl rfl rfl rfl (wpList_empty ?_)
      refine ⟨l0, l1, l2, true, l4, l5, l6, l7, l8, rfl, hd, v0, v1, r0, r1, b', hs0, hs1, ?_, HV⟩
      ((try dsimp only); simp only [List.getElem_toArray, List.getElem_cons_zero, List.getElem_cons_succ, Act.put, zA, zB, zC, if_true, Bool.false_eq_true, if_false])
    · obtain rfl : l4 = false := hf
      refine wpl_load (v := p.v) HV 0 rfl rfl rfl rfl rfl (wpList_empty ?_)
      refine ⟨l0, l1, l2, l3, true, l5, l6, l7, l8, rfl, hd, v0, v1, r0, r1, b', hs0, hs1, ?_, HV⟩
      ((try dsimp only); simp only [List.getElem_toArray, List.getElem_cons_zero, List.getElem_cons_succ, Act.put, zA, zB, zC, if_true, Bool.false_eq_true, if_false])
    · obtain rfl : l5 = false := hf
      obtain rfl : l3 = true := hall ⟨3, .data⟩ (by simp) rfl
      obtain rfl : l4 = true := hall ⟨4, .data⟩ (by simp) rfl
      obtain rfl : l2 = true := hall ⟨2, .chain⟩ (by simp) rfl
      obtain ⟨rfl, rfl⟩ : l6 = false ∧ l8 = false := by revert hd; cases l6 <;> cases l8 <;> simp
      refine wpl_enter (f := 168) (args := #[s.v, p.v, .int .i64 1]) rfl ?_ (HK1 _) ?_
      · go_simp
        all_goals (try rfl)
      rintro e V2 ⟨v2, r2, rfl, HS2, hh⟩
      replace HV := HV.join hh HS2.own
      clear hh
      refine ⟨v2, rfl, wpList_empty ?_⟩
      refine ⟨l0, l1, true, true, true, true, false, l7, false, rfl, rfl, v0, v2, r0, r2, b', hs0, fun _ => HS2, ?_, ?_⟩
      · ((try dsimp only); simp only [List.getElem_toArray, List.getElem_cons_zero, List.getElem_cons_succ, Act.put, zA, zB, zC, if_true, Bool.false_eq_true, if_false])
      · simp only [if_true, Bool.false_eq_true, if_false, List.append_nil] at HV ⊢
        have := HV.comm
        simpa only [List.append_assoc, List.cons_append, List.nil_append, Hp.lst] using this
    · obtain rfl : l6 = false := hf
      obtain rfl : l2 = true := hall ⟨2, .data⟩ (by simp) rfl
      obtain rfl : l5 = true := hall ⟨5, .data⟩ (by simp) rfl
      obtain rfl : l8 = false := by revert hd; cases l8 <;> simp
      refine wpl_valu (v := .agg #[v0, v1]) rfl ?_ (wpList_empty ?_)
      · obtain ⟨a0, c0, rfl⟩ := (hs0 rfl).form
        obtain ⟨a1, c1, rfl⟩ := (hs1 rfl).form
        go_simp
        all_goals (try rfl)
      refine ⟨l0, l1, true, l3, l4, true, true, l7, false, rfl, rfl, v0, v1, r0, r1, b', hs0, hs1, ?_, HV⟩
      ((try dsimp only); simp only [List.getElem_toArray, List.getElem_cons_zero, List.getElem_cons_succ, Act.put, zA, zB, zC, if_true, Bool.false_eq_true, if_false])
    · obtain rfl : l7 = false := hf
      obtain rfl : l8 = false := by revert hd; cases l8 <;> simp
      refine wpl_alloc HV rfl rfl ?_
      intro b2 V2 HV2
      refine wpList_empty ?_
      refine ⟨l0, l1, l2, l3, l4, l5, l6, true, false, rfl, by revert hd; cases l6 <;> cases l5 <;> cases l2 <;> simp, v0, v1, r0, r1, b2, hs0, hs1, ?_, ?_⟩
      · ((try dsimp only); simp only [List.getElem_toArray, List.getElem_cons_zero, List.getElem_cons_succ, Act.put, zA, zB, zC, if_true, Bool.false_eq_true, if_false])
      · simp only [if_true, Bool.false_eq_true, if_false, List.nil_append] at HV2 ⊢
        exact HV2.perm (List.perm_middle (l₁ := Hp.lst HH)).symm
    · obtain rfl : l8 = false := hf
      obtain rfl : l7 = true := hall ⟨7, .data⟩ (by simp) rfl
      obtain rfl : l6 = true := hall ⟨6, .data⟩ (by simp) rfl
      obtain ⟨rfl, rfl⟩ : l2 = true ∧ l5 = true := by revert hd; cases l2 <;> cases l5 <;> simp
      obtain ⟨a0, c0, rfl⟩ := (hs0 rfl).form
      obtain ⟨a1, c1, rfl⟩ := (hs1 rfl).form
      refine wpl_store HV 2 rfl rfl rfl rfl rfl rfl rfl rfl ?_
      intro V2 HV2
      refine wpList_empty ?_
      refine ⟨l0, l1, true, l3, l4, true, true, true, true, rfl, rfl, _, _, r0, r1, b', hs0, hs1, ?_, HV2⟩
      ((try dsimp only); simp only [List.getElem_toArray, List.getElem_cons_zero, List.getElem_cons_succ, Act.put, zA, zB, zC, if_true, Bool.false_eq_true, if_false])
  · rintro L a V ⟨l0, l1, l2, l3, l4, l5, l6, l7, l8, rfl, hd, v0, v1, r0, r1, b', hs0, hs1, ha, HV⟩ hL hall
    obtain rfl : l0 = true := hall 0 (by decide)
    obtain rfl : l1 = true := hall 1 (by decide)
    obtain rfl : l2 = true := hall 2 (by decide)
    obtain rfl : l3 = true := hall 3 (by decide)
    obtain rfl : l4 = true := hall 4 (by decide)
    obtain rfl : l5 = true := hall 5 (by decide)
    obtain rfl : l6 = true := hall 6 (by decide)
    obtain rfl : l7 = true := hall 7 (by decide)
    obtain rfl : l8 = true := hall 8 (by decide)
    simp only [Act.put, zA, zB, zC, if_true] at ha
    subst ha
    obtain ⟨g0, cap0, js0, rfl, rfl, q1, q2, q3⟩ := (hs0 rfl).full
    obtain ⟨g1, cap1, js1, rfl, rfl, q4, q5, q6⟩ := (hs1 rfl).full
    have HH := HV
    simp only [Hp.lst, List.cons_append, List.nil_append, if_true] at HH
    clear HV hs0 hs1 hd hall hL
    refine (‹∀ (a : Act) (w : World), Code.wp Tryz.prog _ _ a w → _› : ∀ (a : Act) (w : World), Code.wp Tryz.prog _ _ a w → _) _ _ ?_
    go_wp2_with (first | (go_at_call 169; (with_reducible refine (walk_gives s _).mono ?_); rintro e V ⟨rfl, rfl⟩; replace HH := HH.alloc (.cells #[.int .i64 s.n, .int .i64 s.d0.k, .int .i64 s.d0.s, .int .i64 s.d0.t, .int .i64 s.d1.k, .int .i64 s.d1.s, .int .i64 s.d1.t] 26); (try simp only [Act.put, zz])) | ((with_reducible show zX (Op.load _ _)); (refine wpl_load HH 2 rfl rfl rfl rfl rfl ?_; (try simp only [Act.put, zz]))) | ((with_reducible show zW (Op.alloc _)); refine wpl_alloc HH rfl rfl ?_; clear HH; intro b V HH; simp only [Act.eval, zx, Value.cells, putl, zC, zB] at HH; (try simp only [Act.put, zz])))
    obtain ⟨W0, hW0⟩ : ∃ W0, V.alloc (.cells #[.int .i64 s.n, .int .i64 s.d0.k, .int .i64 s.d0.s, .int .i64 s.d0.t, .int .i64 s.d1.k, .int .i64 s.d1.s, .int .i64 s.d1.t] 26) = W0 := ⟨_, rfl⟩
    have hbs0 : V.heap.size < W0.heap.size := by rw [← hW0]; simp
    rw [hW0] at HH ⊢
    have hwW := HH.size
    clear hW0
    obtain ⟨L0, hL0⟩ : ∃ L0, (Hp.lst HH).eraseIdx 1 = L0 := ⟨_, rfl⟩
    dsimp only [Hp.lst, List.eraseIdx] at hL0
    refine range_walk s e0 e1 b0 b1 c0 c1 HSD HTL HSP V.heap.size hbs0 (HH.get 0 rfl) rfl (fun pre W => ∃ v r, SlR 34 12 true v (selL p f0 f1 pre).length (prow (selL p f0 f1 pre)) r ∧ Hp w W (⟨b, .cells #[v] 173 (0, 0), true⟩ :: (L0 ++ r))) ?_ ?_ (fun A x a' W => ∃ Bx, W.heap[Bx]? = some (.cells #[.int .i64 x.1.2.1, .int .i64 x.1.2.2] 28 (0, 0)) ∧ a' = { tmps := ((A.tmps.setIfInBounds 22 (.int .i64 x.1.1)).setIfInBounds 23 (.agg #[.int .i64 x.1.2.1, .int .i64 x.1.2.2])).setIfInBounds 8 (.pointer (some ⟨Bx, 0, none⟩)), defers := [] }) ?_ ?_ ?_ ?_
    · intro pre A B row hI hg hr
      obtain ⟨v, r, HS, HR⟩ := hI
      refine ⟨v, r, HS, HR.grown (fun e he => ?_) hg (fun k e => ⟨Nat.le_trans HH.size (hr k e).1, (hr k e).2⟩)⟩
      rcases List.mem_cons.1 he with rfl | he
      · rfl
      rcases List.mem_append.1 he with he | he
      · rw [← hL0] at he
        simp only [List.mem_cons, List.not_mem_nil, or_false] at he
        rcases he with rfl | rfl | rfl | rfl | rfl | rfl <;> rfl
      · exact (HS.isC e he).1
    · exact ⟨.slice none 0 0, [], SlR.nil _ _ _, by
        rw [List.append_nil, ← hL0]
        exact HH.perm (List.perm_middle (l₁ := [_]))⟩
    · intro x a' _ A B row hI hg hr
      obtain ⟨Bx, h1, h2⟩ := hI
      refine ⟨Bx, (hg.block Bx (Array.getElem?_eq_some_iff.1 h1).1 (fun e => ?_)).trans h1, h2⟩
      obtain ⟨_, o, ho, hf⟩ := hr Bx e.symm
      rw [h1] at ho
      cases ho
      cases hf
    · intro lp pre x W K hI hK
      obtain ⟨v, r, HS, HR⟩ := hI
      obtain ⟨l, hl⟩ : ∃ l, l = ⟨b, .cells #[v] 173 (0, 0), true⟩ :: (L0 ++ r) := ⟨_, rfl⟩
      have hmem : ⟨V.heap.size, .cells #[.int .i64 s.n, .int .i64 s.d0.k, .int .i64 s.d0.s, .int .i64 s.d0.t, .int .i64 s.d1.k, .int .i64 s.d1.s, .int .i64 s.d1.t] 26 (0, 0), true⟩ ∈ l := by
        rw [hl, ← hL0]
        simp
      have hcl : ∀ e ∈ l, e.own = true ∧ e.o.isCells = true := by
        intro e he
        rw [hl] at he
        rcases List.mem_cons.1 he with rfl | he
        · exact ⟨rfl, rfl⟩
        rcases List.mem_append.1 he with he | he
        · rw [← hL0] at he
          simp only [List.mem_cons, List.not_mem_nil, or_false] at he
          rcases he with rfl | rfl | rfl | rfl | rfl | rfl <;> exact ⟨rfl, rfl⟩
        · exact ⟨HS.own e he, (HS.isC e he).1⟩
      rw [← hl] at HR
      have HB := HR.rebase
      refine wpIn_list_round (by rintro ⟨a, w, h⟩; exact h) rfl ?_
      simp only [zA, zB, zC]
      refine wpl_alloc HB rfl rfl ?_
      intro Bx V2 HH2
      refine wpl_store (v := .agg #[.int .i64 x.1.2.1, .int .i64 x.1.2.2]) HH2 0 rfl rfl rfl rfl rfl rfl rfl rfl ?_
      intro V3 HH3
      refine wpList_empty ?_
      simp only [zB] at HH3
      obtain ⟨k1, k2⟩ := HR.round (fun e he => (hcl e he).1) (fun e he => (hcl e he).2) HH3 (fun e he => by
        rcases List.mem_cons.1 he with rfl | he
        · exact .inl rfl
        · obtain ⟨e', he', rfl⟩ := List.mem_map.1 he
          exact .inr ⟨e', he', rfl⟩)
      rw [List.map_cons, mine_lend (fun e he => (hcl e he).1)] at k2
      refine hK _ _ (k1 _) ((HH3.lies.mem _ (List.mem_cons_of_mem _ (List.mem_map_of_mem hmem))).trans (HR.lies.mem _ hmem).symm) ⟨v, r, HS, by rw [← hl]; exact k2.drop rfl⟩ ⟨Bx, HH3.lies.1, ?_⟩
      simp only [Act.put, zA, zB, zC]
    · intro lp pre x a' W hI hax hlen
      obtain ⟨v, r, HS, HR⟩ := hI
      obtain ⟨Bx, hBx, rfl⟩ := hax
      have hlen2 := selL_le p f0 f1 pre
      have hsel := selL_snoc p f0 f1 pre x
      obtain ⟨⟨P, I, J⟩, hI0, hI1, hJ0, hJ1⟩ := x
      simp only at hI0 hI1 hJ0 hJ1 hBx hsel
      obtain ⟨i, rfl⟩ := Int.eq_ofNat_of_zero_le hI0
      obtain ⟨j, rfl⟩ := Int.eq_ofNat_of_zero_le hJ0
      simp only [Int.toNat_natCast] at hsel
      obtain ⟨l, hl⟩ : ∃ l, l = ⟨b, .cells #[v] 173 (0, 0), true⟩ :: (L0 ++ r) := ⟨_, rfl⟩
      have hmem : ⟨V.heap.size, .cells #[.int .i64 s.n, .int .i64 s.d0.k, .int .i64 s.d0.s, .int .i64 s.d0.t, .int .i64 s.d1.k, .int .i64 s.d1.s, .int .i64 s.d1.t] 26 (0, 0), true⟩ ∈ l := by
        rw [hl, ← hL0]
        simp
      have hcl : ∀ e ∈ l, e.own = true ∧ e.o.isCells = true ∧ e.o ≠ .cells #[.int .i64 i, .int .i64 j] 28 (0, 0) := by
        intro e he
        rw [hl] at he
        rcases List.mem_cons.1 he with rfl | he
        · exact ⟨rfl, rfl, by intro h; injection h with h1 h2; exact absurd h2 (by decide)⟩
        rcases List.mem_append.1 he with he | he
        · rw [← hL0] at he
          simp only [List.mem_cons, List.not_mem_nil, or_false] at he
          rcases he with rfl | rfl | rfl | rfl | rfl | rfl <;> exact ⟨rfl, rfl, by intro h; injection h with h1 h2; exact absurd h2 (by decide)⟩
        · exact ⟨HS.own e he, (HS.isC e he).1, (HS.isC e he).2 _ _ 28 (by decide) rfl⟩
      rw [← hl] at HR
      have HB := HR.rebase.adding hBx (by simp [En.lend]) (fun e he => by
        obtain ⟨e', he', rfl⟩ := List.mem_map.1 he
        exact (hcl e' he').2.2)
      have HSr := HS.lend
      have HOld : ∀ e ∈ r.map En.lend, false = true ∨ W.heap[e.b]? = some e.o := by
        intro e he
        obtain ⟨e', he', rfl⟩ := List.mem_map.1 he
        refine .inr (HR.lies.mem e' ?_)
        rw [hl]
        exact List.mem_cons_of_mem _ (List.mem_append_right _ he')
      have HHL := Lib.hid (And.intro HR hcl)
      clear HR hcl
      have HH1 := Lib.hid HH
      clear HH
      have HH := HB
      rw [hl, ← hL0] at HH
      simp only [List.map_cons, List.map_append, List.map_nil, List.cons_append, List.nil_append, En.lend] at HH
      change Hp W W (_ :: _ :: _ :: _ :: _ :: _ :: _ :: _ :: r.map En.lend) at HH
      simp only [zA, zB, zC]
      refine wpIn_block ?_
      refine wpIn_seq ?_
      refine wpIn_list_round (by rintro ⟨a, w, h⟩; exact h) rfl ?_
      (with_reducible change wpList _ _ _ (_ :: _) _ _)
      have hBx2 := hBx
      clear hBx
      have hBx2 := Lib.hid hBx2
      go_wp2_with (first | ((with_reducible show zX (Op.load _ _)); (first | (refine wpl_load HH 0 rfl rfl rfl rfl rfl ?_; (try simp only [Act.put, zz])) | (refine wpl_load HH 3 rfl rfl rfl rfl rfl ?_; (try simp only [Act.put, zz])))) | ((with_reducible show zX (Op.binOp _ _ _ _ _)); (refine wpl_cmp (p := ?_) rfl rfl rfl ?_ ?_ ?_; rotate_left; (focus (go_simp; with_reducible rfl)); all_goals (intro hq; (try (fail)); (try simp only [zw] at hq); (try simp only [Act.put, zz])))) | ((with_reducible show zY (Op.load _ _)); (first | (refine wpl_load HH 0 rfl rfl rfl (by simp only [Region.wanted, yielded, zy, Option.bind_some]; decide) rfl ?_; (try simp only [Act.put, zz])) | (refine wpl_load HH 3 rfl rfl rfl (by simp only [Region.wanted, yielded, zy, Option.bind_some]; decide) rfl ?_; (try simp only [Act.put, zz])))) | ((with_reducible show zY (Op.binOp _ _ _ _ _)); (refine wpl_cmp (p := ?_) rfl rfl (by simp only [Region.wanted, yielded, zy, Option.bind_some]; decide) ?_ ?_ ?_; rotate_left; (focus (go_simp; with_reducible rfl)); all_goals (intro hq; (try (fail)); (try simp only [zw] at hq); (try simp only [Act.put, zz])))))
      all_goals (gi_wp2_with ((with_reducible show Code.wpIn _ _ _ (Code.region _ _ true) _ _ _); (refine wp_float_Hp_at (id := 8) [0, 1, 2, 3, 4, 5, 6, 7, 8, 9, 10, 11, 12, 13, 14, 15] [16] [17, 18] _ (by rintro ⟨a, w, h⟩; exact h) (by kernel_rfl) (by kernel_rfl) HH (by (exact fun V h => h)) ?_; clear HH; (try dsimp only); (try simp only [pick, zy]); repeat' (first | ((with_reducible show wpB _ _ _ _ [] _); refine wpB_nil ?_; (try simp only [pick, zy]); (try simp only [Act.put, zz])) | (((with_reducible show zU _); (first | ((with_reducible show zT (Op.indexAddr 214 _ _)); first | refine wpB_val rfl (fun w9 _ => run_idx214 (p := i) rfl rfl rfl (by omega) w9) ?_ | refine wpB_val rfl (fun w9 _ => run_idx214 (p := j) rfl rfl rfl (by omega) w9) ?_) | ((with_reducible show zT (Op.load 31 _)); first | refine wpB_load 6 rfl rfl rfl rfl (krow_get f0 _ i _ (by omega)) ?_ | refine wpB_load 7 rfl rfl rfl rfl (krow_get f1 _ j _ (by omega)) ?_) | ((with_reducible show zT (Op.load _ _)); (first | refine wpB_load 0 rfl rfl rfl rfl rfl ?_ | refine wpB_load 1 rfl rfl rfl rfl rfl ?_ | refine wpB_load 5 rfl rfl rfl rfl rfl ?_)) | (refine wpB_val (v := ?_) rfl ?_ ?_; rotate_left; (focus (intro w9 hS9; go_simp; all_goals (with_reducible rfl)))))); all_goals (try simp only [Act.put, zz, Act.eval, zx]))))))
      all_goals (try go_wp2_with (first | ((with_reducible show zW (Op.buildSlice 173 _ _)); refine wpl_bs173 HH rfl rfl rfl ?_; clear HH; intro b2 V HH; (try simp only [Act.put, zz])) | (at_builtin; refine wpl_append_any elt173 (l := [_, _, _, _, _, _, _, _]) HH HSr HOld rfl rfl rfl rfl rfl rfl (by omega) (by omega) ?_; clear HH; intro v2 r2 V own2 HS2 HH hmb; obtain ⟨a9, c9, rfl⟩ := HS2.form; (try simp only [List.cons_append, List.nil_append] at HH); (try simp only [Act.put, zz])) | ((with_reducible show stepQ _ _ _ _ _ _ _); refine stepQ_on HH (by (exact fun V h => h.drop rfl)) ?_; clear HH) | ((with_reducible show wpS _ _ _ _ (_ :: _) _ _); refine wpS_step rfl (fun V HH => ?_)) | ((with_reducible show wpS _ _ _ _ _ _ _); refine wpS_nil ?_; intro V HH; (try dsimp only at HH); (try simp only [pick, zy]); (try simp only [Act.put, zz])) | ((with_reducible show zW (Op.store _ _ _)); (refine wpl_store HH 1 rfl rfl rfl rfl rfl rfl rfl rfl ?_; clear HH; intro V HH; simp only [Act.eval, zx, Value.cells, putl, zC, zB] at HH; (try simp only [Act.put, zz])))))
      · obtain ⟨HR, hcl⟩ := HHL.out
        have HX := HH.same hBx2.out
        rw [hl, ← hL0] at HR hcl
        obtain ⟨k1, k2⟩ := HR.round (fun e he => (hcl e he).1) (fun e he => (hcl e he).2.1) HX (fun e he => by
          simp only [List.mem_cons] at he
          rcases he with rfl | rfl | rfl | rfl | rfl | rfl | rfl | he
          iterate 7 exact .inr (by first | exact ⟨_, List.mem_of_getElem? (i := 0) rfl, rfl⟩ | exact ⟨_, List.mem_of_getElem? (i := 1) rfl, rfl⟩ | exact ⟨_, List.mem_of_getElem? (i := 2) rfl, rfl⟩ | exact ⟨_, List.mem_of_getElem? (i := 3) rfl, rfl⟩ | exact ⟨_, List.mem_of_getElem? (i := 4) rfl, rfl⟩ | exact ⟨_, List.mem_of_getElem? (i := 5) rfl, rfl⟩ | exact ⟨_, List.mem_of_getElem? (i := 6) rfl, rfl⟩)
          rcases hmb e he with h | ⟨e', he', hb⟩
          · exact .inl h
          · obtain ⟨e2, he2, rfl⟩ := List.mem_map.1 he'
            exact .inr ⟨e2, by simp only [List.mem_cons, List.cons_append, List.nil_append]; simp [he2], hb⟩)
        refine ⟨k1 _, ?_, ?_⟩
        · exact (HX.get 1 rfl).trans (HR.get 1 rfl).symm
        · refine ⟨.slice a9 ((selL p f0 f1 pre).length + 1) c9, r2.map En.mine, ?_, ?_⟩
          rotate_left
          · rw [← hL0]
            exact k2
          · rw [hsel]
            simp only [hq, *, decide_true, Bool.and_self, if_true]
            rw [List.length_append, prow_snoc]
            exact HS2.mine
      all_goals
        obtain ⟨HR, hcl⟩ := HHL.out
        refine ⟨KeepsFrom.refl _ _, rfl, v, r, ?_, by rw [← hl]; exact HR⟩
        have hno : (decide (p.a0 ≤ (i : Int)) && decide (p.a1 ≤ (j : Int))) = false := by
          simp only [Bool.and_eq_false_iff, decide_eq_false_iff_not]
          omega
        rw [hsel, hno]
        simpa using HS
    · intro D xs W hD hxs hI hK
      obtain ⟨v, r, HS, HR⟩ := hI
      have hsel : selL p f0 f1 xs = selT p f0 f1 (wUp e0 e1 ((e0 + e1).toNat + 1)) := by rw [selL_val, hxs]
      rw [hsel] at HS
      obtain ⟨a9, c9, rfl⟩ := HS.form
      have HL := Lib.hid HR
      clear HR
      have HR := HL.out
      rw [← hL0] at HR
      clear HH
      have HH := HR
      simp only [List.cons_append, List.nil_append] at HH
      go_wp2_with ((with_reducible show zX (Op.load _ _)); (refine wpl_load HH 0 rfl rfl rfl rfl rfl ?_; (try simp only [Act.put, zz])))
      refine ⟨by simp, .inl ⟨_, _, rfl, run_takeDeferred hK, ?_⟩⟩
      have HG := HH.grown (row := some D) (fun e he => by
        simp only [List.mem_cons] at he
        rcases he with rfl | rfl | rfl | rfl | rfl | rfl | rfl | he
        iterate 7 rfl
        exact (HS.isC e he).1) (grownBy_putObj' W D (.deferred none)) (fun k e => by
        cases e
        exact ⟨Nat.le_trans hwW hD, _, hK, rfl⟩)
      refine ⟨.slice a9 (selT p f0 f1 (wUp e0 e1 ((e0 + e1).toNat + 1))).length c9, by simp [results, Tryz.f148], _, r, rfl, HS, ?_⟩
      exact ((((((HG.drop rfl).drop rfl).drop rfl).drop rfl).drop rfl).drop rfl).drop rfl

/-- The nodes over a prefix, in the order of grid.All. -/
def allD (ok : ByteArray → Bool) (len : ByteArray → Int) (top : ByteArray → Int → ByteArray) (s : Sp) (p : Px) : List Px :=
  if rightB ok len s p then selT p (fun j => dimCutK ok len top s.d0 j p.k0) (fun j => dimCutK ok len top s.d1 j p.k1) (wUp (topX s).a0 (topX s).a1 (((topX s).a0 + (topX s).a1).toNat + 1)) else []
theorem all_gives {ok : ByteArray → Bool} {len : ByteArray → Int} {top : ByteArray → Int → ByteArray} (L : LabelFns ok len top) (s : Sp) (p : Px) (hp : p.ok) : GivesS 148 #[s.v, p.v] 34 12 (allD ok len top s p).length (prow (allD ok len top s p)) := fun w => by
  have hr := right_gives L s p hp
  unfold allD
  by_cases h : rightB ok len s p = true
  · rw [h] at hr
    rw [if_pos h]
    have hsd : soundB s = true := by
      unfold rightB at h
      simp only [Bool.and_eq_true] at h
      exact h.1
    have hsg := sound_gives s
    rw [hsd] at hsg
    obtain ⟨⟨b0, c0⟩, ⟨b1, c1⟩⟩ := top_bounds s
    have t0 : (topX s).a0 = s.d0.depth := by unfold topX; rw [if_pos hsd]
    have t1 : (topX s).a1 = s.d1.depth := by unfold topX; rw [if_pos hsd]
    have hte := tall_gives s
    have hes := ends_gives s
    have k0 := fun w => keys0_walk s.n s.d0.k s.d0.s s.d0.t s.d1.k s.d1.s s.d1.t p.a0 p.a1 p.k0.k p.k0.l p.k1.k p.k1.l p.k0.hi p.k0.lo p.k1.hi p.k1.lo p.k0.p p.k1.p s.d0.depth (s.d0.depth.toNat + 1) (fun j => dimCutK ok len top s.d0 j p.k0) (depth_gives _ _ _) (by omega) (by omega) (fun j => dimCut_gives L s.d0 p.k0 hp.1 j) w
    have k1 := fun w => keys1_walk s.n s.d0.k s.d0.s s.d0.t s.d1.k s.d1.s s.d1.t p.a0 p.a1 p.k0.k p.k0.l p.k1.k p.k1.l p.k0.hi p.k0.lo p.k1.hi p.k1.lo p.k0.p p.k1.p s.d1.depth (s.d1.depth.toNat + 1) (fun j => dimCutK ok len top s.d1 j p.k1) (depth_gives _ _ _) (by omega) (by omega) (fun j => dimCut_gives L s.d1 p.k1 hp.2 j) w
    generalize (topX s).a0 = e0 at *
    generalize (topX s).a1 = e1 at *
    exact all_walk s p e0 e1 b0 b1 c0 c1 hsg hte (fun h hh => span_walk s.n s.d0.k s.d0.s s.d0.t s.d1.k s.d1.s s.d1.t h e0 e1 hes b0 b1 c0 c1 (by omega) (by omega)) hr _ s.d0.depth.toNat k0 _ s.d1.depth.toNat k1 (by omega) (by omega) w
  · rw [Bool.not_eq_true] at h
    rw [h] at hr
    rw [h]
    exact (all_bad s p hr w).mono fun e w' hh => by
      obtain ⟨rfl, hb⟩ := hh
      exact ⟨_, [], rfl, SlR.nil _ _ _, (Hp.nil w).next hb⟩

end Go.Proofs.YtcbahkfbdlhabaaGreatDoor
