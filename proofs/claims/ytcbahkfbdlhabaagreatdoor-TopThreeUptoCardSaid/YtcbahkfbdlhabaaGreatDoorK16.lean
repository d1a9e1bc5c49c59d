/- A part of the proof that the law TopThree returns true for all arguments of bulk at most 1048576 (no other condition). Here: Rows of nodes; slices of rows; map entries; trie.New. A class of worlds that also keeps count of the draws: the orders of prefixes, for a sorting. -/
import Derived.Test.YtcbahkfbdlhabaaGreatDoorK15
import Derived.Shelf.SlSortCmp.WholeK
namespace Go.Proofs.YtcbahkfbdlhabaaGreatDoor
set_option linter.unusedVariables false
set_option linter.unusedSimpArgs false
open Go.RowKit
attribute [local go_sem] index24_0 index24_1 field34_0 field34_1
attribute [local irreducible] wpList Code.wp wpB

/-- A row of nodes. -/
def ncells (x : Nd) : List Value := pcells x.p ++ [.int .u64 (x.g : Int), .int .u64 (x.d : Int)]
def nrow (l : List Nd) : List Value := l.flatMap ncells
theorem nrow_snoc (l : List Nd) (q : Nd) : nrow (l ++ [q]) = nrow l ++ ncells q := by simp [nrow]
theorem nrow_len : ∀ l : List Nd, (nrow l).length = l.length * 14
  | [] => rfl
  | x :: r => by
    have := nrow_len r
    show (ncells x ++ nrow r).length = _
    rw [List.length_append, this, List.length_cons]
    show 14 + _ = _
    omega
theorem nrow_at (L : List Nd) (i : Nat) (js : List Value) (hi : i < L.length) : ∃ a b, nrow L ++ js = a ++ (ncells L[i] ++ b) ∧ a.length = i * 14 := by
  refine ⟨nrow (L.take i), nrow (L.drop (i + 1)) ++ js, ?_, by rw [nrow_len, List.length_take, Nat.min_eq_left (by omega)]⟩
  have h9 : L = L.take i ++ L[i] :: L.drop (i + 1) := by rw [← List.drop_eq_getElem_cons hi, List.take_append_drop]
  have h8 : ∀ L', L' = L.take i ++ L[i] :: L.drop (i + 1) → nrow L' ++ js = nrow (L.take i) ++ (ncells L[i] ++ (nrow (L.drop (i + 1)) ++ js)) := by
    rintro _ rfl
    unfold nrow
    rw [List.flatMap_append, List.flatMap_cons]
    simp
  exact h8 L h9
theorem rdv_mid (a m b : List Value) (n : Nat) (hn : n ≤ m.length) : rdv true n (a ++ (m ++ b)) a.length = some (.agg (m.take n).toArray) := by
  show (if true = true then _ else _) = _
  rw [if_pos rfl, if_pos (by simp <;> omega), List.drop_append_of_le_length (Nat.le_refl _), List.drop_of_length_le (Nat.le_refl _), List.nil_append, List.take_append_of_le_length hn]
theorem nrow_get (L : List Nd) (i : Nat) (js : List Value) (hi : i < L.length) : rdv true 14 (nrow L ++ js) (i * 14) = some (L[i]).v := by
  obtain ⟨a, b, h, ha⟩ := nrow_at L i js hi
  rw [h, ← ha, rdv_mid a (ncells L[i]) b 14 (Nat.le_refl _)]
  rfl
theorem nrow_getP (L : List Nd) (i : Nat) (js : List Value) (hi : i < L.length) : rdv true 12 (nrow L ++ js) (i * 14) = some (L[i]).p.v := by
  obtain ⟨a, b, h, ha⟩ := nrow_at L i js hi
  rw [h, ← ha, rdv_mid a (ncells L[i]) b 12 (by show 12 ≤ 14; omega)]
  rfl
theorem nrow_getD (L : List Nd) (i : Nat) (js : List Value) (hi : i < L.length) : rdv false 1 (nrow L ++ js) (i * 14 + 13) = some (.int .u64 ((L[i]).d : Int)) := by
  obtain ⟨a, b, h, ha⟩ := nrow_at L i js hi
  rw [h, ← ha]
  show (a ++ (ncells L[i] ++ b))[a.length + 13]? = _
  rw [List.getElem?_append_right (by omega), Nat.add_sub_cancel_left, List.getElem?_append_left (by show 13 < 14; omega)]
  rfl
theorem elt167 : ElT 167 176 14 128 (.agg #[.int .i64 0, .int .i64 0, .int .i64 0, .int .i64 0, .int .u64 0, .int .u64 0, .string ⟨#[]⟩, .int .i64 0, .int .i64 0, .int .u64 0, .int .u64 0, .string ⟨#[]⟩, .int .u64 0, .int .u64 0]) :=
  ⟨by kernel_rfl, by
    have h : (Tryz.prog.info? 176).map (fun i => (i.zero, i.size, i.bytes)) = some (some (.agg #[.int .i64 0, .int .i64 0, .int .i64 0, .int .i64 0, .int .u64 0, .int .u64 0, .string ⟨#[]⟩, .int .i64 0, .int .i64 0, .int .u64 0, .int .u64 0, .string ⟨#[]⟩, .int .u64 0, .int .u64 0]), 14, 128) := by kernel_rfl
    exact info_parts h, rfl, by decide⟩
set_option maxRecDepth 100000 in
theorem run_bs167 (x : Nd) (w : World) : (Instr.buildSlice 167 1 #[(0, x.v)]).run Tryz.prog w = .ok (.slice (some ⟨w.heap.size, 0, none⟩) 1 1) (w.alloc (.cells (ncells x).toArray 176)) := by
  simp [go_sem, ncells, pcells]
theorem wpl_bs167 {ops : Array Oper} {rest : List Oper} {o : Oper} {act : Act} {Q : Exit → Act → World → Prop} {w0 W : World} {L : List En} {x : Operand} (HH : Hp w0 W L) (q : Nd) (hop : o.op = .buildSlice 167 1 #[(0, x)]) (hw : Region.wanted o (yielded ops act.tmps) = true) (hx : act.eval x = q.v)
    (hh : ∀ b' V, Hp w0 V (⟨b', .cells (ncells q).toArray 176 (0, 0), true⟩ :: L) → wpList Tryz.prog ops Q rest (act.put o.dst (.slice (some ⟨b', 0, none⟩) 1 1)) V) : wpList Tryz.prog ops Q (o :: rest) act W :=
  wpList_on hw fun K hK => by
    unfold Oper.wp execOp
    simp only [hop, List.map_toArray, List.map_cons, List.map_nil, hx, run_bs167, Sem.run_bind, Sem.run_pure, Result.andThen_ok]
    exact hK _ _ (hh _ _ (HH.alloc _))
set_option maxRecDepth 100000 in
theorem run_idx167 {ρ : Operand → Value} {o : Oper} {x y : Operand} {g n cap p : Nat} (hop : o.op = .indexAddr 167 x y) (hx : ρ x = .slice (some ⟨g, 0, none⟩) n cap) (hy : ρ y = .int .i64 (p : Int)) (hp : p < n) (w : World) : (execOp ρ o).run Tryz.prog w = .ok (.value (.pointer (some ⟨g, p * 14, none⟩))) w := by
  unfold execOp
  simp only [hop, hx, hy]
  have hq : (p : Int) < (n : Int) := by omega
  have hz : ¬ (p : Int) < 0 := by omega
  go_simp
  all_goals (try simp [hp, hq, hz, Addr.add])
set_option maxRecDepth 100000 in
theorem run_idx173o {ρ : Operand → Value} {o : Oper} {x y : Operand} {g d n cap p : Nat} (hop : o.op = .indexAddr 173 x y) (hx : ρ x = .slice (some ⟨g, d, none⟩) n cap) (hy : ρ y = .int .i64 (p : Int)) (hp : p < n) (w : World) : (execOp ρ o).run Tryz.prog w = .ok (.value (.pointer (some ⟨g, d + p * 12, none⟩))) w := by
  unfold execOp
  simp only [hop, hx, hy]
  have hq : (p : Int) < (n : Int) := by omega
  have hz : ¬ (p : Int) < 0 := by omega
  go_simp
  all_goals (try simp [hp, hq, hz, Addr.add])

set_option maxRecDepth 100000 in
theorem run_slice1 {ρ : Operand → Value} {o : Oper} {x y : Operand} {g n cap : Nat} (hop : o.op = .slice 173 x (some y) none none) (hx : ρ x = .slice (some ⟨g, 0, none⟩) n cap) (hy : ρ y = .int .i64 1) (h1 : 1 ≤ n) (h2 : n ≤ cap) : ∃ d, (2 ≤ n → d = 12) ∧ ∀ w, (execOp ρ o).run Tryz.prog w = .ok (.value (.slice (some ⟨g, d, none⟩) (n - 1) (cap - 1))) w := by
  refine ⟨if cap = 1 then 0 else 12, fun h => by rw [if_neg (by omega)], fun w => ?_⟩
  unfold execOp
  simp only [hop, Option.map_some, Option.map_none, hx, hy]
  have hq : (1 : Int) ≤ (n : Int) := by omega
  have hc : (n : Int) ≤ (cap : Int) := by omega
  have h3 : ¬ (cap : Int) < (n : Int) := by omega
  have h4 : ¬ (n : Int) < 1 := by omega
  go_simp
  all_goals (try simp [hq, hc, h1, h2, h3, h4, Addr.add])
  all_goals (try (split <;> simp_all [Addr.add]))

section mapentry
variable {α : Type} {enc : α → Value} {T E : TypeId} {z : Value} {ops : Array Oper} {rest : List Oper} {o : Oper} {a : Act} {Q : Exit → Act → World → Prop} {w0 W : World} {l : List En} {x y u : Operand} {b : Nat} {m : List (Me α)} {c : Nat} {own : Bool}
theorem findIdx_mid (l1 : List MapEntry) (e : MapEntry) (l2 : List MapEntry) (h : ∀ x ∈ l1, x.born ≠ e.born) : (l1 ++ e :: l2).toArray.findIdx? (fun x : MapEntry => ((x.born : Nat) : Int) == ((e.born : Nat) : Int)) = some l1.length := by
  induction l1 with
  | nil => rw [List.findIdx?_toArray, List.nil_append, List.findIdx?_cons]; simp
  | cons x r ih =>
    have h1 := ih fun y hy => h y (by simp [hy])
    have h2 : x.born ≠ e.born := h x (by simp)
    rw [List.findIdx?_toArray] at h1 ⊢
    rw [List.cons_append, List.findIdx?_cons]
    have h3 : (((x.born : Nat) : Int) == ((e.born : Nat) : Int)) = false := by simp; omega
    rw [h3]
    simp [h1]
theorem modify_mid {β : Type} (f : β → β) (l1 : List β) (e : β) (l2 : List β) : (l1 ++ e :: l2).toArray.modify l1.length f = (l1 ++ f e :: l2).toArray := by
  apply Array.ext'
  rw [Array.toList_modify]
  show (l1 ++ e :: l2).modify l1.length f = _
  induction l1 with
  | nil => rfl
  | cons x r ih => simp [ih]
theorem mfind_split : ∀ (m : List (Me α)) (p : Px) (i j : Nat) (u : α), mfind m p i = some (j, u) → ∃ l1 y l2, m = l1 ++ y :: l2 ∧ j = i + l1.length ∧ y.p = p ∧ y.v = u ∧ ∀ v, mset m p v = some (l1 ++ ⟨p, v, y.born⟩ :: l2)
  | [], _, _, _, _, h => by cases h
  | x :: r, p, i, j, u, h => by
    unfold mfind at h
    by_cases hs : p.same x.p = true
    · rw [if_pos hs] at h
      cases h
      exact ⟨[], x, r, rfl, rfl, (Px.same_iff.1 hs).symm, rfl, fun v => by unfold mset; rw [if_pos hs]; rfl⟩
    · rw [if_neg hs] at h
      obtain ⟨l1, y, l2, h1, h2, h3, h4, h5⟩ := mfind_split r p (i + 1) j u h
      refine ⟨x :: l1, y, l2, by rw [h1]; rfl, by simp; omega, h3, h4, fun v => ?_⟩
      unfold mset
      rw [if_neg hs, h5 v]
      rfl
/-- 'm[k]' set out for a store: the entry's stamp; then the store. -/
theorem run_entry34 [hT : MpT T E z] (zz : α) (hz : enc zz = z) {W : World} (hm : MOk m c) (p : Px) (h : W.heap[b]? = some (mp enc m c)) :
    ∃ (v0 : Value) (st : Nat) (m1 : List (Me α)) (c1 : Nat) (V : World), (Instr.mapEntry T (.map (some b)) p.v).run Tryz.prog W = .ok (.tuple #[v0, goInt (st : Int)]) V ∧ Turns W b (mp enc m1 c1) V ∧ ((mget m1 p).map enc).getD z = ((mget m p).map enc).getD z ∧
      ∀ (v : α) (w2 : World), w2.heap[b]? = some (mp enc m1 c1) → ∃ V2, (Instr.entryStore T (.map (some b)) (goInt (st : Int)) (enc v)).run Tryz.prog w2 = .ok () V2 ∧ Turns w2 b (mp enc (mputL m c p v) (mputC m c p)) V2 := by
  have hg := mfind_get m p 0
  cases hf : mfind m p 0 with
  | none =>
    rw [hf] at hg
    obtain ⟨e, t⟩ := set_Turns (l' := m ++ [⟨p, zz, c⟩]) (c' := c + 1) h
    refine ⟨z, c, m ++ [⟨p, zz, c⟩], c + 1, _, ?_, t, ?_, fun v w2 h2 => ?_⟩
    rotate_left
    · have h9 := mget_put m c p p zz
      rw [(mput_none (c := c) (v := zz) hg.symm).1, if_pos rfl] at h9
      rw [h9, ← hg]
      simp [hz]
    rotate_right
    · simp only [Instr.mapEntry, Sem.run_bind, run_underlying hT.ud, Result.andThen_ok, mp_get h, mp, Sem.run_pure, check34, find34, hf, Option.map_none, hT.zr]
      simp only [mp] at e
      have hp : (List.map (Me.e enc) m).toArray.push { key := p.v, val := z, born := c } = (List.map (Me.e enc) (m ++ [⟨p, zz, c⟩])).toArray := by simp [Me.e, hz]
      rw [hp, e]
      rfl
    · obtain ⟨h3, h4⟩ := mput_none (c := c) (v := v) hg.symm
      obtain ⟨e2, t2⟩ := set_Turns (l' := m ++ [⟨p, v, c⟩]) (c' := c + 1) h2
      refine ⟨_, ?_, by rw [h3, h4]; exact t2⟩
      have hi := findIdx_mid (m.map (Me.e enc)) (Me.e enc (⟨p, zz, c⟩ : Me α)) [] (fun x hx => by
        obtain ⟨y, hy, rfl⟩ := List.mem_map.1 hx
        have := hm.lt y hy
        show y.born ≠ c
        omega)
      have hmod := modify_mid (fun e : MapEntry => { e with val := enc v }) (m.map (Me.e enc)) (Me.e enc (⟨p, zz, c⟩ : Me α)) []
      have hA : (m ++ [(⟨p, zz, c⟩ : Me α)]).map (Me.e enc) = m.map (Me.e enc) ++ [Me.e enc (⟨p, zz, c⟩ : Me α)] := by simp
      have hB : ((m ++ [(⟨p, v, c⟩ : Me α)]).map (Me.e enc)) = m.map (Me.e enc) ++ [(⟨p.v, enc v, c⟩ : MapEntry)] := by simp [Me.e]
      simp only [mp] at e2 h2
      rw [hA] at h2
      rw [hB] at e2
      have hg2 : (getObj b).run Tryz.prog w2 = .ok (.map (m.map (Me.e enc) ++ [Me.e enc (⟨p, zz, c⟩ : Me α)]).toArray (c + 1)) w2 := by
        simp [getObj, Sem.run, h2]
      have hb : (Me.e enc (⟨p, zz, c⟩ : Me α)).born = c := rfl
      rw [hb] at hi
      simp only [Instr.entryStore, Sem.run_bind, hg2, Sem.run_pure, Result.andThen_ok, goInt, asInt, asIntOf, hi, hmod]
      have e5 : ({ key := (Me.e enc (⟨p, zz, c⟩ : Me α)).key, val := enc v, born := (Me.e enc (⟨p, zz, c⟩ : Me α)).born } : MapEntry) = ⟨p.v, enc v, c⟩ := rfl
      rw [e5, e2]
      simp only [mp, hB]
  | some x =>
    obtain ⟨j, u⟩ := x
    rw [hf] at hg
    obtain ⟨l1, y, l2, h0, h1, h2, h3, h4⟩ := mfind_split m p 0 j u hf
    rw [Nat.zero_add] at h1
    subst h1
    obtain ⟨e, t⟩ := set_Turns (l' := m) (c' := c) h
    have hj : ((m.map (Me.e enc)).toArray[l1.length]?) = some (Me.e enc y) := by rw [h0]; simp
    have hsame : (m.map (Me.e enc)).toArray.modify l1.length (fun e : MapEntry => { e with key := p.v }) = (m.map (Me.e enc)).toArray := by
      have := modify_mid (fun e : MapEntry => { e with key := p.v }) (l1.map (Me.e enc)) (Me.e enc y) (l2.map (Me.e enc))
      rw [List.length_map] at this
      rw [h0, List.map_append, List.map_cons, this]
      simp [Me.e, h2]
    refine ⟨enc u, y.born, m, c, _, ?_, t, rfl, fun v w2 hw2 => ?_⟩
    · have hk : (Me.e enc y).key = p.v := by show y.p.v = _; rw [h2]
      have hb : (Me.e enc y).born = y.born := rfl
      simp only [mp] at e
      simp only [Instr.mapEntry, Sem.run_bind, run_underlying hT.ud, Result.andThen_ok, mp_get h, mp, Sem.run_pure, check34, find34, hf, Option.map_some, hj, zL, hk, hb, run_keep34, hsame, e]
    · have e1 : mputL m c p v = l1 ++ ⟨p, v, y.born⟩ :: l2 := by unfold mputL; rw [h4]; rfl
      have e2 : mputC m c p = c := by unfold mputC; rw [← hg]; rfl
      rw [e1, e2]
      obtain ⟨e3, t3⟩ := set_Turns (l' := l1 ++ ⟨p, v, y.born⟩ :: l2) (c' := c) hw2
      refine ⟨_, ?_, t3⟩
      have hn : ∀ x ∈ l1.map (Me.e enc), x.born ≠ (Me.e enc y).born := fun x hx => by
        obtain ⟨q, hq, rfl⟩ := List.mem_map.1 hx
        have hb := hm.borns
        rw [h0, List.map_append, List.map_cons, List.nodup_append] at hb
        exact hb.2.2 _ (List.mem_map.2 ⟨q, hq, rfl⟩) _ (List.mem_cons_self ..)
      have hi := findIdx_mid (l1.map (Me.e enc)) (Me.e enc y) (l2.map (Me.e enc)) hn
      have hmod := modify_mid (fun e : MapEntry => { e with val := enc v }) (l1.map (Me.e enc)) (Me.e enc y) (l2.map (Me.e enc))
      have hA : m.map (Me.e enc) = l1.map (Me.e enc) ++ Me.e enc y :: l2.map (Me.e enc) := by rw [h0]; simp
      have hB : (l1 ++ (⟨p, v, y.born⟩ : Me α) :: l2).map (Me.e enc) = l1.map (Me.e enc) ++ (⟨p.v, enc v, y.born⟩ : MapEntry) :: l2.map (Me.e enc) := by simp [Me.e, h2]
      simp only [mp] at e3 hw2
      rw [hA] at hw2
      rw [hB] at e3
      have hg2 : (getObj b).run Tryz.prog w2 = .ok (.map (l1.map (Me.e enc) ++ Me.e enc y :: l2.map (Me.e enc)).toArray c) w2 := by
        simp [getObj, Sem.run, hw2]
      have hb : (Me.e enc y).born = y.born := rfl
      rw [hb] at hi
      simp only [Instr.entryStore, Sem.run_bind, hg2, Sem.run_pure, Result.andThen_ok, goInt, asInt, asIntOf, hi, hmod]
      have e5 : ({ key := (Me.e enc y).key, val := enc v, born := (Me.e enc y).born } : MapEntry) = ⟨p.v, enc v, y.born⟩ := by rw [← h2]; rfl
      rw [e5, e3]
      simp only [mp, hB]
theorem wpl_mapEntry [hT : MpT T E z] (zz : α) (hz : enc zz = z) (HH : Hp w0 W l) (i : Nat) (hm : MOk m c) (p : Px) (hop : o.op = .mapEntry T x y) (hx : a.eval x = .map (some b)) (hy : a.eval y = p.v) (he : l[i]? = some ⟨b, mp enc m c, own⟩) (hw : Region.wanted o (yielded ops a.tmps) = true)
    (h : ∀ (v0 : Value) (st : Nat) (m1 : List (Me α)) (c1 : Nat) (V : World), ((mget m1 p).map enc).getD z = ((mget m p).map enc).getD z → (∀ (v : α) (w2 : World), w2.heap[b]? = some (mp enc m1 c1) → ∃ V2, (Instr.entryStore T (.map (some b)) (goInt (st : Int)) (enc v)).run Tryz.prog w2 = .ok () V2 ∧ Turns w2 b (mp enc (mputL m c p v) (mputC m c p)) V2) →
      Hp w0 V (l.set i ⟨b, mp enc m1 c1, own⟩) → wpList Tryz.prog ops Q rest (a.put o.dst (.tuple #[v0, goInt (st : Int)])) V) : wpList Tryz.prog ops Q (o :: rest) a W :=
  wpList_on hw fun K hK => by
    obtain ⟨v0, st, m1, c1, V, hr, ht, hm1, hs⟩ := run_entry34 (T := T) zz hz hm p (HH.get i he)
    unfold Oper.wp execOp
    simp only [hop, hx, hy, Sem.run_bind, Sem.run_pure, Result.andThen_ok, hr]
    exact hK _ _ (h v0 st m1 c1 V hm1 hs (HH.turn i he ht))
theorem wpl_entryStore {m1 : List (Me α)} {c1 st : Nat} {p : Px} (v : α) (hs : ∀ (v : α) (w2 : World), w2.heap[b]? = some (mp enc m1 c1) → ∃ V2, (Instr.entryStore T (.map (some b)) (goInt (st : Int)) (enc v)).run Tryz.prog w2 = .ok () V2 ∧ Turns w2 b (mp enc (mputL m c p v) (mputC m c p)) V2)
    (HH : Hp w0 W l) (i : Nat) (hop : o.op = .entryStore T x y u) (hx : a.eval x = .map (some b)) (hy : a.eval y = goInt (st : Int)) (hu : a.eval u = enc v) (he : l[i]? = some ⟨b, mp enc m1 c1, own⟩) (hw : Region.wanted o (yielded ops a.tmps) = true)
    (h : ∀ V, Hp w0 V (l.set i ⟨b, mp enc (mputL m c p v) (mputC m c p), own⟩) → wpList Tryz.prog ops Q rest (a.put o.dst undef) V) : wpList Tryz.prog ops Q (o :: rest) a W :=
  wpList_on hw fun K hK => by
    obtain ⟨V, hr, ht⟩ := hs v W (HH.get i he)
    unfold Oper.wp execOp
    simp only [hop, hx, hy, hu, Sem.run_bind, Sem.run_pure, Result.andThen_ok, hr]
    exact hK _ _ (h _ (HH.turn i he ht))
theorem wpl_insert [hT : MpT T E z] (HH : Hp w0 W l) (i : Nat) (p : Px) (v : α) (hop : o.op = .insert T x y u) (hx : a.eval x = .map (some b)) (hy : a.eval y = p.v) (hu : a.eval u = enc v) (he : l[i]? = some ⟨b, mp enc m c, own⟩) (hw : Region.wanted o (yielded ops a.tmps) = true)
    (h : ∀ V, Hp w0 V (l.set i ⟨b, mp enc (mputL m c p v) (mputC m c p), own⟩) → wpList Tryz.prog ops Q rest (a.put o.dst undef) V) : wpList Tryz.prog ops Q (o :: rest) a W :=
  wpList_on hw fun K hK => by
    obtain ⟨V, hr, ht⟩ := run_put34 (T := T) p v (HH.get i he)
    unfold Oper.wp execOp
    simp only [hop, hx, hy, hu, Sem.run_bind, Sem.run_pure, Result.andThen_ok, hr]
    exact hK _ _ (h _ (HH.turn i he ht))
end mapentry

theorem prow_get1 (L : List Px) (i : Nat) (js : List Value) (hi : i + 1 < L.length) : rdv true 12 (prow L ++ js) (12 + i * 12) = some (L[i + 1]).v := by
  have := prow_get L (i + 1) js hi
  rwa [show (i + 1) * 12 = 12 + i * 12 by omega] at this
theorem wpl_slice1 {ops : Array Oper} {rest : List Oper} {o : Oper} {a : Act} {Q : Exit → Act → World → Prop} {W : World} {x y : Operand} {g n cap : Nat} (hop : o.op = .slice 173 x (some y) none none) (hx : a.eval x = .slice (some ⟨g, 0, none⟩) n cap) (hy : a.eval y = .int .i64 1) (h1 : 1 ≤ n) (h2 : n ≤ cap) (hw : Region.wanted o (yielded ops a.tmps) = true)
    (h : ∀ d, (2 ≤ n → d = 12) → wpList Tryz.prog ops Q rest (a.put o.dst (.slice (some ⟨g, d, none⟩) (n - 1) (cap - 1))) W) : wpList Tryz.prog ops Q (o :: rest) a W := by
  obtain ⟨d, hd, hr⟩ := run_slice1 hop hx hy h1 h2
  exact wpl_valu hw (hr W) (h d hd)
/-- Worlds that hold a map of which one look-up is known, and the entries l. -/
def CE {α : Type} (enc : α → Value) (z : Value) (w0 : World) (b : Nat) (p : Px) (u : Value) (l : List En) (V : World) : Prop := ∃ (m : List (Me α)) (c : Nat), ((mget m p).map enc).getD z = u ∧ Hp w0 V (⟨b, mp enc m c, true⟩ :: l)
section ce
variable {α : Type} {enc : α → Value} {T E : TypeId} {z u : Value} {ops : Array Oper} {rest : List Oper} {o : Oper} {a : Act} {Q : Act → Prop} {w0 : World} {l : List En} {x y : Operand} {b : Nat} {p : Px} {t : TypeId} {c : List Value} {v : Value} {off n : Nat} {agg own : Bool}
theorem wpB_loadE {S : TypeId} {b2 : Nat} (i : Nat) (hop : o.op = .load S x) (hx : a.eval x = .pointer (some ⟨b2, off, none⟩)) (he : l[i]? = some ⟨b2, .cells c.toArray t (0, 0), own⟩) (hw : Region.wanted o (yielded ops a.tmps) = true) [hs : Shp S agg n] (hv : rdv agg n c off = some v)
    (hk : wpB Tryz.prog ops (CE enc z w0 b p u l) Q rest (a.put o.dst v)) : wpB Tryz.prog ops (CE enc z w0 b p u l) Q (o :: rest) a :=
  wpB_val hw (fun V hV => by
    obtain ⟨m, c', _, h⟩ := hV
    unfold execOp
    simp only [hop, hx, Sem.run_bind, Sem.run_pure, Result.andThen_ok, run_load_en hs (h.get (i + 1) (by simpa using he)) hv]) hk
theorem wpB_lookE [hT : MpT T E z] (hop : o.op = .lookup T x y false) (hx : a.eval x = .map (some b)) (hy : a.eval y = p.v) (hw : Region.wanted o (yielded ops a.tmps) = true)
    (hk : wpB Tryz.prog ops (CE enc z w0 b p u l) Q rest (a.put o.dst u)) : wpB Tryz.prog ops (CE enc z w0 b p u l) Q (o :: rest) a :=
  wpB_val hw (fun V hV => by
    obtain ⟨m, c', hu, h⟩ := hV
    have := exec_look (T := T) (enc := enc) (ok := false) p hop hx hy (h.get 0 rfl)
    simp only [Bool.false_eq_true, if_false, hu] at this
    exact this) hk
end ce

set_option maxRecDepth 100000 in
set_option maxHeartbeats 4000000 in
theorem new_walk {w0 w : World} {l : List En} (s : Sp) (full : Bool) (hs : soundB s = true) (hn : s.n = 1) (HH : Hp w0 w l) : Calls Tryz.prog 21 #[s.v, .bool full] w fun e w' => ∃ T bm, e = .returned (.pointer (some ⟨T, 0, none⟩)) ∧ Hp w0 w' (TE T s full 0 0 bm :: ⟨bm, mp encG [⟨topX s, (0, 0), 0⟩] 1, true⟩ :: l) := by
  have HSND := sound_gives s
  rw [hs] at HSND
  have HTOP := top_gives30 s
  obtain ⟨sn, ⟨k0, s0, t0⟩, ⟨k1, s1, t1⟩⟩ := s
  simp only at hn
  subst hn
  generalize topX _ = tx at *
  obtain ⟨ta0, ta1, ⟨tk0, tl0, th0, to0, tp0⟩, ⟨tk1, tl1, th1, to1, tp1⟩⟩ := tx
  go_enter Tryz.func21, Tryz.ntmps21
  go_wp2_with (first | ((with_reducible show zW (Op.makeMap 90 _)); refine wpl_mkmap (enc := encG) HH rfl rfl ?_; clear HH; intro bm V HH; (try simp only [Act.put, zz])) | ((with_reducible show zW (Op.insert 90 _ _ _)); (refine wpl_insert (enc := encG) HH 0 ⟨ta0, ta1, ⟨tk0, tl0, th0, to0, tp0⟩, ⟨tk1, tl1, th1, to1, tp1⟩⟩ (0, 0) rfl rfl rfl rfl rfl rfl ?_); clear HH; intro V HH; (try simp only [zC, zB] at HH); (try simp only [Act.put, zz])) | ((with_reducible show stepQ _ _ _ _ _ _ _); refine stepQ_on HH (by (exact fun V h => h.drop rfl)) ?_; clear HH) | ((with_reducible show wpS _ _ _ _ (_ :: _) _ _); refine wpS_step rfl (fun V HH => ?_)) | ((with_reducible show wpS _ _ _ _ _ _ _); refine wpS_nil ?_; intro V HH; (try dsimp only at HH); (try simp only [pick, zy]); (try simp only [Act.put, zz])) | (go_at_call 23; (with_reducible refine ((HSND) _).mono ?_); rintro e V ⟨rfl, hb⟩; replace HH := HH.next hb; clear hb) | ((with_reducible show zX (Op.load _ _)); (refine wpl_load HH 0 rfl rfl rfl rfl rfl ?_; (try simp only [Act.put, zz]))) | ((with_reducible show zX (Op.binOp _ _ _ _ _)); (refine wpl_cmp (p := ?_) rfl rfl rfl ?_ ?_ ?_; rotate_left; (focus (go_simp; with_reducible rfl)); all_goals (intro hq; (try (contradiction)); (try simp only [zw] at hq); (try simp only [Act.put, zz])))) | ((with_reducible show zY (Op.load _ _)); (refine wpl_load HH 0 rfl rfl rfl (by simp only [Region.wanted, yielded, zy, Option.bind_some]; decide) rfl ?_; (try simp only [Act.put, zz]))) | ((with_reducible show zW (Op.box _ _)); refine wpl_box HH rfl rfl rfl ?_; clear HH; intro b V HH; simp only [Act.eval, zx, Value.cells, putl, zC, zB] at HH; (try simp only [Act.put, zz])) | ((with_reducible show Code.wp _ (Code.region _ _ true) _ _ _); (refine wp_float_Hp (id := 3) [0, 1, 3, 4, 5] [2, 6, 7] [8, 9, 10] _ (by kernel_rfl) HH (by (exact fun V h => h)) ?_; clear HH; (try dsimp only); (try simp only [pick, zy]); repeat' (first | ((with_reducible show wpB _ _ _ _ [] _); refine wpB_nil ?_; (try simp only [pick, zy]); (try simp only [Act.put, zz])) | (((with_reducible show zU _); (first | ((with_reducible show zT (Op.move _)); refine wpB_move rfl rfl rfl ?_) | ((with_reducible show zT (Op.load _ _)); (refine wpB_load 0 rfl rfl rfl rfl rfl ?_)) | ((with_reducible show zT (Op.call _)); (refine wpB_callE (f := ?_) (args := ?_) (v := ?_) rfl ?_ ?_ ?_; rotate_left 3; (focus (intro w9 hS9; go_simp; (refine ⟨?_, ?_⟩ <;> with_reducible rfl))); (focus (with_reducible exact (HTOP))))) | (refine wpB_val (v := ?_) rfl ?_ ?_; rotate_left; (focus (intro w9 hS9; go_simp; all_goals (with_reducible rfl)))))); all_goals (try simp only [Act.put, zz, Act.eval, zx]))))))
  go_ret
  exact ⟨_, _, rfl, HH.lose 2 rfl rfl⟩

end Go.Proofs.YtcbahkfbdlhabaaGreatDoor
namespace Go.Proofs.YtcbahkfbdlhabaaGreatDoor.Dr
set_option linter.unusedVariables false
set_option linter.unusedSimpArgs false
open Go.RowKit
attribute [local go_sem] index24_0 index24_1 field34_0 field34_1
attribute [local irreducible] wpList Code.wp wpB

structure Below (B : Nat) (w w' : World) : Prop where
  os : w'.os = w.os
  tape : w'.tape = w.tape
  output : w'.output = w.output
  size : w.heap.size ≤ w'.heap.size
  drawn : w.drawn ≤ w'.drawn
  block : ∀ k, k < B → w'.heap[k]? = w.heap[k]?
theorem Below.refl (B : Nat) (w : World) : Below B w w := ⟨rfl, rfl, rfl, Nat.le_refl _, Nat.le_refl _, fun _ _ => rfl⟩
theorem Below.trans {B : Nat} {a b c : World} (h : Below B a b) (k : Below B b c) : Below B a c :=
  ⟨k.os.trans h.os, k.tape.trans h.tape, k.output.trans h.output, Nat.le_trans h.size k.size, Nat.le_trans h.drawn k.drawn, fun i hi => (k.block i hi).trans (h.block i hi)⟩
theorem Below.alloc {B : Nat} {a w : World} (h : Below B a w) (hB : B ≤ w.heap.size) (o : Obj) : Below B a (w.alloc o) :=
  h.trans ⟨rfl, rfl, rfl, by simp, Nat.le_refl _, fun k hk => Go.RowKit.Below.heap_alloc _ _ _ (by omega)⟩
abbrev Gives (f : FuncId) (args : Array Value) (v : Value) : Prop := ∀ w, Calls Tryz.prog f args w fun e w' => e = .returned v ∧ Below w.heap.size w w'
theorem Below.plain {B : Nat} {w w' : World} (h : Below B w w') : Go.RowKit.Below B w w' := ⟨h.os, h.tape, h.output, h.size, h.block⟩
structure Hp (w0 W : World) (l : List En) : Prop where
  lies : Lies W l
  nodup : (l.map En.b).Nodup
  own : ∀ e ∈ l, e.own = true → w0.heap.size ≤ e.b
  os : W.os = w0.os
  tape : W.tape = w0.tape
  output : W.output = w0.output
  size : w0.heap.size ≤ W.heap.size
  drawn : w0.drawn ≤ W.drawn
  rest : ∀ k, k < w0.heap.size → (∀ e ∈ l, e.b ≠ k) → W.heap[k]? = w0.heap[k]?
theorem Hp.nil (w : World) : Hp w w [] := ⟨trivial, by simp, by simp, rfl, rfl, rfl, Nat.le_refl _, Nat.le_refl _, fun _ _ _ => rfl⟩
theorem Hp.start {w : World} {l : List En} (h : Lies w l) (hn : (l.map En.b).Nodup) (ho : l.all (fun e => !e.own) = true) : Hp w w l :=
  ⟨h, hn, fun e he ht => by have := List.all_eq_true.1 ho e he; simp [ht] at this, rfl, rfl, rfl, Nat.le_refl _, Nat.le_refl _, fun _ _ _ => rfl⟩
theorem Hp.lt {w0 W : World} {l : List En} (h : Hp w0 W l) (e : En) (he : e ∈ l) : e.b < W.heap.size :=
  (Array.getElem?_eq_some_iff.1 (h.lies.mem e he)).1
theorem Hp.get {w0 W : World} {l : List En} (h : Hp w0 W l) (i : Nat) {e : En} (hi : l[i]? = some e) : W.heap[e.b]? = some e.o :=
  h.lies.mem e (List.mem_of_getElem? hi)
theorem Hp.alloc {w0 W : World} {l : List En} (h : Hp w0 W l) (o : Obj) : Hp w0 (W.alloc o) (⟨W.heap.size, o, true⟩ :: l) := by
  refine ⟨⟨heap_alloc_new _ _, Lies.of fun e he => by rw [(Below.heap_alloc W o e.b (h.lt e he))]; exact h.lies.mem e he⟩, ?_, ?_, h.os, h.tape, h.output, by simp; have := h.size; omega, h.drawn, ?_⟩
  · rw [List.map_cons, List.nodup_cons]
    refine ⟨fun hm => ?_, h.nodup⟩
    obtain ⟨e, he, hb⟩ := List.mem_map.1 hm
    have := h.lt e he
    simp only at hb
    omega
  · intro e he ht
    rcases List.mem_cons.1 he with rfl | he
    · exact h.size
    · exact h.own e he ht
  · intro k hk hn
    rw [(Below.heap_alloc W o k (Nat.lt_of_lt_of_le hk h.size))]
    exact h.rest k hk (fun e he => hn e (by simp [he]))
theorem Hp.drew {w0 W : World} {l : List En} (h : Hp w0 W l) : Hp w0 W.drew l := ⟨h.lies.drew, h.nodup, h.own, h.os, h.tape, h.output, h.size, Nat.le_succ_of_le h.drawn, h.rest⟩
theorem Hp.next {w0 W V : World} {l : List En} (h : Hp w0 W l) (hb : Below W.heap.size W V) : Hp w0 V l :=
  ⟨Lies.of fun e he => by rw [hb.block _ (h.lt e he)]; exact h.lies.mem e he, h.nodup, h.own, hb.os.trans h.os, hb.tape.trans h.tape, hb.output.trans h.output, Nat.le_trans h.size hb.size, Nat.le_trans h.drawn hb.drawn,
   fun k hk hn => (hb.block k (Nat.lt_of_lt_of_le hk h.size)).trans (h.rest k hk hn)⟩
theorem Hp.below {w0 W : World} {l : List En} (h : Hp w0 W l) (ho : l.all (·.own) = true) : Below w0.heap.size w0 W :=
  ⟨h.os, h.tape, h.output, h.size, h.drawn, fun k hk => h.rest k hk fun e he hb => by
    have := h.own e he (List.all_eq_true.1 ho e he)
    omega⟩
theorem Hp.below_at {w0 W : World} {l : List En} (h : Hp w0 W l) (ho : ∀ e ∈ l, e.own = true ∨ w0.heap[e.b]? = some e.o) : Below w0.heap.size w0 W :=
  ⟨h.os, h.tape, h.output, h.size, h.drawn, fun k hk => by
    by_cases hn : ∀ e ∈ l, e.b ≠ k
    · exact h.rest k hk hn
    · obtain ⟨e, he, hb⟩ : ∃ e ∈ l, e.b = k := by
        refine Classical.byContradiction fun hc => hn fun e he hb => hc ⟨e, he, hb⟩
      rcases ho e he with ho | ho
      · have := h.own e he ho
        omega
      · rw [← hb, h.lies.mem e he, ho]⟩
section walk
variable {ops : Array Oper} {rest : List Oper} {o : Oper} {a : Act} {Q : Exit → Act → World → Prop} {w0 W : World} {l : List En} {T : TypeId} {x y : Operand} {agg own : Bool} {n : Nat} {b off : Nat} {c : List Value} {t : TypeId} {v : Value}
theorem wpl_load (HH : Hp w0 W l) (i : Nat) (hop : o.op = .load T x) (hx : a.eval x = .pointer (some ⟨b, off, none⟩)) (he : l[i]? = some ⟨b, .cells c.toArray t (0, 0), own⟩) (hw : Region.wanted o (yielded ops a.tmps) = true)
    [hs : Shp T agg n] (hv : rdv agg n c off = some v) (h : wpList Tryz.prog ops Q rest (a.put o.dst v) W) : wpList Tryz.prog ops Q (o :: rest) a W :=
  wpList_on hw fun K hK => by
    unfold Oper.wp execOp
    simp only [hop, hx, Sem.run_bind, Sem.run_pure, Result.andThen_ok, run_load_en hs (HH.get i he) hv]
    exact hK _ _ h
theorem wpl_box (HH : Hp w0 W l) (hop : o.op = .box T x) (hx : a.eval x = v) (hw : Region.wanted o (yielded ops a.tmps) = true)
    (h : ∀ b V, Hp w0 V (⟨b, .cells v.cells T (0, 0), true⟩ :: l) → wpList Tryz.prog ops Q rest (a.put o.dst (.pointer (some ⟨b, 0, none⟩))) V) : wpList Tryz.prog ops Q (o :: rest) a W :=
  wpList_on hw fun K hK => by
    unfold Oper.wp execOp
    simp only [hop, hx, Instr.box, newVar, newRow, Sem.run_bind, Sem.run_pure, Result.andThen_ok]
    simp
    exact hK _ _ (h _ _ (HH.alloc _))
end walk
section path
variable {P : Program} {ops : Array Oper} {C : World → Prop} {D : Nat → World → Prop} {M : Array Bool}
def quietUponB (P : Program) (V : World) (v : Value) : Result Next → Prop
  | .ok (.value u) V' => V' = V ∧ u = v
  | .ok .skip V' => V' = V ∧ v = undef
  | .ok (.enter f args) V' => V' = V ∧ Calls P f args V (fun e V'' => e = .returned v ∧ Below V.heap.size V V'')
  | _ => False
def qB (P : Program) (ops : Array Oper) (C : World → Prop) (o : Oper) (K : Act → Prop) (a : Act) : Prop :=
  if Region.wanted o (yielded ops a.tmps) then ∃ v, (∀ V, C V → quietUponB P V v ((execOp a.eval o).run P V)) ∧ K (a.put o.dst v) else K (a.put o.dst undef)
def wpB (P : Program) (ops : Array Oper) (C : World → Prop) (Q : Act → Prop) : List Oper → Act → Prop
  | [], a => Q a
  | o :: r, a => qB P ops C o (wpB P ops C Q r) a
structure Abides (C : World → Prop) (D : World → Prop) : Prop where
  sub : ∀ V, D V → C V
  next : ∀ V V', D V → Below V.heap.size V V' → D V'
theorem wpOp_of_qB {E : World → Prop} (hE : Abides C E) {i : Nat} {o : Oper} (hi : ops[i]? = some o) {a : Act} {K : Act → Prop} {K' : Act → World → Prop} {Q' : Exit → Act → World → Prop} {w : World} (hw : E w)
    (h : ∀ a w', E w' → K a → K' a w') (hh : qB P ops C o K a) : wpOp P ops Q' i K' a w := by
  unfold wpOp
  simp only [hi]
  unfold qB at hh
  split
  · rename_i hwd
    rw [if_pos hwd] at hh
    refine .inl ?_
    obtain ⟨v, h1, h2⟩ := hh
    have h3 := h1 w (hE.sub w hw)
    unfold Oper.wp
    generalize (execOp a.eval o).run P w = r at *
    cases r with
    | ok n w' =>
      cases n <;> simp only [quietUponB] at h3 <;> simp only [Oper.upon]
      case value u =>
        obtain ⟨e1, e2⟩ := h3
        rw [e1, e2]
        exact h _ _ hw h2
      case skip =>
        obtain ⟨e1, e2⟩ := h3
        rw [e1, ← e2]
        exact h _ _ hw h2
      case enter f args =>
        obtain ⟨e1, hc⟩ := h3
        rw [e1]
        exact hc.mono fun e w'' ⟨he, hb⟩ => by subst he; exact h _ _ (hE.next _ _ hw hb) h2
    | halt x w' => simp only [quietUponB] at h3
  · rename_i hwd
    rw [if_neg hwd] at hh
    exact h _ _ hw hh
def YieldsB (P : Program) (ops : Array Oper) (C : World → Prop) (o : Oper) (v : Value) (a : Act) : Prop :=
  (Region.wanted o (yielded ops a.tmps) = true ∧ ∀ V, C V → quietUponB P V v ((execOp a.eval o).run P V)) ∨ (Region.wanted o (yielded ops a.tmps) = false ∧ v = undef)
theorem YieldsB.qB {o : Oper} {v : Value} {a : Act} {K : Act → Prop} (hy : YieldsB P ops C o v a) (h : K (a.put o.dst v)) : Go.Proofs.YtcbahkfbdlhabaaGreatDoor.Dr.qB P ops C o K a := by
  unfold Go.Proofs.YtcbahkfbdlhabaaGreatDoor.Dr.qB
  rcases hy with ⟨hw, hv⟩ | ⟨hw, rfl⟩
  · rw [if_pos hw]; exact ⟨v, hv, h⟩
  · rw [if_neg (by simp [hw])]; exact h
theorem YieldsB.of_qB {o : Oper} {a : Act} {K : Act → Prop} (h : Go.Proofs.YtcbahkfbdlhabaaGreatDoor.Dr.qB P ops C o K a) : ∃ v, YieldsB P ops C o v a ∧ K (a.put o.dst v) := by
  unfold Go.Proofs.YtcbahkfbdlhabaaGreatDoor.Dr.qB at h
  by_cases hw : Region.wanted o (yielded ops a.tmps) = true
  · rw [if_pos hw] at h
    obtain ⟨v, h1, h2⟩ := h
    exact ⟨v, .inl ⟨hw, h1⟩, h2⟩
  · rw [if_neg hw] at h
    exact ⟨undef, .inr ⟨by simpa using hw, rfl⟩, h⟩
theorem YieldsB.put {oi : Oper} {v : Value} {a : Act} (hsi : ∀ cs b, oi.op ≠ .select cs b) (d : Option Tmp) (u : Value) (h3 : ∀ x, d = some x → x ∉ oi.looksAt ops) (hy : YieldsB P ops C oi v a) : YieldsB P ops C oi v (a.put d u) := by
  unfold YieldsB at *
  rw [execOp_put oi hsi a d u h3, wanted_put oi a d u h3]
  exact hy
theorem qB_put {oi oj : Oper} {v : Value} (hap : oi.apart ops oj = true) (hsi : ∀ cs b, oi.op ≠ .select cs b) (hsj : ∀ cs b, oj.op ≠ .select cs b) {K : Act → Prop} {a : Act}
    (hy : YieldsB P ops C oi v a) (h : qB P ops C oj K (a.put oi.dst v)) : qB P ops C oj (fun a' => YieldsB P ops C oi v a' ∧ K (a'.put oi.dst v)) a := by
  obtain ⟨h1, h2, h3⟩ := Oper.apart_spec hap
  unfold qB at *
  rw [wanted_put oj a oi.dst v h1] at h
  split
  · rename_i hw
    rw [if_pos hw] at h
    obtain ⟨u, hu, hn⟩ := h
    refine ⟨u, fun V hV => ?_, hy.put hsi _ u h3, by rw [← Act.put_comm a v u h2]; exact hn⟩
    have := hu V hV
    rwa [execOp_put oj hsj a oi.dst v h1] at this
  · rename_i hw
    rw [if_neg hw] at h
    exact ⟨hy.put hsi _ _ h3, by rw [← Act.put_comm a v undef h2]; exact h⟩
def qX (P : Program) (ops : Array Oper) (C : World → Prop) (val : Nat → Value) (al i : Nat) (o : Oper) (K : Option Nat → Act → Prop) (s : Option Nat) (a : Act) : Prop :=
  if i = al then s = none ∧ ∀ b, K (some b) (a.put o.dst (val b)) else qB P ops C o (K s) a
def wpX (P : Program) (ops : Array Oper) (C : World → Prop) (val : Nat → Value) (al : Nat) (M : Array Bool) (Q : Option Nat → Act → Prop) : Nat → Array Bool → Option Nat → Act → Prop
  | 0, L, s, a => L = M ∧ Q s a
  | n + 1, L, s, a => Region.ready .any ops L ≠ [] ∧ ∀ i ∈ Region.ready .any ops L, M.getD i false = true ∧ ∀ o, ops[i]? = some o → qX P ops C val al i o (fun s' a' => wpX P ops C val al M Q n (L.setIfInBounds i true) s' a') s a
theorem wpX_first {val : Nat → Value} {al : Nat} {Q : Option Nat → Act → Prop} {i : Nat} {oi : Oper} {v : Value} (hi : ops[i]? = some oi) (hal : i ≠ al) (hsel : ∀ (j : Nat) (o : Oper) cs b, ops[j]? = some o → o.op ≠ .select cs b) (hMi : M.getD i false = true) (hMr : Ahead ops M i) :
    ∀ (n : Nat) (L : Array Bool) (s : Option Nat) (a : Act), Cl ops L →
      (∀ j oj, ops[j]? = some oj → j ≠ i → L.getD j true = false → (∀ e ∈ oj.after, Region.binds .any e = true → e.on ≠ i) → oi.apart ops oj = true) →
      i ∈ Region.ready .any ops L → YieldsB P ops C oi v a → wpX P ops C val al M Q n (L.setIfInBounds i true) s (a.put oi.dst v) → wpX P ops C val al M Q (n + 1) L s a := by
  have self : ∀ (n : Nat) (L : Array Bool) (s : Option Nat) (a : Act), YieldsB P ops C oi v a → wpX P ops C val al M Q n (L.setIfInBounds i true) s (a.put oi.dst v) → M.getD i false = true ∧ ∀ o, ops[i]? = some o → qX P ops C val al i o (fun s' a' => wpX P ops C val al M Q n (L.setIfInBounds i true) s' a') s a := fun n L s a hy H => by
    refine ⟨hMi, fun o ho => ?_⟩
    rw [hi] at ho
    cases ho
    unfold qX
    rw [if_neg hal]
    exact hy.qB H
  intro n
  induction n with
  | zero =>
    intro L s a hcl _ hr hy H
    refine ⟨fun h => (by rw [h] at hr; cases hr), fun j hj => ?_⟩
    by_cases hji : j = i
    · subst hji; exact self 0 L s a hy H
    · exact absurd (hMr L hcl H.1 j hj hr) hji
  | succ n ih =>
    intro L s a hcl hfree hr hy H
    refine ⟨fun h => (by rw [h] at hr; cases hr), fun j hj => ?_⟩
    by_cases hji : j = i
    · subst hji; exact self (n + 1) L s a hy H
    · obtain ⟨hMj, h1⟩ := H.2 j (ready_mono hj hji)
      refine ⟨hMj, fun oj hoj => ?_⟩
      obtain ⟨hjun, oj', hoj', hall⟩ := mem_ready.1 hj
      rw [hoj] at hoj'
      cases hoj'
      have hnot : ∀ e ∈ oj.after, Region.binds .any e = true → e.on ≠ i := fun e he hb heq => by
        have h1 := hall e he hb
        rw [heq, ready_off hr] at h1
        cases h1
      have hap := hfree j oj hoj hji hjun hnot
      have h1 := h1 oj hoj
      have on : ∀ s' a', YieldsB P ops C oi v a' → wpX P ops C val al M Q n ((L.setIfInBounds i true).setIfInBounds j true) s' (a'.put oi.dst v) → wpX P ops C val al M Q (n + 1) (L.setIfInBounds j true) s' a' := fun s' a' hy' h' =>
        ih (L.setIfInBounds j true) s' a' (hcl.set hj) (fun k ok hk hki hun hno => hfree k ok hk hki (by
          by_cases hjk : j = k
          · subst hjk; exact hjun
          · rw [getD_set_ne true hjk] at hun; exact hun) hno) (ready_mono hr (Ne.symm hji)) hy' (by rw [Array.setIfInBounds_comm _ _ hji]; exact h')
      unfold qX at h1 ⊢
      by_cases hja : j = al
      · rw [if_pos hja] at h1 ⊢
        obtain ⟨p1, p2, p3⟩ := Oper.apart_spec hap
        exact ⟨h1.1, fun b => on (some b) _ (hy.put (fun cs b => hsel i oi cs b hi) _ _ p3) (by rw [← Act.put_comm a v (val b) p2]; exact h1.2 b)⟩
      · rw [if_neg hja] at h1 ⊢
        have h2 := qB_put hap (fun cs b => hsel i oi cs b hi) (fun cs b => hsel j oj cs b hoj) hy h1
        obtain ⟨u, hu, h3⟩ := YieldsB.of_qB h2
        exact hu.qB (on s _ h3.1 h3.2)
theorem wpX_path {val : Nat → Value} {al : Nat} (hs : Region.noSelect ops = true) (hA : aheadB ops M = true) (hM : M.size = ops.size) {Q : Option Nat → Act → Prop} {s : Option Nat} {m : Nat} {R : Act → Prop} : ∀ (p : List Nat) (L : Array Bool) (a : Act), Cl ops L → al ∉ p → pathB ops M L p = true →
    (∀ a, R a → wpX P ops C val al M Q m (p.foldl (fun L i => L.setIfInBounds i true) L) s a) → wpB P ops C R (pick ops p) a → wpX P ops C val al M Q (m + p.length) L s a
  | [], L, a, _, _, _, hR, h => hR a h
  | i :: r, L, a, hcl, hal, hB, hR, h => by
    simp only [pathB, Bool.and_eq_true, decide_eq_true_eq] at hB
    obtain ⟨⟨⟨⟨hlt, hr⟩, hf⟩, hMi⟩, hB'⟩ := hB
    have h0 : ops[i]? = some ops[i] := Array.getElem?_eq_getElem hlt
    simp only [pick, h0] at h
    have hr' : i ∈ Region.ready .any ops L := by simpa using hr
    obtain ⟨v, hy, hK⟩ := YieldsB.of_qB h
    exact wpX_first h0 (fun e => hal (by simp [e])) (Region.noSelect_spec hs) hMi (ahead_of hA hM i) _ L s a hcl (Region.free_spec h0 hf) hr' hy (wpX_path hs hA hM r _ _ (hcl.set hr') (fun e => hal (by simp [e])) hB' hR hK)
theorem wpAny_of_X {E : Option Nat → World → Prop} (hE : ∀ s, Abides C (E s)) {val : Nat → Value} {al : Nat} {obj : Obj} (hal : ∀ o, ops[al]? = some o → LaysNew P o val obj) (hnew : ∀ V, E none V → E (some V.heap.size) (V.alloc obj)) {Q : Option Nat → Act → Prop} {Q' : Exit → Act → World → Prop} {n : Nat}
    (hQ : ∀ s a w, E s w → Q s a → wpAny P .any ops Q' n M a w) : ∀ (k : Nat) (L : Array Bool) (s : Option Nat) (a : Act) (w : World), E s w → wpX P ops C val al M Q k L s a → wpAny P .any ops Q' (n + k) L a w
  | 0, _, s, a, w, hw, h => by rw [h.1]; exact hQ s a w hw h.2
  | k + 1, L, s, a, w, hw, h => ⟨fun h0 => absurd h0 h.1, fun i hi => by
    obtain ⟨hun, o, ho, hall⟩ := mem_ready.1 hi
    have h1 := (h.2 i hi).2 o ho
    unfold qX at h1
    by_cases hia : i = al
    · rw [if_pos hia] at h1
      obtain ⟨rfl, h1⟩ := h1
      subst hia
      have hl := hal o ho
      unfold wpOp
      simp only [ho]
      rw [if_pos (by simp [Region.wanted, hl.guard])]
      refine .inl ?_
      unfold Oper.wp
      rw [hl.run a w]
      exact wpAny_of_X hE hal hnew hQ k _ _ _ _ (hnew w hw) (h1 _)
    · rw [if_neg hia] at h1
      exact wpOp_of_qB (hE s) ho hw (fun a' w' hw' h' => wpAny_of_X hE hal hnew hQ k _ s a' w' hw' h') h1⟩
theorem wp_region_tail {id : Nat} {Q : Exit → Act → World → Prop} {a : Act} {w : World} (p q : List Nat) (hm : P.follows .mixedOrders = true) (hB : tailB ops p q = true) (hC : Abides C C) (hw : C w.drew)
    (h : wpB P ops C (fun a' => ∀ V, C V → wpList P ops Q (pick ops q) a' V) (pick ops p) a) : (Code.region id ops true).wp P Q a w := by
  simp only [tailB, Bool.and_eq_true] at hB
  obtain ⟨⟨⟨⟨⟨hs, hp⟩, hA⟩, hq⟩, hn⟩, hz⟩ := hB
  refine wp_region_any hm ?_
  have hnone : ops[ops.size]? = none := by simp
  have h1 := wpX_path (P := P) (C := C) (val := fun _ => undef) (al := ops.size) (M := maskOf ops.size p) hs hA (by unfold maskOf; rw [size_fold]; simp) (Q := fun _ a => ∀ V, C V → wpList P ops Q (pick ops q) a V) (s := none) (m := 0) p (Array.replicate ops.size false) a cl_none
    (by simpa using hz) hp (fun a ha => ⟨rfl, ha⟩) h
  have := wpAny_of_X (E := fun _ => C) (fun _ => hC) (obj := .cells #[] 0) (fun o ho => by rw [hnone] at ho; cases ho) (fun V hV => hC.next _ _ hV ((Below.refl _ _).alloc (Nat.le_refl _) _)) (n := q.length) (Q' := Q)
    (fun s a w hw h => wpAny_seq q _ a w hq (h w hw)) _ _ _ a w.drew hw h1
  rw [Nat.zero_add, show q.length + p.length = ops.size by simpa using hn] at this
  exact this
theorem Hp.abides (w0 : World) (l : List En) : Abides (fun V => Hp w0 V l) (fun V => Hp w0 V l) := ⟨fun _ h => h, fun _ _ h hb => h.next hb⟩
theorem wp_tail_Hp {ops : Array Oper} {w0 W : World} {l : List En} {id : Nat} {Q : Exit → Act → World → Prop} {a : Act} (p q : List Nat) (hB : tailB ops p q = true) (HH : Hp w0 W l)
    (h : wpB Tryz.prog ops (fun V => Hp w0 V l) (fun a' => ∀ V, Hp w0 V l → wpList Tryz.prog ops Q (pick ops q) a' V) (pick ops p) a) : (Code.region id ops true).wp Tryz.prog Q a W :=
  wp_region_tail (C := fun V => Hp w0 V l) p q (by kernel_rfl) hB (Hp.abides w0 l) HH.drew h
section stepB
variable {ops : Array Oper} {C : World → Prop} {Q : Act → Prop} {rest : List Oper} {o : Oper} {a : Act} {v : Value} {w0 : World} {l : List En} {T : TypeId} {x y : Operand} {agg own : Bool} {n : Nat} {b off : Nat} {c : List Value} {t : TypeId}
abbrev zT {P : Program} {ops : Array Oper} {C : World → Prop} {Q : Act → Prop} {d : Option Tmp} {ty : TypeId} {po : String} {af : Array Edge} {g : Option (Tmp × Bool)} {r : List Oper} {a : Act} (op : Op) : Prop := wpB P ops C Q (Oper.mk d op ty po af g :: r) a
abbrev zU {P : Program} {ops : Array Oper} {C : World → Prop} {Q : Act → Prop} {d : Option Tmp} {ty : TypeId} {po : String} {af : Array Edge} {r : List Oper} {a : Act} (op : Op) : Prop := wpB P ops C Q (Oper.mk d op ty po af none :: r) a
abbrev zV {P : Program} {ops : Array Oper} {C : World → Prop} {Q : Act → Prop} {d : Option Tmp} {ty : TypeId} {po : String} {af : Array Edge} {g : Tmp × Bool} {r : List Oper} {a : Act} (op : Op) : Prop := wpB P ops C Q (Oper.mk d op ty po af (some g) :: r) a
theorem wpB_nil (h : Q a) : wpB Tryz.prog ops C Q [] a := h
theorem wpB_skip (hw : Region.wanted o (yielded ops a.tmps) = false) (h : wpB Tryz.prog ops C Q rest (a.put o.dst undef)) : wpB Tryz.prog ops C Q (o :: rest) a := by
  show qB _ _ _ _ _ _
  unfold qB
  rw [if_neg (by simp [hw])]
  exact h
theorem wpB_val (hw : Region.wanted o (yielded ops a.tmps) = true) (h : ∀ V, C V → (execOp a.eval o).run Tryz.prog V = .ok (.value v) V) (hk : wpB Tryz.prog ops C Q rest (a.put o.dst v)) : wpB Tryz.prog ops C Q (o :: rest) a := by
  show qB _ _ _ _ _ _
  unfold qB
  rw [if_pos hw]
  exact ⟨v, fun V hV => by rw [h V hV]; exact ⟨rfl, rfl⟩, hk⟩
theorem wpB_bool {p : Bool} (hw : Region.wanted o (yielded ops a.tmps) = true) (h : ∀ V, C V → (execOp a.eval o).run Tryz.prog V = .ok (.value (.bool p)) V) (ht : p = true → wpB Tryz.prog ops C Q rest (a.put o.dst (.bool true))) (hf : p = false → wpB Tryz.prog ops C Q rest (a.put o.dst (.bool false))) : wpB Tryz.prog ops C Q (o :: rest) a := by
  cases p
  · exact wpB_val hw h (hf rfl)
  · exact wpB_val hw h (ht rfl)
theorem wpB_move (hop : o.op = .move x) (hw : Region.wanted o (yielded ops a.tmps) = true) (hx : a.eval x = v) (hk : wpB Tryz.prog ops C Q rest (a.put o.dst v)) : wpB Tryz.prog ops C Q (o :: rest) a :=
  wpB_val hw (fun V _ => by rw [BigFrame.run_move x hop, hx]) hk
theorem wpB_assign (hop : o.op = .assign x) (hw : Region.wanted o (yielded ops a.tmps) = true) (hx : a.eval x = v) (hk : wpB Tryz.prog ops C Q rest (a.put o.dst v)) : wpB Tryz.prog ops C Q (o :: rest) a :=
  wpB_val hw (fun V _ => by rw [BigFrame.run_assign x hop, hx]) hk
theorem wpB_load (i : Nat) (hop : o.op = .load T x) (hx : a.eval x = .pointer (some ⟨b, off, none⟩)) (he : l[i]? = some ⟨b, .cells c.toArray t (0, 0), own⟩) (hw : Region.wanted o (yielded ops a.tmps) = true) [hs : Shp T agg n] (hv : rdv agg n c off = some v)
    (hk : wpB Tryz.prog ops (fun V => Hp w0 V l) Q rest (a.put o.dst v)) : wpB Tryz.prog ops (fun V => Hp w0 V l) Q (o :: rest) a :=
  wpB_val hw (fun V hV => by
    unfold execOp
    simp only [hop, hx, Sem.run_bind, Sem.run_pure, Result.andThen_ok, run_load_en hs (Hp.get hV i he) hv]) hk
theorem wpB_call {f : FuncId} {args : Array Value} (hw : Region.wanted o (yielded ops a.tmps) = true) (hg : Gives f args v) (h : ∀ V, C V → (execOp a.eval o).run Tryz.prog V = .ok (.enter f args) V) (hk : wpB Tryz.prog ops C Q rest (a.put o.dst v)) : wpB Tryz.prog ops C Q (o :: rest) a := by
  show qB _ _ _ _ _ _
  unfold qB
  rw [if_pos hw]
  exact ⟨v, fun V hV => by rw [h V hV]; exact ⟨rfl, hg V⟩, hk⟩
theorem wpB_callE {f : FuncId} {args : Array Value} (hw : Region.wanted o (yielded ops a.tmps) = true) (h : ∀ V, C V → (execOp a.eval o).run Tryz.prog V = .ok (.enter f args) V) (hg : Gives f args v) (hk : wpB Tryz.prog ops C Q rest (a.put o.dst v)) : wpB Tryz.prog ops C Q (o :: rest) a :=
  wpB_call hw hg h hk
end stepB
end path

theorem wpl_bs2 {ops : Array Oper} {rest : List Oper} {o : Oper} {a : Act} {Q : Exit → Act → World → Prop} {w0 W : World} {l : List En} {x0 x1 : Operand} {p0 p1 : Int} (HH : Hp w0 W l) (hop : o.op = .buildSlice 107 2 #[(0, x0), (1, x1)]) (hw : Region.wanted o (yielded ops a.tmps) = true) (h0 : a.eval x0 = .int .i64 p0) (h1 : a.eval x1 = .int .i64 p1)
    (h : ∀ b V, Hp w0 V (⟨b, .cells #[.int .i64 p0, .int .i64 p1] 3 (0, 0), true⟩ :: l) → wpList Tryz.prog ops Q rest (a.put o.dst (.slice (some ⟨b, 0, none⟩) 2 2)) V) : wpList Tryz.prog ops Q (o :: rest) a W :=
  wpList_on hw fun K hK => by
    unfold Oper.wp execOp
    simp [hop, h0, h1, run_bs2, Result.andThen]
    exact hK _ _ (h _ _ (HH.alloc _))
theorem wpl_bs3 {ops : Array Oper} {rest : List Oper} {o : Oper} {a : Act} {Q : Exit → Act → World → Prop} {w0 W : World} {l : List En} {x0 x1 x2 : Operand} {p0 p1 p2 : Int} (HH : Hp w0 W l) (hop : o.op = .buildSlice 107 3 #[(0, x0), (1, x1), (2, x2)]) (hw : Region.wanted o (yielded ops a.tmps) = true) (h0 : a.eval x0 = .int .i64 p0) (h1 : a.eval x1 = .int .i64 p1) (h2 : a.eval x2 = .int .i64 p2)
    (h : ∀ b V, Hp w0 V (⟨b, .cells #[.int .i64 p0, .int .i64 p1, .int .i64 p2] 3 (0, 0), true⟩ :: l) → wpList Tryz.prog ops Q rest (a.put o.dst (.slice (some ⟨b, 0, none⟩) 3 3)) V) : wpList Tryz.prog ops Q (o :: rest) a W :=
  wpList_on hw fun K hK => by
    unfold Oper.wp execOp
    simp [hop, h0, h1, h2, run_bs3, Result.andThen]
    exact hK _ _ (h _ _ (HH.alloc _))
theorem wpl_bs4 {ops : Array Oper} {rest : List Oper} {o : Oper} {a : Act} {Q : Exit → Act → World → Prop} {w0 W : World} {l : List En} {x0 x1 x2 x3 : Operand} {p0 p1 p2 p3 : Int} (HH : Hp w0 W l) (hop : o.op = .buildSlice 107 4 #[(0, x0), (1, x1), (2, x2), (3, x3)]) (hw : Region.wanted o (yielded ops a.tmps) = true) (h0 : a.eval x0 = .int .i64 p0) (h1 : a.eval x1 = .int .i64 p1) (h2 : a.eval x2 = .int .i64 p2) (h3 : a.eval x3 = .int .i64 p3)
    (h : ∀ b V, Hp w0 V (⟨b, .cells #[.int .i64 p0, .int .i64 p1, .int .i64 p2, .int .i64 p3] 3 (0, 0), true⟩ :: l) → wpList Tryz.prog ops Q rest (a.put o.dst (.slice (some ⟨b, 0, none⟩) 4 4)) V) : wpList Tryz.prog ops Q (o :: rest) a W :=
  wpList_on hw fun K hK => by
    unfold Oper.wp execOp
    simp [hop, h0, h1, h2, h3, run_bs4, Result.andThen]
    exact hK _ _ (h _ _ (HH.alloc _))

set_option maxRecDepth 100000 in
theorem nan_int (a : Int) (w : World) : Calls Tryz.prog 45 #[.int .i64 a] w fun e w' => e = .returned (.bool false) ∧ Below w.heap.size w w' := by
  have HH := Hp.nil w
  go_enter Tryz.func45, Tryz.ntmps45
  go_wp2_with fail
  all_goals (go_ret; refine ⟨?_, HH.below rfl⟩; (rfl))

set_option maxRecDepth 100000 in
theorem cmp_int (a b : Int) (w : World) : Calls Tryz.prog 33 #[.int .i64 a, .int .i64 b] w fun e w' => e = .returned (.int .i64 (cmpI a b)) ∧ Below w.heap.size w w' := by
  have HH := Hp.nil w
  go_enter Tryz.func33, Tryz.ntmps33
  go_wp2_with (first | (go_at_call 45; (with_reducible refine ((nan_int _) _).mono ?_); rintro e V ⟨rfl, hb⟩; replace HH := HH.next hb; clear hb) | ((with_reducible show zX (Op.binOp _ _ _ _ _)); (refine wpl_cmp (p := ?_) rfl rfl rfl ?_ ?_ ?_; rotate_left; (focus (go_simp; with_reducible rfl)); all_goals (intro hq; (try (fail)); (try simp only [zw] at hq); (try simp only [Act.put, zz])))))
  all_goals (go_ret; refine ⟨?_, HH.below rfl⟩; (clear HH; unfold cmpI; simp_all; try omega))

set_option maxRecDepth 100000 in
theorem nan_u64 (a : Int) (w : World) : Calls Tryz.prog 65 #[.int .u64 a] w fun e w' => e = .returned (.bool false) ∧ Below w.heap.size w w' := by
  have HH := Hp.nil w
  go_enter Tryz.func65, Tryz.ntmps65
  go_wp2_with fail
  all_goals (go_ret; refine ⟨?_, HH.below rfl⟩; (rfl))

set_option maxRecDepth 100000 in
theorem cmp_u64 (a b : Int) (w : World) : Calls Tryz.prog 56 #[.int .u64 a, .int .u64 b] w fun e w' => e = .returned (.int .i64 (cmpI a b)) ∧ Below w.heap.size w w' := by
  have HH := Hp.nil w
  go_enter Tryz.func56, Tryz.ntmps56
  go_wp2_with (first | (go_at_call 65; (with_reducible refine ((nan_u64 _) _).mono ?_); rintro e V ⟨rfl, hb⟩; replace HH := HH.next hb; clear hb) | ((with_reducible show zX (Op.binOp _ _ _ _ _)); (refine wpl_cmp (p := ?_) rfl rfl rfl ?_ ?_ ?_; rotate_left; (focus (go_simp; with_reducible rfl)); all_goals (intro hq; (try (fail)); (try simp only [zw] at hq); (try simp only [Act.put, zz])))))
  all_goals (go_ret; refine ⟨?_, HH.below rfl⟩; (clear HH; unfold cmpI; simp_all; try omega))

set_option maxRecDepth 100000 in
theorem or2_walk (a0 a1 : Int) (b : Nat) (w : World) (hb : w.heap[b]? = some (.cells #[.int .i64 a0, .int .i64 a1] 3 (0, 0))) : Calls Tryz.prog 32 #[.slice (some ⟨b, 0, none⟩) 2 2] w fun e w' => e = .returned (.int .i64 (orL [a0, a1])) ∧ Below w.heap.size w w' := by
  have HH : Hp w w [⟨b, .cells #[.int .i64 a0, .int .i64 a1] 3 (0, 0), false⟩] := Hp.start ⟨hb, trivial⟩ (by simp) rfl
  have HB := Lib.hid hb
  clear hb
  go_enter Tryz.func32, Tryz.ntmps32
  go_wp2_with (first | ((with_reducible show Code.wp _ (Code.loop _) _ _ _); refine wp_loop_rounds 3 ?_; rw [rounds_succ]) | ((with_reducible show Code.rounds _ _ _ _ _ _); rw [rounds_succ]) | ((with_reducible show zX (Op.load _ _)); (refine wpl_load HH 0 rfl rfl rfl rfl rfl ?_; (try simp only [Act.put, zz]))) | ((with_reducible show zX (Op.binOp _ _ _ _ _)); (refine wpl_cmp (p := ?_) rfl rfl rfl ?_ ?_ ?_; rotate_left; (focus (go_simp; with_reducible rfl)); all_goals (intro hq; (try (contradiction)); (try simp only [zw] at hq); (try simp only [Act.put, zz])))))
  all_goals (go_ret; refine ⟨?_, HH.below_at (by simp [HB.out])⟩; clear HH HB; simp_all [orL])

set_option maxRecDepth 100000 in
theorem or3_walk (a0 a1 a2 : Int) (b : Nat) (w : World) (hb : w.heap[b]? = some (.cells #[.int .i64 a0, .int .i64 a1, .int .i64 a2] 3 (0, 0))) : Calls Tryz.prog 32 #[.slice (some ⟨b, 0, none⟩) 3 3] w fun e w' => e = .returned (.int .i64 (orL [a0, a1, a2])) ∧ Below w.heap.size w w' := by
  have HH : Hp w w [⟨b, .cells #[.int .i64 a0, .int .i64 a1, .int .i64 a2] 3 (0, 0), false⟩] := Hp.start ⟨hb, trivial⟩ (by simp) rfl
  have HB := Lib.hid hb
  clear hb
  go_enter Tryz.func32, Tryz.ntmps32
  go_wp2_with (first | ((with_reducible show Code.wp _ (Code.loop _) _ _ _); refine wp_loop_rounds 4 ?_; rw [rounds_succ]) | ((with_reducible show Code.rounds _ _ _ _ _ _); rw [rounds_succ]) | ((with_reducible show zX (Op.load _ _)); (refine wpl_load HH 0 rfl rfl rfl rfl rfl ?_; (try simp only [Act.put, zz]))) | ((with_reducible show zX (Op.binOp _ _ _ _ _)); (refine wpl_cmp (p := ?_) rfl rfl rfl ?_ ?_ ?_; rotate_left; (focus (go_simp; with_reducible rfl)); all_goals (intro hq; (try (contradiction)); (try simp only [zw] at hq); (try simp only [Act.put, zz])))))
  all_goals (go_ret; refine ⟨?_, HH.below_at (by simp [HB.out])⟩; clear HH HB; simp_all [orL])

set_option maxRecDepth 100000 in
theorem or4_walk (a0 a1 a2 a3 : Int) (b : Nat) (w : World) (hb : w.heap[b]? = some (.cells #[.int .i64 a0, .int .i64 a1, .int .i64 a2, .int .i64 a3] 3 (0, 0))) : Calls Tryz.prog 32 #[.slice (some ⟨b, 0, none⟩) 4 4] w fun e w' => e = .returned (.int .i64 (orL [a0, a1, a2, a3])) ∧ Below w.heap.size w w' := by
  have HH : Hp w w [⟨b, .cells #[.int .i64 a0, .int .i64 a1, .int .i64 a2, .int .i64 a3] 3 (0, 0), false⟩] := Hp.start ⟨hb, trivial⟩ (by simp) rfl
  have HB := Lib.hid hb
  clear hb
  go_enter Tryz.func32, Tryz.ntmps32
  go_wp2_with (first | ((with_reducible show Code.wp _ (Code.loop _) _ _ _); refine wp_loop_rounds 5 ?_; rw [rounds_succ]) | ((with_reducible show Code.rounds _ _ _ _ _ _); rw [rounds_succ]) | ((with_reducible show zX (Op.load _ _)); (refine wpl_load HH 0 rfl rfl rfl rfl rfl ?_; (try simp only [Act.put, zz]))) | ((with_reducible show zX (Op.binOp _ _ _ _ _)); (refine wpl_cmp (p := ?_) rfl rfl rfl ?_ ?_ ?_; rotate_left; (focus (go_simp; with_reducible rfl)); all_goals (intro hq; (try (contradiction)); (try simp only [zw] at hq); (try simp only [Act.put, zz])))))
  all_goals (go_ret; refine ⟨?_, HH.below_at (by simp [HB.out])⟩; clear HH HB; simp_all [orL])

set_option maxHeartbeats 1000000 in
set_option maxRecDepth 100000 in
theorem cmpString (a b : ByteArray) (w : World) : Calls Tryz.prog 57 #[.string a, .string b] w fun e w' => e = .returned (.int .i64 (Lib.compareBytes a.data.toList b.data.toList)) ∧ Below w.heap.size w w' := by
  go_enter Tryz.func57, Tryz.ntmps57
  go_wp2
  rw [run_callFunc_extern Tryz.func66 (by kernel_rfl) (by kernel_rfl) (by kernel_rfl) (e := Extern.BytealgCompare.compare) (by kernel_rfl), Lib.run_compareString]
  simp only [Result.andThen]
  rw [Oper.upon_value]
  go_wp2
  go_ret
  exact ⟨rfl, Below.refl _ _⟩
set_option maxRecDepth 100000 in
theorem strCompare (a b : ByteArray) (w : World) : Calls Tryz.prog 48 #[.string a, .string b] w fun e w' => e = .returned (.int .i64 (Lib.compareBytes a.data.toList b.data.toList)) ∧ Below w.heap.size w w' := by
  have HH := Hp.nil w
  go_enter Tryz.func48, Tryz.ntmps48
  go_wp2_with (go_at_call 57; (with_reducible refine ((cmpString _ _) _).mono ?_); rintro e V ⟨rfl, hb⟩; replace HH := HH.next hb; clear hb)
  all_goals (go_ret; refine ⟨?_, HH.below rfl⟩; (rfl))

theorem or2_Hp {a0 a1 : Int} {b : Nat} {own : Bool} {w0 W : World} {l : List En} (HH : Hp w0 W (⟨b, .cells #[.int .i64 a0, .int .i64 a1] 3 (0, 0), own⟩ :: l)) : Calls Tryz.prog 32 #[.slice (some ⟨b, 0, none⟩) 2 2] W fun e w' => e = .returned (.int .i64 (orL [a0, a1])) ∧ Below W.heap.size W w' :=
  or2_walk a0 a1 b W HH.lies.1
theorem or3_Hp {a0 a1 a2 : Int} {b : Nat} {own : Bool} {w0 W : World} {l : List En} (HH : Hp w0 W (⟨b, .cells #[.int .i64 a0, .int .i64 a1, .int .i64 a2] 3 (0, 0), own⟩ :: l)) : Calls Tryz.prog 32 #[.slice (some ⟨b, 0, none⟩) 3 3] W fun e w' => e = .returned (.int .i64 (orL [a0, a1, a2])) ∧ Below W.heap.size W w' :=
  or3_walk a0 a1 a2 b W HH.lies.1
theorem or4_Hp {a0 a1 a2 a3 : Int} {b : Nat} {own : Bool} {w0 W : World} {l : List En} (HH : Hp w0 W (⟨b, .cells #[.int .i64 a0, .int .i64 a1, .int .i64 a2, .int .i64 a3] 3 (0, 0), own⟩ :: l)) : Calls Tryz.prog 32 #[.slice (some ⟨b, 0, none⟩) 4 4] W fun e w' => e = .returned (.int .i64 (orL [a0, a1, a2, a3])) ∧ Below W.heap.size W w' :=
  or4_walk a0 a1 a2 a3 b W HH.lies.1

set_option maxRecDepth 100000 in
set_option maxHeartbeats 4000000 in
theorem wideCmp_walk (h l h2 l2 : Int) (w : World) : Calls Tryz.prog 46 #[.agg #[.int .u64 h, .int .u64 l], .agg #[.int .u64 h2, .int .u64 l2]] w fun e w' => e = .returned (.int .i64 (orL [cmpI h h2, cmpI l l2])) ∧ Below w.heap.size w w' := by
  have HH := Hp.nil w
  go_enter Tryz.func46, Tryz.ntmps46
  go_wp2_with (first | ((with_reducible show zW (Op.buildSlice _ 2 _)); refine wpl_bs2 HH rfl rfl rfl rfl ?_; clear HH; intro b V HH; (try simp only [Act.put, zz])) | (go_at_call 32; (with_reducible refine (or2_Hp HH).mono ?_); rintro e V ⟨rfl, hb⟩; replace HH := HH.next hb; clear hb) | ((with_reducible show zW (Op.box _ _)); refine wpl_box HH rfl rfl rfl ?_; clear HH; intro b V HH; simp only [Act.eval, zx, Value.cells, putl, zC, zB] at HH; (try simp only [Act.put, zz])) | ((with_reducible show Code.wp _ (Code.region _ _ true) _ _ _); (refine wp_tail_Hp (id := 1) [0, 1, 2, 3, 4, 5, 6, 7, 8, 9] [10, 11, 12] (by kernel_rfl) HH ?_; clear HH; (try dsimp only); (try simp only [pick, zy]); repeat' (first | ((with_reducible show wpB _ _ _ _ [] _); refine wpB_nil ?_; intro V HH; (try simp only [pick, zy]); (try simp only [Act.put, zz]); (try simp only [Value.cells] at HH)) | (((with_reducible show zU _); (first | ((with_reducible show zT (Op.load _ _)); (first | refine wpB_load 0 rfl rfl rfl rfl rfl ?_ | refine wpB_load 1 rfl rfl rfl rfl rfl ?_)) | ((with_reducible show zT (Op.call _)); (refine wpB_callE (f := ?_) (args := ?_) (v := ?_) rfl ?_ ?_ ?_; rotate_left 3; (focus (intro w9 hS9; go_simp; (refine ⟨?_, ?_⟩ <;> with_reducible rfl))); (focus (with_reducible exact (cmp_u64 _ _))))) | (refine wpB_val (v := ?_) rfl ?_ ?_; rotate_left; (focus (intro w9 hS9; go_simp; all_goals (with_reducible rfl)))))); all_goals (try simp only [Act.put, zz, Act.eval, zx]))))))
  all_goals (go_ret; refine ⟨?_, HH.below rfl⟩; (rfl))

set_option maxRecDepth 100000 in
theorem bits_gives0 (k l hi lo : Int) (p : ByteArray) (w : World) : Calls Tryz.prog 47 #[.agg #[.int .i64 k, .int .i64 l, .int .u64 hi, .int .u64 lo, .string p]] w fun e w' => e = .returned (.agg #[.int .u64 hi, .int .u64 lo]) ∧ Below w.heap.size w w' := by
  go_enter Tryz.func47, Tryz.ntmps47
  go_wp2_with fail
  refine bodyPost_ret (v := .agg #[.int .u64 hi, .int .u64 lo]) (by simp [results, Tryz.results47, go_sem]) rfl ⟨rfl, ?_⟩
  exact ((Below.refl _ _).alloc (Nat.le_refl _) _).alloc (by simp) _

set_option maxRecDepth 100000 in
set_option maxHeartbeats 4000000 in
theorem keyCmp_walk (k l h o k2 l2 h2 o2 : Int) (p p2 : ByteArray) (w : World) : Calls Tryz.prog 34 #[.agg #[.int .i64 k, .int .i64 l, .int .u64 h, .int .u64 o, .string p], .agg #[.int .i64 k2, .int .i64 l2, .int .u64 h2, .int .u64 o2, .string p2]] w fun e w' => e = .returned (.int .i64 (orL [cmpI k k2, orL [cmpI h h2, cmpI o o2], Lib.compareBytes p.data.toList p2.data.toList, cmpI l l2])) ∧ Below w.heap.size w w' := by
  have HH := Hp.nil w
  go_enter Tryz.func34, Tryz.ntmps34
  go_wp2_with (first | ((with_reducible show zW (Op.buildSlice _ 4 _)); refine wpl_bs4 HH rfl rfl rfl rfl rfl rfl ?_; clear HH; intro b V HH; (try simp only [Act.put, zz])) | (go_at_call 32; (with_reducible refine (or4_Hp HH).mono ?_); rintro e V ⟨rfl, hb⟩; replace HH := HH.next hb; clear hb) | ((with_reducible show zW (Op.box _ _)); refine wpl_box HH rfl rfl rfl ?_; clear HH; intro b V HH; simp only [Act.eval, zx, Value.cells, putl, zC, zB] at HH; (try simp only [Act.put, zz])) | ((with_reducible show Code.wp _ (Code.region _ _ true) _ _ _); (refine wp_tail_Hp (id := 1) [0, 1, 2, 3, 4, 5, 6, 7, 8, 9, 10, 11, 12, 13, 14, 15, 16, 17, 18, 19] [20, 21, 22] (by kernel_rfl) HH ?_; clear HH; (try dsimp only); (try simp only [pick, zy]); repeat' (first | ((with_reducible show wpB _ _ _ _ [] _); refine wpB_nil ?_; intro V HH; (try simp only [pick, zy]); (try simp only [Act.put, zz]); (try simp only [Value.cells] at HH)) | (((with_reducible show zU _); (first | ((with_reducible show zT (Op.load _ _)); (first | refine wpB_load 0 rfl rfl rfl rfl rfl ?_ | refine wpB_load 1 rfl rfl rfl rfl rfl ?_)) | ((with_reducible show zT (Op.call _)); (refine wpB_callE (f := ?_) (args := ?_) (v := ?_) rfl ?_ ?_ ?_; rotate_left 3; (focus (intro w9 hS9; go_simp; (refine ⟨?_, ?_⟩ <;> with_reducible rfl))); (focus (first | (with_reducible exact (cmp_int _ _)) | (with_reducible exact (bits_gives0 _ _ _ _ _)) | (with_reducible exact (wideCmp_walk _ _ _ _)) | (with_reducible exact (strCompare _ _)))))) | (refine wpB_val (v := ?_) rfl ?_ ?_; rotate_left; (focus (intro w9 hS9; go_simp; all_goals (with_reducible rfl)))))); all_goals (try simp only [Act.put, zz, Act.eval, zx]))))))
  all_goals (go_ret; refine ⟨?_, HH.below rfl⟩; (rfl))

set_option maxRecDepth 100000 in
set_option maxHeartbeats 4000000 in
theorem pcmp_walk (a0 a1 u0 l0 u1 l1 : Int) (i0 o0 i1 o1 : Nat) (p0 p1 : ByteArray) (c0 c1 x0 y0 x1 y1 : Int) (f0 g0 f1 g1 : Nat) (q0 q1 : ByteArray) (e0 e1 : Int) (h0 : Gives 34 #[kv u0 l0 i0 o0 p0, kv x0 y0 f0 g0 q0] (.int .i64 e0)) (h1 : Gives 34 #[kv u1 l1 i1 o1 p1, kv x1 y1 f1 g1 q1] (.int .i64 e1)) (w : World) : Calls Tryz.prog 26 #[.agg #[.int .i64 a0, .int .i64 a1, .int .i64 u0, .int .i64 l0, .int .u64 (i0 : Int), .int .u64 (o0 : Int), .string p0, .int .i64 u1, .int .i64 l1, .int .u64 (i1 : Int), .int .u64 (o1 : Int), .string p1], .agg #[.int .i64 c0, .int .i64 c1, .int .i64 x0, .int .i64 y0, .int .u64 (f0 : Int), .int .u64 (g0 : Int), .string q0, .int .i64 x1, .int .i64 y1, .int .u64 (f1 : Int), .int .u64 (g1 : Int), .string q1]] w fun e w' => e = .returned (.int .i64 (if samePx a0 a1 u0 l0 i0 o0 p0 u1 l1 i1 o1 p1 c0 c1 x0 y0 f0 g0 q0 x1 y1 f1 g1 q1 then 0 else orL [orL [cmpI a0 c0, cmpI a1 c1], e0, e1])) ∧ Below w.heap.size w w' := by
  have H0 := h0
  have H1 := h1
  clear h0 h1
  have HH := Hp.nil w
  go_enter Tryz.func26, Tryz.ntmps26
  go_wp2_with (first | ((with_reducible show zW (Op.buildSlice _ 2 _)); refine wpl_bs2 HH rfl rfl rfl rfl ?_; clear HH; intro b V HH; (try simp only [Act.put, zz])) | ((with_reducible show zW (Op.buildSlice _ 3 _)); refine wpl_bs3 HH rfl rfl rfl rfl rfl ?_; clear HH; intro b V HH; (try simp only [Act.put, zz])) | (go_at_call 32; (with_reducible refine (or2_Hp HH).mono ?_); rintro e V ⟨rfl, hb⟩; replace HH := HH.next hb; clear hb) | (go_at_call 32; (with_reducible refine (or3_Hp HH).mono ?_); rintro e V ⟨rfl, hb⟩; replace HH := HH.next hb; clear hb) | ((with_reducible show zX (Op.load _ _)); (first | (refine wpl_load HH 0 rfl rfl rfl rfl rfl ?_; (try simp only [Act.put, zz])) | (refine wpl_load HH 1 rfl rfl rfl rfl rfl ?_; (try simp only [Act.put, zz])))) | ((with_reducible show zX (Op.binOp BinOp.eql 34 _ _ _)); refine wpl_eq34 rfl rfl rfl rfl ?_ ?_; all_goals (intro hq; (try simp only [Act.put, zz]))) | ((with_reducible show zW (Op.box _ _)); refine wpl_box HH rfl rfl rfl ?_; clear HH; intro b V HH; simp only [Act.eval, zx, Value.cells, putl, zC, zB] at HH; (try simp only [Act.put, zz])) | ((with_reducible show Code.wp _ (Code.region _ _ true) _ _ _); (first | (refine wp_tail_Hp (id := 3) [0, 1, 2, 3, 4, 5, 6, 7, 8, 9, 10, 11, 12, 13] [14, 15, 16] (by kernel_rfl) HH ?_; clear HH; (try dsimp only); (try simp only [pick, zy]); repeat' (first | ((with_reducible show wpB _ _ _ _ [] _); refine wpB_nil ?_; intro V HH; (try simp only [pick, zy]); (try simp only [Act.put, zz]); (try simp only [Value.cells] at HH)) | (((with_reducible show zU _); (first | ((with_reducible show zT (Op.load _ _)); (first | refine wpB_load 0 rfl rfl rfl rfl rfl ?_ | refine wpB_load 1 rfl rfl rfl rfl rfl ?_)) | ((with_reducible show zT (Op.call _)); (refine wpB_callE (f := ?_) (args := ?_) (v := ?_) rfl ?_ ?_ ?_; rotate_left 3; (focus (intro w9 hS9; go_simp; (refine ⟨?_, ?_⟩ <;> with_reducible rfl))); (focus (with_reducible exact (cmp_int _ _))))) | (refine wpB_val (v := ?_) rfl ?_ ?_; rotate_left; (focus (intro w9 hS9; go_simp; all_goals (with_reducible rfl)))))); all_goals (try simp only [Act.put, zz, Act.eval, zx])))) | (refine wp_tail_Hp (id := 4) [0, 1, 2, 3, 4, 5, 6, 7, 8, 9, 10, 11, 12, 13, 14] [15, 16, 17] (by kernel_rfl) HH ?_; clear HH; (try dsimp only); (try simp only [pick, zy]); repeat' (first | ((with_reducible show wpB _ _ _ _ [] _); refine wpB_nil ?_; intro V HH; (try simp only [pick, zy]); (try simp only [Act.put, zz]); (try simp only [Value.cells] at HH)) | (((with_reducible show zU _); (first | ((with_reducible show zT (Op.move _)); refine wpB_move rfl rfl rfl ?_) | ((with_reducible show zT (Op.load _ _)); (first | refine wpB_load 1 rfl rfl rfl rfl rfl ?_ | refine wpB_load 2 rfl rfl rfl rfl rfl ?_)) | ((with_reducible show zT (Op.call _)); (refine wpB_callE (f := ?_) (args := ?_) (v := ?_) rfl ?_ ?_ ?_; rotate_left 3; (focus (intro w9 hS9; go_simp; (refine ⟨?_, ?_⟩ <;> with_reducible rfl))); (focus (first | (with_reducible exact (H0)) | (with_reducible exact (H1)))))) | (refine wpB_val (v := ?_) rfl ?_ ?_; rotate_left; (focus (intro w9 hS9; go_simp; all_goals (with_reducible rfl)))))); all_goals (try simp only [Act.put, zz, Act.eval, zx])))))))
  all_goals (go_ret; refine ⟨?_, HH.below rfl⟩; (rfl))

theorem pcmp_gives (p q : Px) : Gives 26 #[p.v, q.v] (.int .i64 (cmpX p q)) := fun w =>
  pcmp_walk _ _ _ _ _ _ _ _ _ _ _ _ _ _ _ _ _ _ _ _ _ _ _ _ _ _ (fun w => keyCmp_walk _ _ _ _ _ _ _ _ _ _ w) (fun w => keyCmp_walk _ _ _ _ _ _ _ _ _ _ w) w

set_option maxRecDepth 100000 in
set_option maxHeartbeats 4000000 in
theorem clo133 (x y : Nd) : Gives 133 #[x.v, y.v] (.int .i64 (cmpX x.p y.p)) := fun w => by
  have HH := Hp.nil w
  go_enter Tryz.func133, Tryz.ntmps133
  go_wp2_with (first | (go_at_call 26; (with_reducible refine ((pcmp_gives x.p y.p) _).mono ?_); rintro e V ⟨rfl, hb⟩; replace HH := HH.next hb; clear hb) | ((with_reducible show zX (Op.load _ _)); (first | (refine wpl_load HH 0 rfl rfl rfl rfl rfl ?_; (try simp only [Act.put, zz])) | (refine wpl_load HH 1 rfl rfl rfl rfl rfl ?_; (try simp only [Act.put, zz])))) | ((with_reducible show zW (Op.box _ _)); refine wpl_box HH rfl rfl rfl ?_; clear HH; intro b V HH; simp only [Act.eval, zx, Value.cells, putl, zC, zB] at HH; (try simp only [Act.put, zz])))
  all_goals (go_ret; refine ⟨?_, HH.below rfl⟩; (rfl))

set_option maxRecDepth 100000 in
set_option maxHeartbeats 4000000 in
theorem clo164 (x y : Nd) : Gives 164 #[x.v, y.v] (.int .i64 (cmpX x.p y.p)) := fun w => by
  have HH := Hp.nil w
  go_enter Tryz.func164, Tryz.ntmps164
  go_wp2_with (first | (go_at_call 26; (with_reducible refine ((pcmp_gives x.p y.p) _).mono ?_); rintro e V ⟨rfl, hb⟩; replace HH := HH.next hb; clear hb) | ((with_reducible show zX (Op.load _ _)); (first | (refine wpl_load HH 0 rfl rfl rfl rfl rfl ?_; (try simp only [Act.put, zz])) | (refine wpl_load HH 1 rfl rfl rfl rfl rfl ?_; (try simp only [Act.put, zz])))) | ((with_reducible show zW (Op.box _ _)); refine wpl_box HH rfl rfl rfl ?_; clear HH; intro b V HH; simp only [Act.eval, zx, Value.cells, putl, zC, zB] at HH; (try simp only [Act.put, zz])))
  all_goals (go_ret; refine ⟨?_, HH.below rfl⟩; (rfl))

end Go.Proofs.YtcbahkfbdlhabaaGreatDoor.Dr
