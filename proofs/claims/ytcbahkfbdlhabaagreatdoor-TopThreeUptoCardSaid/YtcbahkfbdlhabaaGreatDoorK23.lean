/- A part of the proof that the law TopThree returns true for all arguments of bulk at most 1048576 (no other condition). Here: The heap of savings: rows of items, put, swap, cmp, up, down. -/
import Derived.Test.YtcbahkfbdlhabaaGreatDoorK22
namespace Go.Proofs.YtcbahkfbdlhabaaGreatDoor
set_option linter.unusedVariables false
set_option linter.unusedSimpArgs false
open Go.RowKit
attribute [local go_sem] index24_0 index24_1 field34_0 field34_1
attribute [local irreducible] wpList Code.wp wpB

/-- An item of a heap: a prefix and its count. -/
structure It where
  p : Px
  w : Nat
abbrev It.v (x : It) : Value := .agg #[.int .i64 x.p.a0, .int .i64 x.p.a1, .int .i64 x.p.k0.k, .int .i64 x.p.k0.l, .int .u64 (x.p.k0.hi : Int), .int .u64 (x.p.k0.lo : Int), .string x.p.k0.p, .int .i64 x.p.k1.k, .int .i64 x.p.k1.l, .int .u64 (x.p.k1.hi : Int), .int .u64 (x.p.k1.lo : Int), .string x.p.k1.p, .int .u64 (x.w : Int)]
def icells (x : It) : List Value := pcells x.p ++ [.int .u64 (x.w : Int)]
def hrow (l : List It) : List Value := l.flatMap icells
theorem hrow_snoc (l : List It) (q : It) : hrow (l ++ [q]) = hrow l ++ icells q := by simp [hrow]
theorem hrow_len : ∀ l : List It, (hrow l).length = l.length * 13
  | [] => rfl
  | x :: r => by
    have := hrow_len r
    show (icells x ++ hrow r).length = _
    rw [List.length_append, this, List.length_cons]
    show 13 + _ = _
    omega
theorem hrow_split (A : List It) (x : It) (B : List It) (js : List Value) : hrow (A ++ x :: B) ++ js = hrow A ++ (icells x ++ (hrow B ++ js)) := by simp [hrow]
theorem it_split (L : List It) (i : Nat) (hi : i < L.length) : L = L.take i ++ L[i] :: L.drop (i + 1) := by rw [← List.drop_eq_getElem_cons hi, List.take_append_drop]
theorem hrow_at (L : List It) (i : Nat) (js : List Value) (hi : i < L.length) : hrow L ++ js = hrow (L.take i) ++ (icells L[i] ++ (hrow (L.drop (i + 1)) ++ js)) ∧ (hrow (L.take i)).length = i * 13 := by
  refine ⟨?_, by rw [hrow_len, List.length_take, Nat.min_eq_left (by omega)]⟩
  have h := hrow_split (L.take i) L[i] (L.drop (i + 1)) js
  rwa [← it_split L i hi] at h
theorem hrow_get (L : List It) (i : Nat) (js : List Value) (hi : i < L.length) : rdv true 13 (hrow L ++ js) (i * 13) = some (L[i]).v := by
  obtain ⟨h, ha⟩ := hrow_at L i js hi
  rw [h, ← ha, rdv_mid _ (icells L[i]) _ 13 (Nat.le_refl _)]
  rfl
theorem hrow_getP (L : List It) (i : Nat) (js : List Value) (hi : i < L.length) : rdv true 12 (hrow L ++ js) (i * 13) = some (L[i]).p.v := by
  obtain ⟨h, ha⟩ := hrow_at L i js hi
  rw [h, ← ha, rdv_mid _ (icells L[i]) _ 12 (by show 12 ≤ 13; omega)]
  rfl
theorem hrow_getW (L : List It) (i : Nat) (js : List Value) (hi : i < L.length) : rdv false 1 (hrow L ++ js) (i * 13 + 12) = some (.int .u64 ((L[i]).w : Int)) := by
  obtain ⟨h, ha⟩ := hrow_at L i js hi
  rw [h, ← ha]
  show (hrow (L.take i) ++ (icells L[i] ++ _))[(hrow (L.take i)).length + 12]? = _
  rw [List.getElem?_append_right (by omega), Nat.add_sub_cancel_left, List.getElem?_append_left (by show 12 < 13; omega)]
  rfl
theorem putl_at : ∀ (a m b vs : List Value), vs.length = m.length → putl (a ++ (m ++ b)) a.length vs = a ++ (vs ++ b)
  | [], [], b, [], _ => by rw [putl_nil]
  | [], y :: m, b, v :: vs, h => by
    have := putl_at [] m b vs (by simpa using h)
    show v :: putl (m ++ b) 0 vs = _
    simp only [List.nil_append, List.length_nil] at this
    rw [this]
    rfl
  | x :: a, m, b, vs, h => by
    have h1 := putl_at a m b vs h
    cases vs with
    | nil =>
      rw [putl_nil]
      have : m = [] := List.eq_nil_of_length_eq_zero (by simpa using h.symm)
      rw [this]
    | cons v vs =>
      show x :: putl (a ++ (m ++ b)) a.length (v :: vs) = _
      rw [h1]
      rfl
theorem hrow_put (L : List It) (i : Nat) (js : List Value) (x : It) (hi : i < L.length) : putl (hrow L ++ js) (i * 13) (icells x) = hrow (L.set i x) ++ js := by
  obtain ⟨h, ha⟩ := hrow_at L i js hi
  have h2 : L.set i x = L.take i ++ x :: L.drop (i + 1) := by rw [List.set_eq_take_append_cons_drop, if_pos hi]
  rw [h, ← ha, putl_at _ (icells L[i]) _ (icells x) rfl, h2, hrow_split]
theorem hrow_putW (L : List It) (i : Nat) (js : List Value) (u : Nat) (hi : i < L.length) : putl (hrow L ++ js) (i * 13 + 12) [.int .u64 (u : Int)] = hrow (L.set i ⟨L[i].p, u⟩) ++ js := by
  obtain ⟨h, ha⟩ := hrow_at L i js hi
  have h2 : L.set i ⟨L[i].p, u⟩ = L.take i ++ ⟨L[i].p, u⟩ :: L.drop (i + 1) := by rw [List.set_eq_take_append_cons_drop, if_pos hi]
  have h3 : hrow L ++ js = (hrow (L.take i) ++ pcells L[i].p) ++ ([.int .u64 (L[i].w : Int)] ++ (hrow (L.drop (i + 1)) ++ js)) := by
    rw [h]
    simp [icells]
  have h4 : (hrow (L.take i) ++ pcells L[i].p).length = i * 13 + 12 := by rw [List.length_append, ha]; rfl
  rw [h3, ← h4, putl_at _ [.int .u64 (L[i].w : Int)] _ [.int .u64 (u : Int)] rfl, h2, hrow_split]
  simp [icells]
theorem hrow_ble {L : List It} {js : List Value} {i k : Nat} (hi : i < L.length) (hk : k ≤ 13) : Nat.ble (i * 13 + k) (hrow L ++ js).length = true := by
  rw [List.length_append, hrow_len]
  refine Nat.ble_eq_true_of_le ?_
  have : (i + 1) * 13 ≤ L.length * 13 := Nat.mul_le_mul_right 13 hi
  omega
theorem elt95 : ElT 95 250 13 120 (.agg #[.int .i64 0, .int .i64 0, .int .i64 0, .int .i64 0, .int .u64 0, .int .u64 0, .string ⟨#[]⟩, .int .i64 0, .int .i64 0, .int .u64 0, .int .u64 0, .string ⟨#[]⟩, .int .u64 0]) :=
  ⟨by kernel_rfl, by
    have h : (Tryz.prog.info? 250).map (fun i => (i.zero, i.size, i.bytes)) = some (some (.agg #[.int .i64 0, .int .i64 0, .int .i64 0, .int .i64 0, .int .u64 0, .int .u64 0, .string ⟨#[]⟩, .int .i64 0, .int .i64 0, .int .u64 0, .int .u64 0, .string ⟨#[]⟩, .int .u64 0]), 13, 120) := by kernel_rfl
    exact info_parts h, rfl, by decide⟩
set_option maxRecDepth 100000 in
theorem run_bs95 (x : It) (w : World) : (Instr.buildSlice 95 1 #[(0, x.v)]).run Tryz.prog w = .ok (.slice (some ⟨w.heap.size, 0, none⟩) 1 1) (w.alloc (.cells (icells x).toArray 250)) := by
  simp [go_sem, icells, pcells]
theorem wpl_bs95 {ops : Array Oper} {rest : List Oper} {o : Oper} {act : Act} {Q : Exit → Act → World → Prop} {w0 W : World} {L : List En} {x : Operand} (HH : Hp w0 W L) (q : It) (hop : o.op = .buildSlice 95 1 #[(0, x)]) (hw : Region.wanted o (yielded ops act.tmps) = true) (hx : act.eval x = q.v)
    (hh : ∀ b' V, Hp w0 V (⟨b', .cells (icells q).toArray 250 (0, 0), true⟩ :: L) → wpList Tryz.prog ops Q rest (act.put o.dst (.slice (some ⟨b', 0, none⟩) 1 1)) V) : wpList Tryz.prog ops Q (o :: rest) act W :=
  wpList_on hw fun K hK => by
    unfold Oper.wp execOp
    simp only [hop, List.map_toArray, List.map_cons, List.map_nil, hx, run_bs95, Sem.run_bind, Sem.run_pure, Result.andThen_ok]
    exact hK _ _ (hh _ _ (HH.alloc _))
set_option maxRecDepth 100000 in
theorem run_idx95 {ρ : Operand → Value} {o : Oper} {x y : Operand} {g n cap p : Nat} (hop : o.op = .indexAddr 95 x y) (hx : ρ x = .slice (some ⟨g, 0, none⟩) n cap) (hy : ρ y = .int .i64 (p : Int)) (hp : p < n) (w : World) : (execOp ρ o).run Tryz.prog w = .ok (.value (.pointer (some ⟨g, p * 13, none⟩))) w := by
  unfold execOp
  simp only [hop, hx, hy]
  have hq : (p : Int) < (n : Int) := by omega
  have hz : ¬ (p : Int) < 0 := by omega
  go_simp
  all_goals skip
theorem wpl_storeI {ops : Array Oper} {rest : List Oper} {o : Oper} {a : Act} {Q : Exit → Act → World → Prop} {w0 W : World} {l : List En} {x y : Operand} {g : Nat} {L : List It} {js : List Value} {own : Bool} (HH : Hp w0 W l) (k i : Nat) (q : It) (hop : o.op = .store 250 x y) (hx : a.eval x = .pointer (some ⟨g, i * 13, none⟩)) (he : l[k]? = some ⟨g, .cells (hrow L ++ js).toArray 250 (0, 0), own⟩) (hw : Region.wanted o (yielded ops a.tmps) = true) (hy : a.eval y = q.v) (hi : i < L.length)
    (h : ∀ V, Hp w0 V (l.set k ⟨g, .cells (hrow (L.set i q) ++ js).toArray 250 (0, 0), own⟩) → wpList Tryz.prog ops Q rest (a.put o.dst undef) V) : wpList Tryz.prog ops Q (o :: rest) a W :=
  wpl_store HH k hop hx he hw hy rfl rfl (hrow_ble hi (Nat.le_refl _)) fun V hV => h V (by
    have e := hrow_put L i js q hi
    have e2 : q.v.cells.toList = icells q := rfl
    rw [e2, e] at hV
    exact hV)
theorem wpl_storeW {ops : Array Oper} {rest : List Oper} {o : Oper} {a : Act} {Q : Exit → Act → World → Prop} {w0 W : World} {l : List En} {x y : Operand} {g : Nat} {L : List It} {js : List Value} {own : Bool} (HH : Hp w0 W l) (k i u : Nat) (hi : i < L.length) (hop : o.op = .store 29 x y) (hx : a.eval x = .pointer (some ⟨g, i * 13 + 12, none⟩)) (he : l[k]? = some ⟨g, .cells (hrow L ++ js).toArray 250 (0, 0), own⟩) (hw : Region.wanted o (yielded ops a.tmps) = true) (hy : a.eval y = .int .u64 (u : Int))
    (h : ∀ V, Hp w0 V (l.set k ⟨g, .cells (hrow (L.set i ⟨L[i].p, u⟩) ++ js).toArray 250 (0, 0), own⟩) → wpList Tryz.prog ops Q rest (a.put o.dst undef) V) : wpList Tryz.prog ops Q (o :: rest) a W :=
  wpl_store HH k hop hx he hw hy rfl rfl (hrow_ble (k := 13) hi (Nat.le_refl _)) fun V hV => h V (by
    have e := hrow_putW L i js u hi
    have e2 : (Value.int .u64 (u : Int)).cells.toList = [.int .u64 (u : Int)] := rfl
    rw [e2, e] at hV
    exact hV)
/-- A heap's block. -/
abbrev HB (H bm : Nat) (v : Value) : En := ⟨H, .cells #[.func (.func 26) #[] #[], .map (some bm), v] 97 (0, 0), true⟩
/-- A heap's row. -/
abbrev RW (g : Nat) (hs : List It) (js : List Value) : En := ⟨g, .cells (hrow hs ++ js).toArray 250 (0, 0), true⟩

set_option maxRecDepth 100000 in
set_option maxHeartbeats 4000000 in
theorem hput_walk {w0 w : World} {l : List En} {H bm g n cap c : Nat} {hs : List It} {mm : List (Me Int)} {js : List Value} (HH : Hp w0 w (HB H bm (.slice (some ⟨g, 0, none⟩) n cap) :: ⟨bm, mp encI mm c, true⟩ :: RW g hs js :: l)) (i : Nat) (hi : i < hs.length) (hn : n = hs.length) (x : It) : Calls Tryz.prog 218 #[.pointer (some ⟨H, 0, none⟩), .int .i64 (i : Int), x.v] w fun e w' => e = .returned (.tuple #[]) ∧ Hp w0 w' (HB H bm (.slice (some ⟨g, 0, none⟩) n cap) :: ⟨bm, mp encI (mputL mm c x.p (i : Int)) (mputC mm c x.p), true⟩ :: RW g (hs.set i x) js :: l) := by
  have hin : i < n := by omega
  go_enter Tryz.func218, Tryz.ntmps218
  go_wp2_with (first | ((with_reducible show zW (Op.store 250 _ _)); (refine wpl_storeI HH 3 i x rfl rfl rfl rfl rfl hi ?_); clear HH; intro V HH; (try simp only [zC, zB] at HH); (try simp only [Act.put, zz])) | ((with_reducible show zW (Op.mapUpdate 94 _ _ _)); (refine wpl_put (enc := encI) HH 2 x.p (i : Int) rfl rfl rfl rfl rfl rfl ?_); clear HH; intro V HH; (try simp only [zC, zB] at HH); (try simp only [Act.put, zz])) | ((with_reducible show zW (Op.box _ _)); refine wpl_box HH rfl rfl rfl ?_; clear HH; intro b V HH; simp only [Act.eval, zx, Value.cells, putl, zC, zB] at HH; (try simp only [Act.put, zz])) | ((with_reducible show Code.wp _ (Code.region _ _ true) _ _ _); (first | (refine wp_tail_Hp (id := 1) [0, 1, 2, 3, 4, 5, 6] [7] (by kernel_rfl) HH ?_; clear HH; (try simp only [pick, zy]); repeat' (first | ((with_reducible show wpB _ _ _ _ [] _); refine wpB_nil ?_; intro V HH) | (((with_reducible show zU _); (first | ((with_reducible show zT (Op.move _)); refine wpB_move rfl rfl rfl ?_) | ((with_reducible show zU (Op.indexAddr 95 _ _)); refine wpB_val rfl (fun V _ => run_idx95 (p := i) rfl rfl rfl hin V) ?_) | ((with_reducible show zT (Op.load _ _)); (first | refine wpB_load 0 rfl rfl rfl rfl rfl ?_ | refine wpB_load 1 rfl rfl rfl rfl rfl ?_)) | (refine wpB_val (v := ?_) rfl ?_ ?_; rotate_left; (focus (intro w9 hS9; go_simp; all_goals (with_reducible rfl)))))); all_goals (try simp only [Act.put, zz, Act.eval, zx])))) | (refine wp_tail_Hp (id := 2) [0, 1, 2, 3, 4, 5, 6] [7] (by kernel_rfl) HH ?_; clear HH; (try simp only [pick, zy]); repeat' (first | ((with_reducible show wpB _ _ _ _ [] _); refine wpB_nil ?_; intro V HH) | (((with_reducible show zU _); (first | ((with_reducible show zT (Op.move _)); refine wpB_move rfl rfl rfl ?_) | ((with_reducible show zT (Op.load _ _)); (first | refine wpB_load 0 rfl rfl rfl rfl rfl ?_ | refine wpB_load 1 rfl rfl rfl rfl rfl ?_)) | (refine wpB_val (v := ?_) rfl ?_ ?_; rotate_left; (focus (intro w9 hS9; go_simp; all_goals (with_reducible rfl)))))); all_goals (try simp only [Act.put, zz, Act.eval, zx])))))))
  go_end0
  exact ⟨rfl, HH.drop rfl⟩

set_option maxRecDepth 100000 in
theorem run_addN {ρ : Operand → Value} {o : Oper} {x y : Operand} {a b r : Nat} (hop : o.op = .binOp .add 3 x y 3) (hx : ρ x = .int .i64 (a : Int)) (hy : ρ y = .int .i64 (b : Int)) (h : a + b < 9223372036854775808) (hr : a + b = r) (w : World) : (execOp ρ o).run Tryz.prog w = .ok (.value (.int .i64 (r : Int))) w := by
  subst hr
  unfold execOp
  simp only [hop, hx, hy]
  have hw : IntKind.i64.wrap ((a : Int) + (b : Int)) = ((a + b : Nat) : Int) := by
    rw [IntWalk.i64_in _ (by omega)]
    push_cast; rfl
  simp [go_sem, hw]
set_option maxRecDepth 100000 in
theorem run_subN {ρ : Operand → Value} {o : Oper} {x y : Operand} {a b r : Nat} (hop : o.op = .binOp .sub 3 x y 3) (hx : ρ x = .int .i64 (a : Int)) (hy : ρ y = .int .i64 (b : Int)) (h : b ≤ a ∧ a < 9223372036854775808) (hr : a - b = r) (w : World) : (execOp ρ o).run Tryz.prog w = .ok (.value (.int .i64 (r : Int))) w := by
  subst hr
  unfold execOp
  simp only [hop, hx, hy]
  have hw : IntKind.i64.wrap ((a : Int) - (b : Int)) = ((a - b : Nat) : Int) := by
    rw [IntWalk.i64_in _ (by omega)]
    omega
  simp [go_sem, hw]
set_option maxRecDepth 100000 in
theorem run_mulN {ρ : Operand → Value} {o : Oper} {x y : Operand} {a b r : Nat} (hop : o.op = .binOp .mul 3 x y 3) (hx : ρ x = .int .i64 (a : Int)) (hy : ρ y = .int .i64 (b : Int)) (h : a * b < 9223372036854775808) (hr : a * b = r) (w : World) : (execOp ρ o).run Tryz.prog w = .ok (.value (.int .i64 (r : Int))) w := by
  subst hr
  unfold execOp
  simp only [hop, hx, hy]
  have hw : IntKind.i64.wrap ((a : Int) * (b : Int)) = ((a * b : Nat) : Int) := by
    rw [IntWalk.i64_in _ (by rw [← Int.natCast_mul]; omega)]
    push_cast; rfl
  simp [go_sem, hw]
set_option maxRecDepth 100000 in
theorem run_quoN {ρ : Operand → Value} {o : Oper} {x y : Operand} {a b r : Nat} (hop : o.op = .binOp .quo 3 x y 3) (hx : ρ x = .int .i64 (a : Int)) (hy : ρ y = .int .i64 (b : Int)) (h : 0 < b ∧ a < 9223372036854775808) (hr : a / b = r) (w : World) : (execOp ρ o).run Tryz.prog w = .ok (.value (.int .i64 (r : Int))) w := by
  subst hr
  unfold execOp
  simp only [hop, hx, hy]
  have hw : IntKind.i64.wrap ((a : Int) / (b : Int)) = ((a / b : Nat) : Int) := by
    rw [IntWalk.i64_in _ (by rw [← Int.natCast_ediv]; have := Nat.div_le_self a b; generalize a / b = q at *; omega)]
    rw [Int.natCast_ediv]
  have hb : ¬ b = 0 := by omega
  simp [go_sem, hb, hw]

/-- A heap's map tells where each prefix lies. -/
def HI (hs : List It) (mm : List (Me Int)) (c : Nat) : Prop := MOk mm c ∧ (∀ (i : Nat) (hi : i < hs.length), mget mm hs[i].p = some (i : Int)) ∧ ∀ p, (∀ x ∈ hs, x.p ≠ p) → mget mm p = none
theorem HI.inj {hs : List It} {mm : List (Me Int)} {c : Nat} (h : HI hs mm c) {i j : Nat} (hi : i < hs.length) (hj : j < hs.length) (e : hs[i].p = hs[j].p) : i = j := by
  have h1 := h.2.1 i hi
  rw [e, h.2.1 j hj] at h1
  have := Option.some.inj h1
  omega
theorem HI.nodup {hs : List It} {mm : List (Me Int)} {c : Nat} (h : HI hs mm c) : (hs.map It.p).Nodup := by
  rw [List.nodup_iff_pairwise_ne, List.pairwise_iff_getElem]
  intro i j hi hj hij e
  rw [List.getElem_map, List.getElem_map] at e
  have := h.inj (by simpa using hi) (by simpa using hj) e
  omega
theorem swap_perm (L : List It) (i j : Nat) (hi : i < L.length) (hj : j < L.length) : ((L.set i L[j]).set j L[i]).Perm L := by
  have h := Array.swap_perm (xs := L.toArray) (i := i) (j := j) (by simpa using hi) (by simpa using hj)
  have h2 : L.toArray.swap i j (by simpa using hi) (by simpa using hj) = ((L.set i L[j]).set j L[i]).toArray := by
    simp [Array.swap_def]
  rw [h2] at h
  exact Array.perm_iff_toList_perm.1 h
theorem HI.swap {hs : List It} {mm : List (Me Int)} {c : Nat} (h : HI hs mm c) {i j : Nat} (hi : i < hs.length) (hj : j < hs.length) :
    HI ((hs.set i hs[j]).set j hs[i]) (mputL (mputL mm c hs[j].p (i : Int)) (mputC mm c hs[j].p) hs[i].p (j : Int)) (mputC (mputL mm c hs[j].p (i : Int)) (mputC mm c hs[j].p) hs[i].p) := by
  refine ⟨(h.1.put _ _).put _ _, fun k hk => ?_, fun p hp => ?_⟩
  · rw [mget_put, mget_put]
    have hk2 : k < hs.length := by simpa using hk
    by_cases h1 : k = j
    · subst h1
      rw [List.getElem_set_self, if_pos rfl]
    · rw [List.getElem_set_ne (by omega)]
      by_cases h2 : k = i
      · subst h2
        rw [List.getElem_set_self, if_neg (fun e : hs[j].p = hs[k].p => h1 (h.inj hk2 hj e.symm)), if_pos rfl]
      · rw [List.getElem_set_ne (by omega), if_neg (fun e => h2 (h.inj hk2 hi e)), if_neg (fun e => h1 (h.inj hk2 hj e))]
        exact h.2.1 k hk2
  · have hp2 : ∀ x ∈ hs, x.p ≠ p := fun x hx => hp x ((swap_perm hs i j hi hj).mem_iff.2 hx)
    rw [mget_put, mget_put, if_neg (fun e => hp2 _ (List.getElem_mem hi) e.symm), if_neg (fun e => hp2 _ (List.getElem_mem hj) e.symm)]
    exact h.2.2 p hp2

set_option maxRecDepth 100000 in
set_option maxHeartbeats 4000000 in
theorem hswap_walk {w0 w : World} {l : List En} {H bm g n cap c : Nat} {hs : List It} {mm : List (Me Int)} {js : List Value} (HH : Hp w0 w (HB H bm (.slice (some ⟨g, 0, none⟩) n cap) :: ⟨bm, mp encI mm c, true⟩ :: RW g hs js :: l)) (i j : Nat) (hi : i < hs.length) (hj : j < hs.length) (hn : n = hs.length) (hI : HI hs mm c) : Calls Tryz.prog 217 #[.pointer (some ⟨H, 0, none⟩), .int .i64 (i : Int), .int .i64 (j : Int)] w fun e w' => ∃ (hs' : List It) (mm' : List (Me Int)) (c' : Nat), e = .returned (.tuple #[]) ∧ hs'.Perm hs ∧ hs' = (hs.set i hs[j]).set j hs[i] ∧ HI hs' mm' c' ∧ Hp w0 w' (HB H bm (.slice (some ⟨g, 0, none⟩) n cap) :: ⟨bm, mp encI mm' c', true⟩ :: RW g hs' js :: l) := by
  have hin : i < n := by omega
  have hjn : j < n := by omega
  have HIN := Lib.hid hI
  clear hI
  go_enter Tryz.func217, Tryz.ntmps217
  go_wp2_with (first | ((with_reducible show Code.wp _ (Code.region _ _ true) _ _ _); refine wp_segs_Hp (id := 0) [([0, 1, 2, 3, 4, 5, 6, 7, 8, 9, 10, 11, 12, 13], 15, true), ([], 16, false), ([], 17, false)] 14 _ (by simp only [zy]; rfl) (by kernel_rfl) HH (by (exact fun V h => h)) ?_; clear HH; (try simp only [pickG, pickS, pick, zy])) | ((first | ((with_reducible show wpG _ _ _ _ _ (_ :: _) _ _); refine wpG_seg ?_) | ((with_reducible show wpH _ _ _ _ (_ :: _) _ _); refine wpH_seg ?_)); repeat' (first | ((with_reducible show wpB _ _ _ _ [] _); refine wpB_nil ?_; (first | refine effG_step rfl rfl (fun V HH => ?_) (fun V HH => ?_) | refine effG_only rfl (fun V HH => ?_) | refine effH_step rfl (fun V HH => ?_)); all_goals (try simp only [unf, List.map_cons, List.map_nil])) | (((with_reducible show zU _); (first | ((with_reducible show zT (Op.move _)); refine wpB_move rfl rfl rfl ?_) | ((with_reducible show zU (Op.indexAddr 95 _ _)); refine wpB_val rfl (fun V _ => run_idx95 (p := i) rfl rfl rfl hin V) ?_) | ((with_reducible show zU (Op.indexAddr 95 _ _)); refine wpB_val rfl (fun V _ => run_idx95 (p := j) rfl rfl rfl hjn V) ?_) | ((with_reducible show zU (Op.load 250 _)); refine wpB_load 2 rfl rfl rfl rfl (hrow_get hs i _ hi) ?_) | ((with_reducible show zU (Op.load 250 _)); refine wpB_load 2 rfl rfl rfl rfl (hrow_get hs j _ hj) ?_) | ((with_reducible show zT (Op.load _ _)); (refine wpB_load 0 rfl rfl rfl rfl rfl ?_)) | (refine wpB_val (v := ?_) rfl ?_ ?_; rotate_left; (focus (intro w9 hS9; go_simp; all_goals (with_reducible rfl)))))); all_goals (try simp only [Act.put, zz, Act.eval, zx])))) | ((with_reducible show wpH _ _ _ _ [] _ _); refine wpH_nil ?_; intro V HH) | ((first | ((with_reducible show stepG _ _ _ _ _ _ _ _); refine stepG_on HH (by (exact fun V h => h.drop rfl)) ?_; clear HH) | ((with_reducible show stepH _ _ _ _ _ _ _); refine stepH_on HH (by (first | exact fun V h => h.drop rfl | exact fun V h => (h.drop rfl).drop rfl)) ?_; clear HH))) | (first | (go_at_call 218; have H9 := (((HH.front 4 rfl).front 4 rfl).front 4 rfl); (try simp only [List.eraseIdx] at H9); (with_reducible refine (hput_walk H9 i hi (by simpa using hn) hs[j]).mono ?_); clear H9; rintro e9 V ⟨rfl, HH2⟩; clear HH; have HH := HH2; clear HH2; (try simp only [Act.put, zz])) | (go_at_call 218; have H9 := HH; (with_reducible refine (hput_walk H9 j (by simpa using hj) (by simpa using hn) hs[i]).mono ?_); clear H9; rintro e9 V ⟨rfl, HH2⟩; clear HH; have HH := HH2; clear HH2; (try simp only [Act.put, zz]))) | ((with_reducible show zX (Op.load _ _)); (first | (refine wpl_load HH 0 rfl rfl rfl rfl rfl ?_; (try simp only [Act.put, zz])) | (refine wpl_load HH 1 rfl rfl rfl rfl rfl ?_; (try simp only [Act.put, zz])) | (refine wpl_load HH 3 rfl rfl rfl rfl rfl ?_; (try simp only [Act.put, zz])) | (refine wpl_load HH 4 rfl rfl rfl rfl rfl ?_; (try simp only [Act.put, zz])))) | ((with_reducible show zW (Op.store _ _ _)); (first | (refine wpl_store HH 0 rfl rfl rfl rfl rfl rfl rfl rfl ?_; clear HH; intro V HH; simp only [Act.eval, zx, Value.cells, putl, zC, zB] at HH; (try simp only [Act.put, zz])) | (refine wpl_store HH 1 rfl rfl rfl rfl rfl rfl rfl rfl ?_; clear HH; intro V HH; simp only [Act.eval, zx, Value.cells, putl, zC, zB] at HH; (try simp only [Act.put, zz])))) | ((with_reducible show zW (Op.alloc _)); refine wpl_alloc HH rfl rfl ?_; clear HH; intro b V HH; simp only [Act.eval, zx, Value.cells, putl, zC, zB] at HH; (try simp only [Act.put, zz])))
  all_goals (go_end0; exact ⟨_, _, _, rfl, swap_perm hs i j hi hj, rfl, HIN.out.swap hi hj, (HH.lose 3 rfl rfl).lose 3 rfl rfl⟩)

/-- The order of a heap's items. -/
def cmpH (x y : It) : Int := orL [cmpI x.w y.w, cmpX x.p y.p]
set_option maxRecDepth 100000 in
set_option maxHeartbeats 4000000 in
theorem hcmp (w : World) {H bm : Nat} {v : Value} (hH : w.heap[H]? = some (.cells #[.func (.func 26) #[] #[], .map (some bm), v] 97 (0, 0))) (x y : It) : Calls Tryz.prog 216 #[.pointer (some ⟨H, 0, none⟩), x.v, y.v] w fun e w' => e = .returned (.int .i64 (cmpH x y)) ∧ Below w.heap.size w w' := by
  have HH : Hp w w [⟨H, .cells #[.func (.func 26) #[] #[], .map (some bm), v] 97 (0, 0), false⟩] := Hp.start ⟨hH, trivial⟩ (by simp) rfl
  have hGL := Lib.hid hH
  clear hH
  have HPC := pcmp_gives x.p y.p
  go_enter Tryz.func216, Tryz.ntmps216
  go_wp2_with (first | ((with_reducible show zW (Op.buildSlice _ 2 _)); refine wpl_bs2 HH rfl rfl rfl rfl ?_; clear HH; intro b V HH; (try simp only [Act.put, zz])) | (go_at_call 32; (with_reducible refine (or2_Hp HH).mono ?_); rintro e V ⟨rfl, hb⟩; replace HH := HH.next hb; clear hb) | ((with_reducible show zW (Op.box _ _)); refine wpl_box HH rfl rfl rfl ?_; clear HH; intro b V HH; simp only [Act.eval, zx, Value.cells, putl, zC, zB] at HH; (try simp only [Act.put, zz])) | ((with_reducible show Code.wp _ (Code.region _ _ true) _ _ _); (refine wp_tail_Hp (id := 1) [0, 1, 2, 3, 4, 5, 6, 7, 8, 9, 10, 11, 12, 13] [14, 15, 16] (by kernel_rfl) HH ?_; clear HH; (try simp only [pick, zy]); repeat' (first | ((with_reducible show wpB _ _ _ _ [] _); refine wpB_nil ?_; intro V HH) | (((with_reducible show zU _); (first | ((with_reducible show zT (Op.move _)); refine wpB_move rfl rfl rfl ?_) | ((with_reducible show zT (Op.load _ _)); (first | refine wpB_load 0 rfl rfl rfl rfl rfl ?_ | refine wpB_load 1 rfl rfl rfl rfl rfl ?_ | refine wpB_load 2 rfl rfl rfl rfl rfl ?_)) | ((with_reducible show zT (Op.call _)); (refine wpB_callE (f := ?_) (args := ?_) (v := ?_) rfl ?_ ?_ ?_; rotate_left 3; (focus (intro w9 hS9; go_simp; (refine ⟨?_, ?_⟩ <;> with_reducible rfl))); (focus (first | (with_reducible exact (cmp_u64 _ _)) | (with_reducible exact (HPC)))))) | (refine wpB_val (v := ?_) rfl ?_ ?_; rotate_left; (focus (intro w9 hS9; go_simp; all_goals (with_reducible rfl)))))); all_goals (try simp only [Act.put, zz, Act.eval, zx]))))))
  go_ret
  exact ⟨rfl, Hp.back (l := [_, _, _]) (r := [_]) HH (by intro e he; simp only [List.mem_singleton] at he; subst he; exact hGL.out) rfl⟩

set_option maxRecDepth 100000 in
set_option maxHeartbeats 4000000 in
theorem hup_walk {w0 w : World} {l : List En} {H bm g n cap c : Nat} {hs : List It} {mm : List (Me Int)} {js : List Value} (HH : Hp w0 w (HB H bm (.slice (some ⟨g, 0, none⟩) n cap) :: ⟨bm, mp encI mm c, true⟩ :: RW g hs js :: l)) (i : Nat) (hi : i < hs.length) (hn : n = hs.length) (hlen : hs.length ≤ 1000000) (hI : HI hs mm c) : Calls Tryz.prog 215 #[.pointer (some ⟨H, 0, none⟩), .int .i64 (i : Int)] w fun e w' => ∃ (hs' : List It) (mm' : List (Me Int)) (c' : Nat), e = .returned (.tuple #[]) ∧ hs'.Perm hs ∧ HI hs' mm' c' ∧ Hp w0 w' (HB H bm (.slice (some ⟨g, 0, none⟩) n cap) :: ⟨bm, mp encI mm' c', true⟩ :: RW g hs' js :: l) := by
  have HIN := Lib.hid hI
  clear hI
  go_enter Tryz.func215, Tryz.ntmps215
  go_wp2_with (fail)
  go_loopw [1] (fun v1 wr => ∃ (k : Nat) (hs1 : List It) (mm1 : List (Me Int)) (c1 : Nat), k < hs.length ∧ v1 = .int .i64 k ∧ hs1.Perm hs ∧ HI hs1 mm1 c1 ∧ Hp w0 wr (HB H bm (.slice (some ⟨g, 0, none⟩) n cap) :: ⟨bm, mp encI mm1 c1, true⟩ :: RW g hs1 js :: l)) (fun v1 _ => (intOf v1).toNat)
  case atStart => exact ⟨i, hs, mm, c, hi, rfl, List.Perm.refl _, HIN.out, HH⟩
  case round =>
    obtain ⟨k, hs1, mm1, c1, hk, rfl, hpm, hI1, HR2⟩ := hrel
    have HH := HR2
    clear HR2
    have HIN1 := Lib.hid hI1
    clear hI1
    have hl1 := hpm.length_eq
    have hk1 : k < hs1.length := by omega
    obtain ⟨kp, hkp⟩ : ∃ kp, k - 1 = kp := ⟨_, rfl⟩
    obtain ⟨q, hqq⟩ : ∃ q, kp / 2 = q := ⟨_, rfl⟩
    have hq1 : q < hs1.length := by omega
    have hkn : k < n := by omega
    have hqn : q < n := by omega
    have hn1 : n = hs1.length := by omega
    go_wp2_with (first | ((with_reducible show zW (Op.binOp BinOp.sub 3 _ _ _)); refine wpl_valu rfl (run_subN (a := k) (b := 1) (r := kp) rfl rfl rfl ⟨by omega, by omega⟩ hkp _) ?_; (try simp only [Act.put, zz])) | ((with_reducible show zW (Op.binOp BinOp.quo 3 _ _ _)); refine wpl_valu rfl (run_quoN (a := kp) (b := 2) (r := q) rfl rfl rfl ⟨by omega, by omega⟩ hqq _) ?_; (try simp only [Act.put, zz])) | (go_at_call 217; (with_reducible refine (hswap_walk HH q k hq1 hk1 hn1 HIN1.out).mono ?_); rintro e9 V ⟨hs2, mm2, c2, rfl, hpm2, hse, hI2, HH2⟩; clear HH; have HH := HH2; clear HH2; (try simp only [Act.put, zz])) | ((with_reducible show zX (Op.binOp _ _ _ _ _)); (refine wpl_cmp (p := ?_) rfl rfl rfl ?_ ?_ ?_; rotate_left; (focus (go_simp; with_reducible rfl)); all_goals (intro hq; (try simp only [zw] at hq); (try simp only [Act.put, zz])))) | ((with_reducible show Code.wp _ (Code.region _ _ true) _ _ _); (refine wp_tail_Hp (id := 2) [0, 1, 2, 3, 4, 5, 6, 7, 8, 9, 10, 11, 12, 13, 14, 15, 16] [] (by kernel_rfl) HH ?_; clear HH; (try simp only [pick, zy]); repeat' (first | ((with_reducible show wpB _ _ _ _ [] _); refine wpB_nil ?_; intro V HH) | (((with_reducible show zU _); (first | ((with_reducible show zT (Op.move _)); refine wpB_move rfl rfl rfl ?_) | ((with_reducible show zU (Op.indexAddr 95 _ _)); refine wpB_val rfl (fun V _ => run_idx95 (p := q) rfl rfl rfl hqn V) ?_) | ((with_reducible show zU (Op.indexAddr 95 _ _)); refine wpB_val rfl (fun V _ => run_idx95 (p := k) rfl rfl rfl hkn V) ?_) | ((with_reducible show zU (Op.load 250 _)); refine wpB_load 2 rfl rfl rfl rfl (hrow_get hs1 q _ hq1) ?_) | ((with_reducible show zU (Op.load 250 _)); refine wpB_load 2 rfl rfl rfl rfl (hrow_get hs1 k _ hk1) ?_) | ((with_reducible show zT (Op.call _)); refine wpB_callH (f := 216) (args := #[.pointer (some ⟨H, 0, none⟩), (hs1[q]'(hq1)).v, (hs1[k]'(hk1)).v]) (v := .int .i64 (cmpH (hs1[q]'(hq1)) (hs1[k]'(hk1)))) rfl (fun V hV => hcmp V (Hp.get hV 0 rfl) _ _) (fun w9 hS9 => ?_) ?_; (focus (go_simp; all_goals (fail)))) | ((with_reducible show zT (Op.load _ _)); (refine wpB_load 0 rfl rfl rfl rfl rfl ?_)) | ((with_reducible show zT (Op.binOp _ _ _ _ _)); (refine wpB_bool (p := ?_) rfl ?_ ?_ ?_; rotate_left; (focus (intro w9 hS9; go_simp; with_reducible rfl)); all_goals (intro hq))) | (refine wpB_val (v := ?_) rfl ?_ ?_; rotate_left; (focus (intro w9 hS9; go_simp; all_goals (with_reducible rfl)))))); all_goals (try simp only [Act.put, zz, Act.eval, zx]))))))
    · ((refine bodyPost_ret (results_none rfl _ _ _) rfl ?_))
      exact ⟨hs1, mm1, c1, rfl, hpm, HIN1.out, HH⟩
    · refine ⟨⟨q, hs2, mm2, c2, by omega, rfl, hpm2.trans hpm, hI2, HH⟩, ?_⟩
      simp [intOf]
      omega
    · go_end0
      exact ⟨hs1, mm1, c1, rfl, hpm, HIN1.out, HH⟩

set_option maxRecDepth 100000 in
set_option maxHeartbeats 4000000 in
theorem hdown_walk {w0 w : World} {l : List En} {H bm g n cap c : Nat} {hs : List It} {mm : List (Me Int)} {js : List Value} (HH : Hp w0 w (HB H bm (.slice (some ⟨g, 0, none⟩) n cap) :: ⟨bm, mp encI mm c, true⟩ :: RW g hs js :: l)) (i : Nat) (hi : i < hs.length) (hn : n = hs.length) (hlen : hs.length ≤ 1000000) (hI : HI hs mm c) : Calls Tryz.prog 212 #[.pointer (some ⟨H, 0, none⟩), .int .i64 (i : Int)] w fun e w' => ∃ (hs' : List It) (mm' : List (Me Int)) (c' : Nat), e = .returned (.tuple #[]) ∧ hs'.Perm hs ∧ HI hs' mm' c' ∧ Hp w0 w' (HB H bm (.slice (some ⟨g, 0, none⟩) n cap) :: ⟨bm, mp encI mm' c', true⟩ :: RW g hs' js :: l) := by
  have HIN := Lib.hid hI
  clear hI
  go_enter Tryz.func212, Tryz.ntmps212
  go_wp2_with (fail)
  go_loopw [1] (fun v1 wr => ∃ (k : Nat) (hs1 : List It) (mm1 : List (Me Int)) (c1 : Nat), k < hs.length ∧ v1 = .int .i64 k ∧ hs1.Perm hs ∧ HI hs1 mm1 c1 ∧ Hp w0 wr (HB H bm (.slice (some ⟨g, 0, none⟩) n cap) :: ⟨bm, mp encI mm1 c1, true⟩ :: RW g hs1 js :: l)) (fun v1 _ => hs.length - (intOf v1).toNat)
  case atStart => exact ⟨i, hs, mm, c, hi, rfl, List.Perm.refl _, HIN.out, HH⟩
  case round =>
    obtain ⟨k, hs1, mm1, c1, hk, rfl, hpm, hI1, HR2⟩ := hrel
    have HH := HR2
    clear HR2
    have HIN1 := Lib.hid hI1
    clear hI1
    have hl1 := hpm.length_eq
    have hk1 : k < hs1.length := by omega
    have hn1 : n = hs1.length := by omega
    obtain ⟨kd, hkd⟩ : ∃ kd, 2 * k = kd := ⟨_, rfl⟩
    obtain ⟨j0, hj0⟩ : ∃ j0, kd + 1 = j0 := ⟨_, rfl⟩
    go_wp2_with (first | ((with_reducible show zW (Op.binOp BinOp.mul 3 _ _ _)); refine wpl_valu rfl (run_mulN (a := 2) (b := k) (r := kd) rfl rfl rfl (by omega) hkd _) ?_; (try simp only [Act.put, zz])) | ((with_reducible show zW (Op.binOp BinOp.add 3 _ _ _)); refine wpl_valu rfl (run_addN (a := kd) (b := 1) (r := j0) rfl rfl rfl (by omega) hj0 _) ?_; (try simp only [Act.put, zz])))
    go_loopw [4, 5] (fun v4 v5 wr => ∃ (m j : Nat), m < hs1.length ∧ (m = k ∨ k < m) ∧ j0 ≤ j ∧ j ≤ j0 + 2 ∧ v4 = .int .i64 m ∧ v5 = .int .i64 j ∧ Hp w0 wr (Hp.lst HH)) (fun _ v5 _ => j0 + 2 - (intOf v5).toNat)
    case atStart => exact ⟨k, j0, hk1, .inl rfl, by omega, by omega, rfl, rfl, HH⟩
    case round =>
      obtain ⟨m, j, hm, hmk, hja, hjb, rfl, rfl, HR2⟩ := hrel
      dsimp only [Hp.lst] at HR2
      have HH := HR2
      clear HR2
      have hmn : m < n := by omega
      obtain ⟨k2, hk2⟩ : ∃ k2, kd + 2 = k2 := ⟨_, rfl⟩
      obtain ⟨jn, hjn⟩ : ∃ jn, j + 1 = jn := ⟨_, rfl⟩
      go_wp2_with (first | ((with_reducible show zW (Op.binOp BinOp.mul 3 _ _ _)); refine wpl_valu rfl (run_mulN (a := 2) (b := k) (r := kd) rfl rfl rfl (by omega) hkd _) ?_; (try simp only [Act.put, zz])) | ((with_reducible show zW (Op.binOp BinOp.add 3 _ _ _)); refine wpl_valu rfl (run_addN (a := kd) (b := 2) (r := k2) rfl rfl rfl (by omega) hk2 _) ?_; (try simp only [Act.put, zz])) | ((with_reducible show zW (Op.binOp BinOp.add 3 _ _ _)); refine wpl_valu rfl (run_addN (a := j) (b := 1) (r := jn) rfl rfl rfl (by omega) hjn _) ?_; (try simp only [Act.put, zz])) | (go_at_call 217; (with_reducible refine (hswap_walk HH k m hk1 hm hn1 HIN1.out).mono ?_); rintro e9 V ⟨hs2, mm2, c2, rfl, hpm2, hse, hI2, HH2⟩; clear HH; have HH := HH2; clear HH2; (try simp only [Act.put, zz])) | ((with_reducible show zX (Op.binOp _ _ _ _ _)); (refine wpl_cmp (p := ?_) rfl rfl rfl ?_ ?_ ?_; rotate_left; (focus (go_simp; with_reducible rfl)); all_goals (intro hq; (try simp only [zw] at hq); (try simp only [Act.put, zz])))) | ((with_reducible show zY (Op.load _ _)); (refine wpl_load HH 0 rfl rfl rfl (by simp only [Region.wanted, yielded, zy, Option.bind_some]; decide) rfl ?_; (try simp only [Act.put, zz]))) | ((with_reducible show zY (Op.binOp _ _ _ _ _)); (refine wpl_cmp (p := ?_) rfl rfl (by simp only [Region.wanted, yielded, zy, Option.bind_some]; decide) ?_ ?_ ?_; rotate_left; (focus (go_simp; with_reducible rfl)); all_goals (intro hq; (try simp only [zw] at hq); (try simp only [Act.put, zz])))) | ((with_reducible show Code.wp _ (Code.region _ _ true) _ _ _); (refine wp_tail_Hp (id := 4) [0, 1, 2, 3, 4, 5, 6, 7, 8, 9, 10, 11, 12, 13, 14, 15, 16] [] (by kernel_rfl) HH ?_; clear HH; (try simp only [pick, zy]); repeat' (first | ((with_reducible show wpB _ _ _ _ [] _); refine wpB_nil ?_; intro V HH) | (((with_reducible show zU _); (first | ((with_reducible show zT (Op.move _)); refine wpB_move rfl rfl rfl ?_) | ((with_reducible show zU (Op.indexAddr 95 _ _)); refine wpB_val rfl (fun V _ => run_idx95 (p := m) rfl rfl rfl hmn V) ?_) | ((with_reducible show zU (Op.indexAddr 95 _ _)); refine wpB_val rfl (fun V _ => run_idx95 (p := j) rfl rfl rfl (by omega) V) ?_) | ((with_reducible show zU (Op.load 250 _)); refine wpB_load 2 rfl rfl rfl rfl (hrow_get hs1 m _ hm) ?_) | ((with_reducible show zU (Op.load 250 _)); refine wpB_load 2 rfl rfl rfl rfl (hrow_get hs1 j _ (by omega)) ?_) | ((with_reducible show zT (Op.call _)); refine wpB_callH (f := 216) (args := #[.pointer (some ⟨H, 0, none⟩), (hs1[j]'(by omega)).v, (hs1[m]'(hm)).v]) (v := .int .i64 (cmpH (hs1[j]'(by omega)) (hs1[m]'(hm)))) rfl (fun V hV => hcmp V (Hp.get hV 0 rfl) _ _) (fun w9 hS9 => ?_) ?_; (focus (go_simp; all_goals (fail)))) | ((with_reducible show zT (Op.load _ _)); (refine wpB_load 0 rfl rfl rfl rfl rfl ?_)) | ((with_reducible show zT (Op.binOp _ _ _ _ _)); (refine wpB_bool (p := ?_) rfl ?_ ?_ ?_; rotate_left; (focus (intro w9 hS9; go_simp; with_reducible rfl)); all_goals (intro hq))) | (refine wpB_val (v := ?_) rfl ?_ ?_; rotate_left; (focus (intro w9 hS9; go_simp; all_goals (with_reducible rfl)))))); all_goals (try simp only [Act.put, zz, Act.eval, zx]))))))
      · exact ⟨⟨j, jn, by omega, by omega, by omega, by omega, rfl, rfl, HH⟩, by simp [intOf]; omega⟩
      · exact ⟨⟨m, jn, hm, hmk, by omega, by omega, rfl, rfl, HH⟩, by simp [intOf]; omega⟩
      all_goals first
        | (((refine bodyPost_ret (results_none rfl _ _ _) rfl ?_))
           exact ⟨hs1, mm1, c1, rfl, hpm, HIN1.out, HH⟩)
        | (have hne : m ≠ k := by
             rintro rfl
             simp at hq
           exact ⟨⟨m, hs2, mm2, c2, by omega, rfl, hpm2.trans hpm, hI2, HH⟩, by simp [intOf]; omega⟩)

end Go.Proofs.YtcbahkfbdlhabaaGreatDoor
