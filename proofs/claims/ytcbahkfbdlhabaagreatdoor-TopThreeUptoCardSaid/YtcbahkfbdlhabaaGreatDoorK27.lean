/- A part of the proof that the law TopThree returns true for all arguments of bulk at most 1048576 (no other condition). Here: The lattice: May, New, made, knows, Total, Insert, Low, High. -/
import Derived.Test.YtcbahkfbdlhabaaGreatDoorK26
namespace Go.Proofs.YtcbahkfbdlhabaaGreatDoor
set_option linter.unusedVariables false
set_option linter.unusedSimpArgs false
open Go.RowKit
attribute [local go_sem] index24_0 index24_1 field34_0 field34_1
attribute [local irreducible] wpList Code.wp wpB

/-- What May tells. -/
def mayC (kind k most cn sn : Int) : Bool := if cn < 1 ∨ 1100 < cn ∨ k < 1 ∨ 200 < k then false else if kind = 1 then decide (most = 0) else if kind = 2 ∨ kind = 3 then decide (sn = 1) && (decide (1 ≤ most) && decide (most ≤ 5000)) else false
def mayV (kind k most : Int) (s : Sp) : Bool := mayC kind k most (countI s) s.n
set_option maxRecDepth 100000 in
set_option maxHeartbeats 4000000 in
theorem may_gives (kind k most : Int) (s : Sp) : Gives 10 #[.agg #[.int .i64 kind, .int .i64 k, .int .i64 most, .int .i64 s.n, .int .i64 s.d0.k, .int .i64 s.d0.s, .int .i64 s.d0.t, .int .i64 s.d1.k, .int .i64 s.d1.s, .int .i64 s.d1.t]] (.bool (mayV kind k most s)) := fun w => by
  have HCN := count_gives s
  unfold mayV
  generalize countI s = cn at *
  generalize hmc : mayC kind k most cn s.n = mc
  have HMC := Lib.hid hmc
  clear hmc
  have HH := Hp.nil w
  go_enter Tryz.func10, Tryz.ntmps10
  go_wp2_with (first | (go_at_call 12; (with_reducible refine ((HCN) _).mono ?_); rintro e V ⟨rfl, hb⟩; replace HH := HH.next hb; clear hb) | ((with_reducible show zX (Op.load _ _)); (refine wpl_load HH 0 rfl rfl rfl rfl rfl ?_; (try simp only [Act.put, zz]))) | ((with_reducible show zX (Op.binOp _ _ _ _ _)); (refine wpl_cmp (p := ?_) rfl rfl rfl ?_ ?_ ?_; rotate_left; (focus (go_simp; with_reducible rfl)); all_goals (intro hq; (try simp only [zw] at hq); (try simp only [Act.put, zz])))) | ((with_reducible show zY (Op.load _ _)); (refine wpl_load HH 0 rfl rfl rfl (by simp only [Region.wanted, yielded, zy, Option.bind_some]; decide) rfl ?_; (try simp only [Act.put, zz]))) | ((with_reducible show zY (Op.binOp _ _ _ _ _)); (refine wpl_cmp (p := ?_) rfl rfl (by simp only [Region.wanted, yielded, zy, Option.bind_some]; decide) ?_ ?_ ?_; rotate_left; (focus (go_simp; with_reducible rfl)); all_goals (intro hq; (try simp only [zw] at hq); (try simp only [Act.put, zz])))) | ((with_reducible show zW (Op.box _ _)); refine wpl_box HH rfl rfl rfl ?_; clear HH; intro b V HH; simp only [Act.eval, zx, Value.cells, putl, zC, zB] at HH; (try simp only [Act.put, zz])))
  all_goals (go_ret; refine ⟨?_, HH.below rfl⟩; clear HH; rw [← HMC.out]; clear HMC HCN; unfold mayC; simp only [beq_iff_eq, beq_eq_false_iff_ne, decide_eq_true_eq, decide_eq_false_iff_not, ne_eq] at *; congr 2; first | (simp [*]; done) | (split <;> simp [*] <;> omega) | skip)
  all_goals skip

/-- A lattice's block. -/
abbrev XB (X : Nat) (kind k most : Int) (s : Sp) (t : Nat) (iv : Value) : En := ⟨X, .cells #[.int .i64 kind, .int .i64 k, .int .i64 most, .int .i64 s.n, .int .i64 s.d0.k, .int .i64 s.d0.s, .int .i64 s.d0.t, .int .i64 s.d1.k, .int .i64 s.d1.s, .int .i64 s.d1.t, .int .u64 (t : Int), iv] 52 (0, 0), true⟩
theorem elt59 : ElT 59 63 1 8 (.pointer none) :=
  ⟨by kernel_rfl, by
    have h : (Tryz.prog.info? 63).map (fun i => (i.zero, i.size, i.bytes)) = some (some (.pointer none), 1, 8) := by kernel_rfl
    exact info_parts h, rfl, by decide⟩
set_option maxRecDepth 100000 in
theorem run_bs59 (v : Value) (hv : (Instr.buildSlice 59 1 #[(0, v)]).run Tryz.prog = (Instr.buildSlice 59 1 #[(0, v)]).run Tryz.prog) (S : Nat) (h : v = .pointer (some ⟨S, 0, none⟩)) (w : World) : (Instr.buildSlice 59 1 #[(0, v)]).run Tryz.prog w = .ok (.slice (some ⟨w.heap.size, 0, none⟩) 1 1) (w.alloc (.cells #[v] 63)) := by
  subst h
  simp [go_sem]
theorem wpl_bs59 {ops : Array Oper} {rest : List Oper} {o : Oper} {act : Act} {Q : Exit → Act → World → Prop} {w0 W : World} {L : List En} {x : Operand} {S : Nat} (HH : Hp w0 W L) (hop : o.op = .buildSlice 59 1 #[(0, x)]) (hw : Region.wanted o (yielded ops act.tmps) = true) (hx : act.eval x = .pointer (some ⟨S, 0, none⟩))
    (hh : ∀ b' V, Hp w0 V (⟨b', .cells [.pointer (some ⟨S, 0, none⟩)].toArray 63 (0, 0), true⟩ :: L) → wpList Tryz.prog ops Q rest (act.put o.dst (.slice (some ⟨b', 0, none⟩) 1 1)) V) : wpList Tryz.prog ops Q (o :: rest) act W :=
  wpList_on hw fun K hK => by
    unfold Oper.wp execOp
    simp only [hop, List.map_toArray, List.map_cons, List.map_nil, hx, run_bs59 _ rfl S rfl, Sem.run_bind, Sem.run_pure, Result.andThen_ok]
    exact hK _ _ (hh _ _ (HH.alloc _))
/-- A new summary. -/
def smNew (S H bb bm : Nat) : Sm := ⟨S, H, bb, bm, 0, 0, 0, 0, [], [], [], .slice none 0 0, []⟩
theorem smNew_ok {k : Int} (hk : 1 ≤ k) (S H bb bm : Nat) : (smNew S H bb bm).Ok k (fun _ => 0) :=
  ⟨SmP.start hk, ⟨MOk.nil, fun i hi => absurd hi (Nat.not_lt_zero i), fun p _ => rfl⟩, MOk.nil, SlR.nil _ _ _⟩
theorem qrow_snoc (Ss : List Nat) (S : Nat) : qrow (Ss ++ [S]) = qrow Ss ++ [.pointer (some ⟨S, 0, none⟩)] := by simp [qrow]
theorem VS.snoc {k : Int} {s : Sp} {xs : List Sm} (h : VS k s (fun _ => 0) xs) {x : Sm} (hx : x.Ok k (fun _ => 0)) : VS k s (fun _ => 0) (xs ++ [x]) := by
  intro i hi
  have e : latF s (fun _ => 0) i = fun _ => 0 := by
    funext p
    unfold latF
    split <;> rfl
  rw [e]
  by_cases h1 : i < xs.length
  · rw [List.getElem_append_left h1]
    have := h i h1
    rwa [e] at this
  · have h2 : i = xs.length := by
      rw [List.length_append, List.length_singleton] at hi
      omega
    subst h2
    rw [List.getElem_append_right (Nat.le_refl _)]
    simpa using hx
/-- What lattice.New yields for savings. -/
def New1 (w0 : World) (k most : Int) (s : Sp) (l : List En) (v : Value) (w' : World) : Prop := (v = .tuple #[.pointer none, .int .i64 1] ∧ Hp w0 w' l) ∨ (mayV 1 k most s = true ∧ ∃ (X K g n cap : Nat) (js : List Value) (xs : List Sm), v = .tuple #[.pointer (some ⟨X, 0, none⟩), .int .i64 0] ∧ VS k s (fun _ => 0) xs ∧ n = xs.length ∧ (xs.length : Int) = countI s ∧ Hp w0 w' (XB X 1 k most s 0 (.iface 58 (.pointer (some ⟨K, 0, none⟩))) :: LB K s g n cap :: QW g (xs.map Sm.S) js :: (xs.flatMap (Sm.es k) ++ l)))

theorem may_true {kind k most : Int} {s : Sp} (h : mayV kind k most s = true) : 1 ≤ countI s ∧ countI s ≤ 1100 ∧ 1 ≤ k ∧ k ≤ 200 ∧ ((kind = 1 ∧ most = 0) ∨ ((kind = 2 ∨ kind = 3) ∧ s.n = 1 ∧ 1 ≤ most ∧ most ≤ 5000)) := by
  unfold mayV mayC at h
  split at h
  · cases h
  · refine ⟨by omega, by omega, by omega, by omega, ?_⟩
    split at h
    · exact .inl ⟨by assumption, of_decide_eq_true h⟩
    · split at h
      · simp only [Bool.and_eq_true, decide_eq_true_eq] at h
        exact .inr ⟨by assumption, h.1, h.2.1, h.2.2⟩
      · cases h
theorem may_sound {kind k most : Int} {s : Sp} (h : mayV kind k most s = true) : soundB s = true ∧ countI s = ((topX s).a0 + 1) * ((topX s).a1 + 1) := by
  have h1 := (may_true h).1
  unfold countI at *
  split at h1
  · exact ⟨by assumption, by rw [if_pos (by assumption)]⟩
  · omega

theorem Hp.newpush {w0 V : World} {α : Type} {f : α → List En} {xs : List α} {a b c d x y z : En} {l r : List En} {m : α} (hm : f m = [a, b, c, d]) (h : Hp w0 V (a :: b :: c :: d :: x :: y :: z :: ((xs.flatMap f ++ l) ++ r))) : Hp w0 V (x :: y :: z :: (((xs ++ [m]).flatMap f ++ l) ++ r)) := by
  refine h.perm ?_
  rw [List.flatMap_append, List.flatMap_singleton, hm]
  have h1 : (a :: b :: c :: d :: x :: y :: z :: ((xs.flatMap f ++ l) ++ r)) = [a, b, c, d] ++ ([x, y, z] ++ (xs.flatMap f ++ (l ++ r))) := by simp
  have h2 : (x :: y :: z :: (((xs.flatMap f ++ [a, b, c, d]) ++ l) ++ r)) = [x, y, z] ++ (xs.flatMap f ++ ([a, b, c, d] ++ (l ++ r))) := by simp
  rw [h1, h2]
  exact (List.perm_append_comm_assoc _ _ _).trans (List.Perm.append_left _ (List.perm_append_comm_assoc _ _ _))

set_option maxRecDepth 100000 in
set_option maxHeartbeats 4000000 in
theorem lnew1_walk {w0 w : World} {l : List En} (HH : Hp w0 w l) (k most : Int) (s : Sp) : Calls Tryz.prog 4 #[.agg #[.int .i64 1, .int .i64 k, .int .i64 most, .int .i64 s.n, .int .i64 s.d0.k, .int .i64 s.d0.s, .int .i64 s.d0.t, .int .i64 s.d1.k, .int .i64 s.d1.s, .int .i64 s.d1.t]] w fun e w' => ∃ v, e = .returned v ∧ New1 w0 k most s l v w' := by
  have HMAY := may_gives 1 k most s
  cases hmv : mayV 1 k most s with
  | false =>
    rw [hmv] at HMAY
    go_enter Tryz.func4, Tryz.ntmps4
    go_wp2_with (first | (go_at_call 10; (with_reducible refine ((HMAY) _).mono ?_); rintro e V ⟨rfl, hb⟩; replace HH := HH.next hb; clear hb) | ((with_reducible show zX (Op.load _ _)); (refine wpl_load HH 0 rfl rfl rfl rfl rfl ?_; (try simp only [Act.put, zz]))) | ((with_reducible show zW (Op.box _ _)); refine wpl_box HH rfl rfl rfl ?_; clear HH; intro b V HH; simp only [Act.eval, zx, Value.cells, putl, zC, zB] at HH; (try simp only [Act.put, zz])))
    go_ret2
    exact ⟨_, rfl, .inl ⟨rfl, HH.drop rfl⟩⟩
  | true =>
    rw [hmv] at HMAY
    obtain ⟨hc1, hc2, hk1, hk2, _⟩ := may_true hmv
    have HCN := count_gives s
    have HMV := Lib.hid hmv
    clear hmv
    generalize hcn : countI s = cn at *
    have HCE := Lib.hid hcn
    clear hcn
    go_enter Tryz.func4, Tryz.ntmps4
    go_wp2_with (first | (go_at_call 10; (with_reducible refine ((HMAY) _).mono ?_); rintro e V ⟨rfl, hb⟩; replace HH := HH.next hb; clear hb) | (go_at_call 12; (with_reducible refine ((HCN) _).mono ?_); rintro e V ⟨rfl, hb⟩; replace HH := HH.next hb; clear hb) | ((with_reducible show zX (Op.load _ _)); (first | (refine wpl_load HH 0 rfl rfl rfl rfl rfl ?_; (try simp only [Act.put, zz])) | (refine wpl_load HH 1 rfl rfl rfl rfl rfl ?_; (try simp only [Act.put, zz])) | (refine wpl_load HH 2 rfl rfl rfl rfl rfl ?_; (try simp only [Act.put, zz])))) | ((with_reducible show zX (Op.binOp _ _ _ _ _)); (refine wpl_cmp (p := ?_) rfl rfl rfl ?_ ?_ ?_; rotate_left; (focus (go_simp; with_reducible rfl)); all_goals (intro hq; (try (contradiction)); (try simp only [zw] at hq); (try simp only [Act.put, zz])))) | ((with_reducible show zW (Op.box _ _)); refine wpl_box HH rfl rfl rfl ?_; clear HH; intro b V HH; simp only [Act.eval, zx, Value.cells, putl, zC, zB] at HH; (try simp only [Act.put, zz])))
    go_loopw [39] (fun i wr => ∃ (j : Nat) (xs : List Sm) (v : Value) (r : List En), (j : Int) ≤ cn ∧ xs.length = j ∧ i = .int .i64 j ∧ VS k s (fun _ => 0) xs ∧ SlR 63 1 true v j (qrow (xs.map Sm.S)) r ∧ Hp w0 wr (⟨b, .cells #[.int .i64 s.n, .int .i64 s.d0.k, .int .i64 s.d0.s, .int .i64 s.d0.t, .int .i64 s.d1.k, .int .i64 s.d1.s, .int .i64 s.d1.t, v] 61 (0, 0), true⟩ :: (Hp.lst HH).tail.take 2 ++ ((xs.flatMap (Sm.es k) ++ l) ++ r))) (fun i _ => (cn - intOf i).toNat)
    case atStart => exact ⟨0, [], _, [], by omega, rfl, rfl, fun i hi => absurd hi (Nat.not_lt_zero i), SlR.nil _ _ _, by simpa only [Hp.lst, List.tail_cons, zE, zJ, List.cons_append, List.nil_append, List.append_nil, List.flatMap_nil] using HH⟩
    case round =>
      obtain ⟨j, xs, v, r, hj0, hxl, rfl, hV9, HS, HR2⟩ := hrel
      have hV1 := Lib.hid hV9
      clear hV9
      generalize hfl : xs.flatMap (Sm.es k) ++ l = fl at HR2
      have HFL := Lib.hid hfl
      clear hfl
      obtain ⟨a8, c8, rfl⟩ := HS.form
      dsimp only [Hp.lst, List.tail, List.take, List.cons_append, List.nil_append] at HR2
      have HH := HR2
      clear HR2
      by_cases hj : (j : Int) < cn
      · go_wp2_with (first | (go_at_call 13; (with_reducible refine (snew_walk HH k hk1 hk2).mono ?_); rintro e9 V ⟨S, H, bm, bb, rfl, HH2⟩; clear HH; have HH := HH2; clear HH2; (try simp only [Act.put, zz])) | ((with_reducible show zW (Op.buildSlice 59 1 _)); refine wpl_bs59 (S := S) HH rfl rfl rfl ?_; clear HH; intro bn V HH; (try simp only [Act.put, zz])) | (at_builtin; refine wpl_append elt59 (l := _ :: _ :: _ :: _ :: _ :: _ :: _ :: fl) HH HS rfl rfl rfl rfl rfl rfl (by omega) (by omega) ?_; clear HH; intro v2 r2 V HS2 HH; obtain ⟨a7, c7, rfl⟩ := HS2.form; (try simp only [List.cons_append] at HH); (try simp only [Act.put, zz])) | ((with_reducible show stepQ _ _ _ _ _ _ _); refine stepQ_on HH (by (first | exact fun V h => Hp.cut3 (((((h).drop rfl).drop rfl).drop rfl).drop rfl) HS.own | exact fun V h => Hp.cut3 ((((((h).drop rfl).drop rfl).drop rfl).drop rfl).drop rfl) HS.own | exact fun V h => Hp.cut3 (((((h).drop rfl).drop rfl).drop rfl).drop rfl) HS2.own)) ?_; clear HH) | ((with_reducible show wpS _ _ _ _ (_ :: _) _ _); refine wpS_step rfl (fun V HH => ?_)) | ((with_reducible show wpS _ _ _ _ _ _ _); refine wpS_nil ?_; intro V HH) | ((with_reducible show zX (Op.binOp _ _ _ _ _)); (refine wpl_cmp (p := ?_) rfl rfl rfl ?_ ?_ ?_; rotate_left; (focus (go_simp; with_reducible rfl)); all_goals (intro hq; (try (contradiction)); (try simp only [zw] at hq); (try simp only [Act.put, zz])))) | ((with_reducible show zW (Op.store _ _ _)); (refine wpl_store HH 4 rfl rfl rfl rfl rfl rfl rfl rfl ?_; clear HH; intro V HH; simp only [Act.eval, zx, Value.cells, putl, zC, zB] at HH; (try simp only [Act.put, zz]))) | ((with_reducible show Code.wp _ (Code.region _ _ true) _ _ _); (refine wp_float_Hp (id := 10) [0, 1, 2, 3, 4, 5, 6] [7, 8, 9] [10, 11, 12] (_ :: _ :: _ :: fl) (by kernel_rfl) HH (by (exact fun V h => Hp.cut3 h HS.own)) ?_; clear HH; (try simp only [pick, zy]); repeat' (first | ((with_reducible show wpB _ _ _ _ [] _); refine wpB_nil ?_) | (((with_reducible show zU _); (first | ((with_reducible show zT (Op.move _)); refine wpB_move rfl rfl rfl ?_) | ((with_reducible show zT (Op.load _ _)); (first | refine wpB_load 0 rfl rfl rfl rfl rfl ?_ | refine wpB_load 2 rfl rfl rfl rfl rfl ?_)) | (refine wpB_val (v := ?_) rfl ?_ ?_; rotate_left; (focus (intro w9 hS9; go_simp; all_goals (with_reducible rfl)))))); all_goals (try simp only [Act.put, zz, Act.eval, zx]))))))
        have hfl := HFL.out
        subst hfl
        have h9 := HH.newpush (f := Sm.es k) (m := smNew S H bb bm) rfl
        exact ⟨⟨j + 1, xs ++ [smNew S H bb bm], _, r2, by omega, by simp [hxl], by push_cast; rfl, hV1.out.snoc (smNew_ok hk1 _ _ _ _), by rw [List.map_append]; show SlR _ _ _ _ _ (qrow (xs.map Sm.S ++ [S])) _; rw [qrow_snoc]; exact HS2, h9⟩, by simp [intOf]; omega⟩
      · go_wp2_with (first | ((with_reducible show zX (Op.binOp _ _ _ _ _)); (refine wpl_cmp (p := ?_) rfl rfl rfl ?_ ?_ ?_; rotate_left; (focus (go_simp; with_reducible rfl)); all_goals (intro hq; (try (contradiction)); (try simp only [zw] at hq); (try simp only [Act.put, zz])))) | ((with_reducible show zW (Op.store _ _ _)); (refine wpl_store HH 1 rfl rfl rfl rfl rfl rfl rfl rfl ?_; clear HH; intro V HH; simp only [Act.eval, zx, Value.cells, putl, zC, zB] at HH; (try simp only [Act.put, zz]))))
        have hfl := HFL.out
        subst hfl
        obtain ⟨g, cap, js, hv, rfl, _, _, _⟩ := HS.some (by omega)
        cases hv
        have h9 := (HH.tuck.lose 2 rfl rfl).front 1 rfl
        simp only [List.eraseIdx] at h9
        go_ret2
        exact ⟨_, rfl, .inr ⟨HMV.out, _, _, g, j, _, js, xs, rfl, hV1.out, hxl.symm, by rw [HCE.out]; omega, h9⟩⟩

/-- The block of a trie behind a lattice. -/
abbrev PB (P G : Nat) : En := ⟨P, .cells #[.pointer (some ⟨G, 0, none⟩)] 57 (0, 0), true⟩
/-- What lattice.New yields for a trie. -/
def New2 (w0 : World) (kind k most : Int) (full : Bool) (s : Sp) (l : List En) (v : Value) (w' : World) : Prop := (v = .tuple #[.pointer none, .int .i64 1] ∧ mayV kind k most s = false ∧ Hp w0 w' l) ∨ (mayV kind k most s = true ∧ ∃ (X P G T bm : Nat), v = .tuple #[.pointer (some ⟨X, 0, none⟩), .int .i64 0] ∧ Hp w0 w' (XB X kind k most s 0 (.iface 53 (.pointer (some ⟨P, 0, none⟩))) :: PB P G :: GE G T k most :: TE T s full 0 0 bm :: ⟨bm, mp encG [⟨topX s, (0, 0), 0⟩] 1, true⟩ :: l))

set_option maxRecDepth 100000 in
set_option maxHeartbeats 4000000 in
theorem lnew2_walk {w0 w : World} {l : List En} (HH : Hp w0 w l) (k most : Int) (s : Sp) : Calls Tryz.prog 4 #[.agg #[.int .i64 2, .int .i64 k, .int .i64 most, .int .i64 s.n, .int .i64 s.d0.k, .int .i64 s.d0.s, .int .i64 s.d0.t, .int .i64 s.d1.k, .int .i64 s.d1.s, .int .i64 s.d1.t]] w fun e w' => ∃ v, e = .returned v ∧ New2 w0 2 k most true s l v w' := by
  have HMAY := may_gives 2 k most s
  cases hmv : mayV 2 k most s with
  | false =>
    rw [hmv] at HMAY
    go_enter Tryz.func4, Tryz.ntmps4
    go_wp2_with (first | (go_at_call 10; (with_reducible refine ((HMAY) _).mono ?_); rintro e V ⟨rfl, hb⟩; replace HH := HH.next hb; clear hb) | ((with_reducible show zX (Op.load _ _)); (refine wpl_load HH 0 rfl rfl rfl rfl rfl ?_; (try simp only [Act.put, zz]))) | ((with_reducible show zW (Op.box _ _)); refine wpl_box HH rfl rfl rfl ?_; clear HH; intro b V HH; simp only [Act.eval, zx, Value.cells, putl, zC, zB] at HH; (try simp only [Act.put, zz])))
    go_ret2
    exact ⟨_, rfl, .inl ⟨rfl, hmv, HH.drop rfl⟩⟩
  | true =>
    rw [hmv] at HMAY
    obtain ⟨hc1, hc2, hk1, hk2, hm9⟩ := may_true hmv
    have hsd := (may_sound hmv).1
    obtain ⟨hsn, hm1, hm2⟩ : s.n = 1 ∧ 1 ≤ most ∧ most ≤ 5000 := by
      rcases hm9 with ⟨h, _⟩ | h
      · exact absurd h (by decide)
      · exact h.2
    have HSN := Lib.hid hsn
    have HMV := Lib.hid hmv
    clear hmv hm9 hsn
    have hsn := HSN.out
    clear hsn
    go_enter Tryz.func4, Tryz.ntmps4
    go_wp2_with (first | (go_at_call 11; (with_reducible refine (gnew_walk HH s true k most hsd HSN.out hk1 hk2 hm1 hm2).mono ?_); rintro e9 V ⟨v9, G, T, bm, rfl, rfl, HH2⟩; clear HH; have HH := HH2; clear HH2; (try simp only [Act.put, zz])) | (go_at_call 10; (with_reducible refine ((HMAY) _).mono ?_); rintro e V ⟨rfl, hb⟩; replace HH := HH.next hb; clear hb) | ((with_reducible show zX (Op.load _ _)); (first | (refine wpl_load HH 0 rfl rfl rfl rfl rfl ?_; (try simp only [Act.put, zz])) | (refine wpl_load HH 1 rfl rfl rfl rfl rfl ?_; (try simp only [Act.put, zz])))) | ((with_reducible show zX (Op.binOp _ _ _ _ _)); (refine wpl_cmp (p := ?_) rfl rfl rfl ?_ ?_ ?_; rotate_left; (focus (go_simp; with_reducible rfl)); all_goals (intro hq; (try (contradiction)); (try simp only [zw] at hq); (try simp only [Act.put, zz])))) | ((with_reducible show zW (Op.store _ _ _)); (refine wpl_store HH 4 rfl rfl rfl rfl rfl rfl rfl rfl ?_; clear HH; intro V HH; simp only [Act.eval, zx, Value.cells, putl, zC, zB] at HH; (try simp only [Act.put, zz]))) | ((with_reducible show zW (Op.box _ _)); refine wpl_box HH rfl rfl rfl ?_; clear HH; intro b V HH; simp only [Act.eval, zx, Value.cells, putl, zC, zB] at HH; (try simp only [Act.put, zz])))
    have h9 := (HH.lose 5 rfl rfl).front 4 rfl
    simp only [List.eraseIdx] at h9
    go_ret2
    exact ⟨_, rfl, .inr ⟨HMV.out, _, _, G, T, bm, rfl, h9⟩⟩

set_option maxRecDepth 100000 in
set_option maxHeartbeats 4000000 in
theorem lnew3_walk {w0 w : World} {l : List En} (HH : Hp w0 w l) (k most : Int) (s : Sp) : Calls Tryz.prog 4 #[.agg #[.int .i64 3, .int .i64 k, .int .i64 most, .int .i64 s.n, .int .i64 s.d0.k, .int .i64 s.d0.s, .int .i64 s.d0.t, .int .i64 s.d1.k, .int .i64 s.d1.s, .int .i64 s.d1.t]] w fun e w' => ∃ v, e = .returned v ∧ New2 w0 3 k most false s l v w' := by
  have HMAY := may_gives 3 k most s
  cases hmv : mayV 3 k most s with
  | false =>
    rw [hmv] at HMAY
    go_enter Tryz.func4, Tryz.ntmps4
    go_wp2_with (first | (go_at_call 10; (with_reducible refine ((HMAY) _).mono ?_); rintro e V ⟨rfl, hb⟩; replace HH := HH.next hb; clear hb) | ((with_reducible show zX (Op.load _ _)); (refine wpl_load HH 0 rfl rfl rfl rfl rfl ?_; (try simp only [Act.put, zz]))) | ((with_reducible show zW (Op.box _ _)); refine wpl_box HH rfl rfl rfl ?_; clear HH; intro b V HH; simp only [Act.eval, zx, Value.cells, putl, zC, zB] at HH; (try simp only [Act.put, zz])))
    go_ret2
    exact ⟨_, rfl, .inl ⟨rfl, hmv, HH.drop rfl⟩⟩
  | true =>
    rw [hmv] at HMAY
    obtain ⟨hc1, hc2, hk1, hk2, hm9⟩ := may_true hmv
    have hsd := (may_sound hmv).1
    obtain ⟨hsn, hm1, hm2⟩ : s.n = 1 ∧ 1 ≤ most ∧ most ≤ 5000 := by
      rcases hm9 with ⟨h, _⟩ | h
      · exact absurd h (by decide)
      · exact h.2
    have HSN := Lib.hid hsn
    have HMV := Lib.hid hmv
    clear hmv hm9 hsn
    have hsn := HSN.out
    clear hsn
    go_enter Tryz.func4, Tryz.ntmps4
    go_wp2_with (first | (go_at_call 11; (with_reducible refine (gnew_walk HH s false k most hsd HSN.out hk1 hk2 hm1 hm2).mono ?_); rintro e9 V ⟨v9, G, T, bm, rfl, rfl, HH2⟩; clear HH; have HH := HH2; clear HH2; (try simp only [Act.put, zz])) | (go_at_call 10; (with_reducible refine ((HMAY) _).mono ?_); rintro e V ⟨rfl, hb⟩; replace HH := HH.next hb; clear hb) | ((with_reducible show zX (Op.load _ _)); (first | (refine wpl_load HH 0 rfl rfl rfl rfl rfl ?_; (try simp only [Act.put, zz])) | (refine wpl_load HH 1 rfl rfl rfl rfl rfl ?_; (try simp only [Act.put, zz])))) | ((with_reducible show zX (Op.binOp _ _ _ _ _)); (refine wpl_cmp (p := ?_) rfl rfl rfl ?_ ?_ ?_; rotate_left; (focus (go_simp; with_reducible rfl)); all_goals (intro hq; (try (contradiction)); (try simp only [zw] at hq); (try simp only [Act.put, zz])))) | ((with_reducible show zW (Op.store _ _ _)); (refine wpl_store HH 4 rfl rfl rfl rfl rfl rfl rfl rfl ?_; clear HH; intro V HH; simp only [Act.eval, zx, Value.cells, putl, zC, zB] at HH; (try simp only [Act.put, zz]))) | ((with_reducible show zW (Op.box _ _)); refine wpl_box HH rfl rfl rfl ?_; clear HH; intro b V HH; simp only [Act.eval, zx, Value.cells, putl, zC, zB] at HH; (try simp only [Act.put, zz])))
    have h9 := (HH.lose 5 rfl rfl).front 4 rfl
    simp only [List.eraseIdx] at h9
    go_ret2
    exact ⟨_, rfl, .inr ⟨HMV.out, _, _, G, T, bm, rfl, h9⟩⟩

set_option maxRecDepth 100000 in
theorem run_inv_low58 {ρ : Operand → Value} {o : Oper} {x y : Operand} {K : Nat} {v : Value} (hop : o.op = .call { callee := .invoke x "cribble/lattice.low", args := #[y], argTypes := #[34] }) (hx : ρ x = .iface 58 (.pointer (some ⟨K, 0, none⟩))) (hy : ρ y = v) (w : World) : (execOp ρ o).run Tryz.prog w = .ok (.enter 194 #[.pointer (some ⟨K, 0, none⟩), v]) w := by
  unfold execOp
  simp only [hop, resolve, List.map_toArray, List.map_cons, List.map_nil, hx, hy, Sem.run_bind, Sem.run_pure, Result.andThen_ok]
  kernel_rfl
set_option maxRecDepth 100000 in
theorem run_inv_high58 {ρ : Operand → Value} {o : Oper} {x y : Operand} {K : Nat} {v : Value} (hop : o.op = .call { callee := .invoke x "cribble/lattice.high", args := #[y], argTypes := #[34] }) (hx : ρ x = .iface 58 (.pointer (some ⟨K, 0, none⟩))) (hy : ρ y = v) (w : World) : (execOp ρ o).run Tryz.prog w = .ok (.enter 192 #[.pointer (some ⟨K, 0, none⟩), v]) w := by
  unfold execOp
  simp only [hop, resolve, List.map_toArray, List.map_cons, List.map_nil, hx, hy, Sem.run_bind, Sem.run_pure, Result.andThen_ok]
  kernel_rfl
set_option maxRecDepth 100000 in
theorem run_inv_low53 {ρ : Operand → Value} {o : Oper} {x y : Operand} {K : Nat} {v : Value} (hop : o.op = .call { callee := .invoke x "cribble/lattice.low", args := #[y], argTypes := #[34] }) (hx : ρ x = .iface 53 (.pointer (some ⟨K, 0, none⟩))) (hy : ρ y = v) (w : World) : (execOp ρ o).run Tryz.prog w = .ok (.enter 112 #[.pointer (some ⟨K, 0, none⟩), v]) w := by
  unfold execOp
  simp only [hop, resolve, List.map_toArray, List.map_cons, List.map_nil, hx, hy, Sem.run_bind, Sem.run_pure, Result.andThen_ok]
  kernel_rfl
set_option maxRecDepth 100000 in
theorem run_inv_high53 {ρ : Operand → Value} {o : Oper} {x y : Operand} {K : Nat} {v : Value} (hop : o.op = .call { callee := .invoke x "cribble/lattice.high", args := #[y], argTypes := #[34] }) (hx : ρ x = .iface 53 (.pointer (some ⟨K, 0, none⟩))) (hy : ρ y = v) (w : World) : (execOp ρ o).run Tryz.prog w = .ok (.enter 110 #[.pointer (some ⟨K, 0, none⟩), v]) w := by
  unfold execOp
  simp only [hop, resolve, List.map_toArray, List.map_cons, List.map_nil, hx, hy, Sem.run_bind, Sem.run_pure, Result.andThen_ok]
  kernel_rfl
set_option maxRecDepth 100000 in
theorem run_inv_insert58 {ρ : Operand → Value} {o : Oper} {x y z : Operand} {K : Nat} {v u : Value} (hop : o.op = .call { callee := .invoke x "cribble/lattice.insert", args := #[y, z], argTypes := #[34, 29] }) (hx : ρ x = .iface 58 (.pointer (some ⟨K, 0, none⟩))) (hy : ρ y = v) (hz : ρ z = u) (w : World) : (execOp ρ o).run Tryz.prog w = .ok (.enter 193 #[.pointer (some ⟨K, 0, none⟩), v, u]) w := by
  unfold execOp
  simp only [hop, resolve, List.map_toArray, List.map_cons, List.map_nil, hx, hy, hz, Sem.run_bind, Sem.run_pure, Result.andThen_ok]
  kernel_rfl
set_option maxRecDepth 100000 in
theorem run_inv_insert53 {ρ : Operand → Value} {o : Oper} {x y z : Operand} {K : Nat} {v u : Value} (hop : o.op = .call { callee := .invoke x "cribble/lattice.insert", args := #[y, z], argTypes := #[34, 29] }) (hx : ρ x = .iface 53 (.pointer (some ⟨K, 0, none⟩))) (hy : ρ y = v) (hz : ρ z = u) (w : World) : (execOp ρ o).run Tryz.prog w = .ok (.enter 111 #[.pointer (some ⟨K, 0, none⟩), v, u]) w := by
  unfold execOp
  simp only [hop, resolve, List.map_toArray, List.map_cons, List.map_nil, hx, hy, hz, Sem.run_bind, Sem.run_pure, Result.andThen_ok]
  kernel_rfl

set_option maxRecDepth 100000 in
set_option maxHeartbeats 4000000 in
theorem lmade (w : World) {X : Nat} {kind k most : Int} {s : Sp} {t TT : Nat} {iw : Value} (hX : w.heap[X]? = some (.cells #[.int .i64 kind, .int .i64 k, .int .i64 most, .int .i64 s.n, .int .i64 s.d0.k, .int .i64 s.d0.s, .int .i64 s.d0.t, .int .i64 s.d1.k, .int .i64 s.d1.s, .int .i64 s.d1.t, .int .u64 (t : Int), .iface TT iw] 52 (0, 0))) : Calls Tryz.prog 16 #[.pointer (some ⟨X, 0, none⟩)] w fun e w' => e = .returned (.bool true) ∧ Below w.heap.size w w' := by
  have HH : Hp w w [⟨X, .cells #[.int .i64 kind, .int .i64 k, .int .i64 most, .int .i64 s.n, .int .i64 s.d0.k, .int .i64 s.d0.s, .int .i64 s.d0.t, .int .i64 s.d1.k, .int .i64 s.d1.s, .int .i64 s.d1.t, .int .u64 (t : Int), .iface TT iw] 52 (0, 0), false⟩] := Hp.start ⟨hX, trivial⟩ (by simp) rfl
  have hGL := Lib.hid hX
  clear hX
  go_enter Tryz.func16, Tryz.ntmps16
  go_wp2_with (first | ((with_reducible show zY (Op.binOp BinOp.neq 50 _ _ _)); refine wpl_valu (by simp only [Region.wanted, yielded, zy, Option.bind_some]; decide) (run_neq50 rfl rfl rfl _) ?_; (try simp only [Act.put, zz])) | ((with_reducible show zX (Op.binOp _ _ _ _ _)); (refine wpl_cmp (p := ?_) rfl rfl rfl ?_ ?_ ?_; rotate_left; (focus (go_simp; with_reducible rfl)); all_goals (intro hq; (try (contradiction)); (try simp only [zw] at hq); (try simp only [Act.put, zz])))) | ((with_reducible show zY (Op.load _ _)); (refine wpl_load HH 0 rfl rfl rfl (by simp only [Region.wanted, yielded, zy, Option.bind_some]; decide) rfl ?_; (try simp only [Act.put, zz]))))
  go_ret
  exact ⟨rfl, Hp.back (l := []) (r := [_]) HH (by intro e he; simp only [List.mem_singleton] at he; subst he; exact hGL.out) rfl⟩

set_option maxRecDepth 100000 in
set_option maxHeartbeats 4000000 in
theorem lknows (w : World) {X : Nat} {kind k most : Int} {s : Sp} {t TT : Nat} {iw : Value} (hX : w.heap[X]? = some (.cells #[.int .i64 kind, .int .i64 k, .int .i64 most, .int .i64 s.n, .int .i64 s.d0.k, .int .i64 s.d0.s, .int .i64 s.d0.t, .int .i64 s.d1.k, .int .i64 s.d1.s, .int .i64 s.d1.t, .int .u64 (t : Int), .iface TT iw] 52 (0, 0))) (p : Px) (hp : p.ok) : Calls Tryz.prog 19 #[.pointer (some ⟨X, 0, none⟩), p.v] w fun e w' => e = .returned (.bool (RB s p)) ∧ Below w.heap.size w w' := by
  have HR := rb_gives s p hp
  generalize RB s p = rb at *
  have HH : Hp w w [⟨X, .cells #[.int .i64 kind, .int .i64 k, .int .i64 most, .int .i64 s.n, .int .i64 s.d0.k, .int .i64 s.d0.s, .int .i64 s.d0.t, .int .i64 s.d1.k, .int .i64 s.d1.s, .int .i64 s.d1.t, .int .u64 (t : Int), .iface TT iw] 52 (0, 0), false⟩] := Hp.start ⟨hX, trivial⟩ (by simp) rfl
  have hGL := Lib.hid hX
  clear hX
  cases rb
  all_goals
    go_enter Tryz.func19, Tryz.ntmps19
    go_wp2_with (first | ((with_reducible show zW (Op.box _ _)); refine wpl_box HH rfl rfl rfl ?_; clear HH; intro b V HH; simp only [Act.eval, zx, Value.cells, putl, zC, zB] at HH; (try simp only [Act.put, zz])) | ((with_reducible show Code.wp _ (Code.region _ _ true) _ _ _); (refine wp_tail_Hp (id := 1) [0, 1, 2, 3, 4, 5, 6, 7, 8, 9, 10, 11] [] (by kernel_rfl) HH ?_; clear HH; (try simp only [pick, zy]); repeat' (first | ((with_reducible show wpB _ _ _ _ [] _); refine wpB_nil ?_; intro V HH) | ((first | ((with_reducible show zU _); (first | ((with_reducible show zT (Op.move _)); refine wpB_move rfl rfl rfl ?_) | ((with_reducible show zT (Op.assign _)); refine wpB_assign rfl rfl rfl ?_) | ((with_reducible show zU (Op.call _)); refine wpB_callH (f := 16) (args := #[.pointer (some ⟨X, 0, none⟩)]) (v := .bool true) rfl (fun V hV => lmade V (Hp.get hV 1 rfl)) (fun w9 hS9 => ?_) ?_; (focus (go_simp; all_goals (fail)))) | ((with_reducible show zT (Op.pick _ _ _)); (refine wpB_bool (p := ?_) rfl ?_ ?_ ?_; rotate_left; (focus (intro w9 hS9; go_simp; with_reducible rfl)); all_goals (intro hq; (try (contradiction))))))) | ((with_reducible show zV _); (first | ((with_reducible show zT (Op.move _)); refine wpB_move rfl (by simp only [Region.wanted, yielded, zy, Option.bind_some]; decide) rfl ?_) | ((with_reducible show zT (Op.load _ _)); (first | refine wpB_load 0 rfl rfl rfl (by simp only [Region.wanted, yielded, zy, Option.bind_some]; decide) rfl ?_ | refine wpB_load 1 rfl rfl rfl (by simp only [Region.wanted, yielded, zy, Option.bind_some]; decide) rfl ?_)) | ((with_reducible show zT (Op.call _)); (refine wpB_callE (f := ?_) (args := ?_) (v := ?_) (by simp only [Region.wanted, yielded, zy, Option.bind_some]; decide) ?_ ?_ ?_; rotate_left 3; (focus (intro w9 hS9; go_simp; (refine ⟨?_, ?_⟩ <;> with_reducible rfl))); (focus (with_reducible exact (HR))))) | (refine wpB_val (v := ?_) (by simp only [Region.wanted, yielded, zy, Option.bind_some]; decide) ?_ ?_; rotate_left; (focus (intro w9 hS9; go_simp; all_goals (with_reducible rfl))))))); all_goals (try simp only [Act.put, zz, Act.eval, zx]))))))
    go_ret
    exact ⟨rfl, Hp.back (l := [_]) (r := [_]) HH (by intro e he; simp only [List.mem_singleton] at he; subst he; exact hGL.out) rfl⟩

set_option maxRecDepth 100000 in
set_option maxHeartbeats 4000000 in
theorem ltotal (w : World) {X : Nat} {kind k most : Int} {s : Sp} {t TT : Nat} {iw : Value} (hX : w.heap[X]? = some (.cells #[.int .i64 kind, .int .i64 k, .int .i64 most, .int .i64 s.n, .int .i64 s.d0.k, .int .i64 s.d0.s, .int .i64 s.d0.t, .int .i64 s.d1.k, .int .i64 s.d1.s, .int .i64 s.d1.t, .int .u64 (t : Int), .iface TT iw] 52 (0, 0))) : Calls Tryz.prog 15 #[.pointer (some ⟨X, 0, none⟩)] w fun e w' => e = .returned (.int .u64 (t : Int)) ∧ Below w.heap.size w w' := by
  have HH : Hp w w [⟨X, .cells #[.int .i64 kind, .int .i64 k, .int .i64 most, .int .i64 s.n, .int .i64 s.d0.k, .int .i64 s.d0.s, .int .i64 s.d0.t, .int .i64 s.d1.k, .int .i64 s.d1.s, .int .i64 s.d1.t, .int .u64 (t : Int), .iface TT iw] 52 (0, 0), false⟩] := Hp.start ⟨hX, trivial⟩ (by simp) rfl
  have hGL := Lib.hid hX
  clear hX
  go_enter Tryz.func15, Tryz.ntmps15
  go_wp2_with (first | (go_at_call 16; (refine (lmade _ (HH.get 0 rfl)).mono ?_); rintro e V ⟨rfl, hb⟩; replace HH := HH.next hb; clear hb; (try simp only [Act.put, zz])) | ((with_reducible show zX (Op.load _ _)); (refine wpl_load HH 0 rfl rfl rfl rfl rfl ?_; (try simp only [Act.put, zz]))))
  go_ret
  exact ⟨rfl, Hp.back (l := []) (r := [_]) HH (by intro e he; simp only [List.mem_singleton] at he; subst he; exact hGL.out) rfl⟩

set_option maxRecDepth 100000 in
set_option maxHeartbeats 4000000 in
theorem llow58_walk {w0 w : World} {l : List En} {X K t : Nat} {kind k most : Int} {s : Sp} (HH : Hp w0 w (XB X kind k most s t (.iface 58 (.pointer (some ⟨K, 0, none⟩))) :: l)) (p : Px) (hp : p.ok) (lo : Nat) (HLO : RB s p = true → ∀ V, Hp w0 V (XB X kind k most s t (.iface 58 (.pointer (some ⟨K, 0, none⟩))) :: l) → Calls Tryz.prog 194 #[.pointer (some ⟨K, 0, none⟩), p.v] V fun e w' => e = .returned (.int .u64 (lo : Int)) ∧ Below V.heap.size V w') : Calls Tryz.prog 7 #[.pointer (some ⟨X, 0, none⟩), p.v] w fun e w' => e = .returned (.int .u64 ((if RB s p then lo else 0 : Nat) : Int)) ∧ Hp w0 w' (XB X kind k most s t (.iface 58 (.pointer (some ⟨K, 0, none⟩))) :: l) := by
  have hr : ∀ b, RB s p = b → RB s p = b := fun _ h => h
  cases hrb : RB s p
  all_goals
    go_enter Tryz.func7, Tryz.ntmps7
    go_wp2_with (first | (go_at_call 19; (refine (lknows _ (HH.get 1 rfl) p hp).mono ?_); rintro e V ⟨rfl, hb⟩; rw [hrb]; replace HH := HH.next hb; clear hb; (try simp only [Act.put, zz])) | ((with_reducible show zX (Op.load _ _)); (refine wpl_load HH 0 rfl rfl rfl rfl rfl ?_; (try simp only [Act.put, zz]))) | ((with_reducible show zW (Op.box _ _)); refine wpl_box HH rfl rfl rfl ?_; clear HH; intro b V HH; simp only [Act.eval, zx, Value.cells, putl, zC, zB] at HH; (try simp only [Act.put, zz])) | ((with_reducible show Code.wp _ (Code.region _ _ true) _ _ _); (refine wp_tail_Hp (id := 3) [0, 1, 2, 3, 4, 5, 6] [] (by kernel_rfl) HH ?_; clear HH; (try simp only [pick, zy]); repeat' (first | ((with_reducible show wpB _ _ _ _ [] _); refine wpB_nil ?_; intro V HH) | (((with_reducible show zU _); (first | ((with_reducible show zT (Op.move _)); refine wpB_move rfl rfl rfl ?_) | ((with_reducible show zT (Op.assign _)); refine wpB_assign rfl rfl rfl ?_) | ((with_reducible show zU (Op.call _)); refine wpB_callH (f := 194) (args := #[.pointer (some ⟨K, 0, none⟩), p.v]) (v := .int .u64 (lo : Int)) rfl (fun V hV => HLO hrb V (hV.drop rfl)) (fun w9 hS9 => by (refine run_inv_low58 (x := .tmp 12) (y := .tmp 13) (K := K) (v := p.v) ?_ ?_ ?_ w9 <;> rfl)) ?_) | ((with_reducible show zT (Op.load _ _)); (first | refine wpB_load 0 rfl rfl rfl rfl rfl ?_ | refine wpB_load 1 rfl rfl rfl rfl rfl ?_)) | (refine wpB_val (v := ?_) rfl ?_ ?_; rotate_left; (focus (intro w9 hS9; go_simp; all_goals (with_reducible rfl)))))); all_goals (try simp only [Act.put, zz, Act.eval, zx]))))))
  all_goals (go_ret; exact ⟨rfl, HH.drop rfl⟩)

set_option maxRecDepth 100000 in
set_option maxHeartbeats 4000000 in
theorem llow53_walk {w0 w : World} {l : List En} {X K t : Nat} {kind k most : Int} {s : Sp} (HH : Hp w0 w (XB X kind k most s t (.iface 53 (.pointer (some ⟨K, 0, none⟩))) :: l)) (p : Px) (hp : p.ok) (lo : Nat) (HLO : RB s p = true → ∀ V, Hp w0 V (XB X kind k most s t (.iface 53 (.pointer (some ⟨K, 0, none⟩))) :: l) → Calls Tryz.prog 112 #[.pointer (some ⟨K, 0, none⟩), p.v] V fun e w' => e = .returned (.int .u64 (lo : Int)) ∧ Below V.heap.size V w') : Calls Tryz.prog 7 #[.pointer (some ⟨X, 0, none⟩), p.v] w fun e w' => e = .returned (.int .u64 ((if RB s p then lo else 0 : Nat) : Int)) ∧ Hp w0 w' (XB X kind k most s t (.iface 53 (.pointer (some ⟨K, 0, none⟩))) :: l) := by
  have hr : ∀ b, RB s p = b → RB s p = b := fun _ h => h
  cases hrb : RB s p
  all_goals
    go_enter Tryz.func7, Tryz.ntmps7
    go_wp2_with (first | (go_at_call 19; (refine (lknows _ (HH.get 1 rfl) p hp).mono ?_); rintro e V ⟨rfl, hb⟩; rw [hrb]; replace HH := HH.next hb; clear hb; (try simp only [Act.put, zz])) | ((with_reducible show zX (Op.load _ _)); (refine wpl_load HH 0 rfl rfl rfl rfl rfl ?_; (try simp only [Act.put, zz]))) | ((with_reducible show zW (Op.box _ _)); refine wpl_box HH rfl rfl rfl ?_; clear HH; intro b V HH; simp only [Act.eval, zx, Value.cells, putl, zC, zB] at HH; (try simp only [Act.put, zz])) | ((with_reducible show Code.wp _ (Code.region _ _ true) _ _ _); (refine wp_tail_Hp (id := 3) [0, 1, 2, 3, 4, 5, 6] [] (by kernel_rfl) HH ?_; clear HH; (try simp only [pick, zy]); repeat' (first | ((with_reducible show wpB _ _ _ _ [] _); refine wpB_nil ?_; intro V HH) | (((with_reducible show zU _); (first | ((with_reducible show zT (Op.move _)); refine wpB_move rfl rfl rfl ?_) | ((with_reducible show zT (Op.assign _)); refine wpB_assign rfl rfl rfl ?_) | ((with_reducible show zU (Op.call _)); refine wpB_callH (f := 112) (args := #[.pointer (some ⟨K, 0, none⟩), p.v]) (v := .int .u64 (lo : Int)) rfl (fun V hV => HLO hrb V (hV.drop rfl)) (fun w9 hS9 => by (refine run_inv_low53 (x := .tmp 12) (y := .tmp 13) (K := K) (v := p.v) ?_ ?_ ?_ w9 <;> rfl)) ?_) | ((with_reducible show zT (Op.load _ _)); (first | refine wpB_load 0 rfl rfl rfl rfl rfl ?_ | refine wpB_load 1 rfl rfl rfl rfl rfl ?_)) | (refine wpB_val (v := ?_) rfl ?_ ?_; rotate_left; (focus (intro w9 hS9; go_simp; all_goals (with_reducible rfl)))))); all_goals (try simp only [Act.put, zz, Act.eval, zx]))))))
  all_goals (go_ret; exact ⟨rfl, HH.drop rfl⟩)

set_option maxRecDepth 100000 in
set_option maxHeartbeats 4000000 in
theorem lhigh58_walk {w0 w : World} {l : List En} {X K t : Nat} {kind k most : Int} {s : Sp} (HH : Hp w0 w (XB X kind k most s t (.iface 58 (.pointer (some ⟨K, 0, none⟩))) :: l)) (p : Px) (hp : p.ok) (lo : Nat) (HLO : RB s p = true → ∀ V, Hp w0 V (XB X kind k most s t (.iface 58 (.pointer (some ⟨K, 0, none⟩))) :: l) → Calls Tryz.prog 192 #[.pointer (some ⟨K, 0, none⟩), p.v] V fun e w' => e = .returned (.int .u64 (lo : Int)) ∧ Below V.heap.size V w') : Calls Tryz.prog 8 #[.pointer (some ⟨X, 0, none⟩), p.v] w fun e w' => e = .returned (.int .u64 ((if RB s p then lo else 0 : Nat) : Int)) ∧ Hp w0 w' (XB X kind k most s t (.iface 58 (.pointer (some ⟨K, 0, none⟩))) :: l) := by
  have hr : ∀ b, RB s p = b → RB s p = b := fun _ h => h
  cases hrb : RB s p
  all_goals
    go_enter Tryz.func8, Tryz.ntmps8
    go_wp2_with (first | (go_at_call 19; (refine (lknows _ (HH.get 1 rfl) p hp).mono ?_); rintro e V ⟨rfl, hb⟩; rw [hrb]; replace HH := HH.next hb; clear hb; (try simp only [Act.put, zz])) | ((with_reducible show zX (Op.load _ _)); (refine wpl_load HH 0 rfl rfl rfl rfl rfl ?_; (try simp only [Act.put, zz]))) | ((with_reducible show zW (Op.box _ _)); refine wpl_box HH rfl rfl rfl ?_; clear HH; intro b V HH; simp only [Act.eval, zx, Value.cells, putl, zC, zB] at HH; (try simp only [Act.put, zz])) | ((with_reducible show Code.wp _ (Code.region _ _ true) _ _ _); (refine wp_tail_Hp (id := 3) [0, 1, 2, 3, 4, 5, 6] [] (by kernel_rfl) HH ?_; clear HH; (try simp only [pick, zy]); repeat' (first | ((with_reducible show wpB _ _ _ _ [] _); refine wpB_nil ?_; intro V HH) | (((with_reducible show zU _); (first | ((with_reducible show zT (Op.move _)); refine wpB_move rfl rfl rfl ?_) | ((with_reducible show zT (Op.assign _)); refine wpB_assign rfl rfl rfl ?_) | ((with_reducible show zU (Op.call _)); refine wpB_callH (f := 192) (args := #[.pointer (some ⟨K, 0, none⟩), p.v]) (v := .int .u64 (lo : Int)) rfl (fun V hV => HLO hrb V (hV.drop rfl)) (fun w9 hS9 => by (refine run_inv_high58 (x := .tmp 12) (y := .tmp 13) (K := K) (v := p.v) ?_ ?_ ?_ w9 <;> rfl)) ?_) | ((with_reducible show zT (Op.load _ _)); (first | refine wpB_load 0 rfl rfl rfl rfl rfl ?_ | refine wpB_load 1 rfl rfl rfl rfl rfl ?_)) | (refine wpB_val (v := ?_) rfl ?_ ?_; rotate_left; (focus (intro w9 hS9; go_simp; all_goals (with_reducible rfl)))))); all_goals (try simp only [Act.put, zz, Act.eval, zx]))))))
  all_goals (go_ret; exact ⟨rfl, HH.drop rfl⟩)

set_option maxRecDepth 100000 in
set_option maxHeartbeats 4000000 in
theorem lhigh53_walk {w0 w : World} {l : List En} {X K t : Nat} {kind k most : Int} {s : Sp} (HH : Hp w0 w (XB X kind k most s t (.iface 53 (.pointer (some ⟨K, 0, none⟩))) :: l)) (p : Px) (hp : p.ok) (lo : Nat) (HLO : RB s p = true → ∀ V, Hp w0 V (XB X kind k most s t (.iface 53 (.pointer (some ⟨K, 0, none⟩))) :: l) → Calls Tryz.prog 110 #[.pointer (some ⟨K, 0, none⟩), p.v] V fun e w' => e = .returned (.int .u64 (lo : Int)) ∧ Below V.heap.size V w') : Calls Tryz.prog 8 #[.pointer (some ⟨X, 0, none⟩), p.v] w fun e w' => e = .returned (.int .u64 ((if RB s p then lo else 0 : Nat) : Int)) ∧ Hp w0 w' (XB X kind k most s t (.iface 53 (.pointer (some ⟨K, 0, none⟩))) :: l) := by
  have hr : ∀ b, RB s p = b → RB s p = b := fun _ h => h
  cases hrb : RB s p
  all_goals
    go_enter Tryz.func8, Tryz.ntmps8
    go_wp2_with (first | (go_at_call 19; (refine (lknows _ (HH.get 1 rfl) p hp).mono ?_); rintro e V ⟨rfl, hb⟩; rw [hrb]; replace HH := HH.next hb; clear hb; (try simp only [Act.put, zz])) | ((with_reducible show zX (Op.load _ _)); (refine wpl_load HH 0 rfl rfl rfl rfl rfl ?_; (try simp only [Act.put, zz]))) | ((with_reducible show zW (Op.box _ _)); refine wpl_box HH rfl rfl rfl ?_; clear HH; intro b V HH; simp only [Act.eval, zx, Value.cells, putl, zC, zB] at HH; (try simp only [Act.put, zz])) | ((with_reducible show Code.wp _ (Code.region _ _ true) _ _ _); (refine wp_tail_Hp (id := 3) [0, 1, 2, 3, 4, 5, 6] [] (by kernel_rfl) HH ?_; clear HH; (try simp only [pick, zy]); repeat' (first | ((with_reducible show wpB _ _ _ _ [] _); refine wpB_nil ?_; intro V HH) | (((with_reducible show zU _); (first | ((with_reducible show zT (Op.move _)); refine wpB_move rfl rfl rfl ?_) | ((with_reducible show zT (Op.assign _)); refine wpB_assign rfl rfl rfl ?_) | ((with_reducible show zU (Op.call _)); refine wpB_callH (f := 110) (args := #[.pointer (some ⟨K, 0, none⟩), p.v]) (v := .int .u64 (lo : Int)) rfl (fun V hV => HLO hrb V (hV.drop rfl)) (fun w9 hS9 => by (refine run_inv_high53 (x := .tmp 12) (y := .tmp 13) (K := K) (v := p.v) ?_ ?_ ?_ w9 <;> rfl)) ?_) | ((with_reducible show zT (Op.load _ _)); (first | refine wpB_load 0 rfl rfl rfl rfl rfl ?_ | refine wpB_load 1 rfl rfl rfl rfl rfl ?_)) | (refine wpB_val (v := ?_) rfl ?_ ?_; rotate_left; (focus (intro w9 hS9; go_simp; all_goals (with_reducible rfl)))))); all_goals (try simp only [Act.put, zz, Act.eval, zx]))))))
  all_goals (go_ret; exact ⟨rfl, HH.drop rfl⟩)

end Go.Proofs.YtcbahkfbdlhabaaGreatDoor
