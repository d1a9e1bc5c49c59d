/- A part of the proof that the law TopThree returns true for all arguments of bulk at most 1048576 (no other condition). Here: The document's labels: Split, Join. Maps keyed by prefixes in walks over heaplets. -/
import Derived.Test.YtcbahkfbdlhabaaGreatDoorK07
import Derived.Test.YtcbahkfbdlhabaaGreatDoorK06
import Derived.Lib.IndexLaws
namespace Go.Proofs.YtcbahkfbdlhabaaGreatDoor
set_option linter.unusedVariables false
set_option linter.unusedSimpArgs false
open Go.RowKit
attribute [local go_sem] index24_0 index24_1 field34_0 field34_1
attribute [local irreducible] wpList Code.wp wpB

/-- The parts from place i on, the current one begun at f. -/
def restP (p : ByteArray) (f i : Nat) : List ByteArray :=
  if p.size ≤ i then [p.extract f p.size] else if gb p i = 46 then p.extract f i :: restP p (i + 1) (i + 1) else restP p f (i + 1)
termination_by p.size - i
theorem restP_none (p : ByteArray) (f i : Nat) (h : ∀ j, i ≤ j → j < p.size → gb p j ≠ 46) : restP p f i = [p.extract f p.size] := by
  rw [restP]
  split
  · rfl
  · rw [if_neg (h i (Nat.le_refl _) (by omega))]
    exact restP_none p f (i + 1) fun j h1 h2 => h j (by omega) h2
termination_by p.size - i
theorem restP_first (p : ByteArray) (f i d : Nat) (hi : i ≤ d) (hd : d < p.size) (h46 : gb p d = 46) (h : ∀ j, i ≤ j → j < d → gb p j ≠ 46) : restP p f i = p.extract f d :: restP p (d + 1) (d + 1) := by
  rw [restP, if_neg (by omega)]
  by_cases he : i = d
  · subst he
    rw [if_pos h46]
  · rw [if_neg (h i (Nat.le_refl _) (by omega))]
    exact restP_first p f (i + 1) d (by omega) hd h46 fun j h1 h2 => h j (by omega) h2
termination_by d - i
theorem gb_get (p : ByteArray) (o k : Nat) (hk : o + k < p.size) : (p.extract o p.size).data.toList[k]? = some p[o + k] := by
  have hs : p.data.size = p.size := rfl
  rw [Array.getElem?_toList, ByteArray.data_extract, Array.getElem?_extract_of_lt (by omega)]
  rfl
theorem gb_46 (p : ByteArray) (k : Nat) (hk : k < p.size) : gb p k = 46 ↔ p[k] = 46 := by
  rw [gb, dif_pos hk]
  constructor
  · intro h
    exact UInt8.toNat_inj.1 h
  · intro h
    rw [h]
    rfl
theorem split_rest (p : ByteArray) : ∀ (n o : Nat), o ≤ p.size → p.size - o ≤ n → Lib.splitB dotS 0 (Lib.countB (p.extract o p.size) dotS) (p.extract o p.size) = restP p o o := by
  intro n
  induction n with
  | zero =>
    intro o h1 h2
    have : o = p.size := by omega
    subst this
    rw [restP, if_pos (Nat.le_refl _)]
    rcases Lib.indexB_cases (p.extract p.size p.size) dotS with hix | ⟨i, _, hr⟩
    · exact Lib.splitB_miss _ _ _ _ hix
    · rw [ByteArray.size_extract] at hr
      have : dotS.size = 1 := rfl
      omega
  | succ n ih =>
    intro o h1 h2
    rcases Lib.indexB_cases (p.extract o p.size) dotS with hix | ⟨i, hix, hr⟩
    · rw [Lib.splitB_miss _ _ _ _ hix]
      rw [indexB_dot] at hix
      refine (restP_none p o o fun j hj1 hj2 he => ?_).symm
      have h := Lib.indexByte_none hix (j - o)
      rw [gb_get p o (j - o) (by omega)] at h
      refine h ?_
      rw [gb_46 p j hj2] at he
      have e : o + (j - o) = j := by omega
      simp only [e, he]
    · have hd1 : dotS.size = 1 := rfl
      rw [ByteArray.size_extract, hd1] at hr
      have hc := Lib.countB_hit _ dotS i (by decide) hix
      rw [hc, Nat.add_comm 1, Lib.splitB_hit _ _ _ _ i hix]
      rw [indexB_dot] at hix
      obtain ⟨g1, g2⟩ := Lib.indexByte_some hix
      rw [gb_get p o i (by omega)] at g1
      have hfirst := restP_first p o o (o + i) (by omega) (by omega) ((gb_46 p _ (by omega)).2 (by simpa using g1)) (fun j hj1 hj2 he => by
        have h := g2 (j - o) (by omega)
        rw [gb_get p o (j - o) (by omega)] at h
        refine h ?_
        rw [gb_46 p j (by omega)] at he
        have e : o + (j - o) = j := by omega
        simp only [e, he])
      rw [hfirst]
      have e1 : (p.extract o p.size).extract 0 (i + 0) = p.extract o (o + i) := by
        rw [ByteArray.extract_extract]
        congr 1
        omega
      have e2 : (p.extract o p.size).extract (i + dotS.size) (p.extract o p.size).size = p.extract (o + i + 1) p.size := by
        rw [ByteArray.extract_extract, ByteArray.size_extract, hd1]
        congr 1
        omega
      rw [e1, e2, ih (o + i + 1) (by omega) (by omega)]
theorem partsD_rest (p : ByteArray) : partsD p = restP p 0 0 := by
  have h := split_rest p p.size 0 (Nat.zero_le _) (by omega)
  have e : p.extract 0 p.size = p := ByteArray.extract_zero_size
  rw [e] at h
  exact h

theorem elt118 : ElT 118 9 1 16 (.string ⟨#[]⟩) :=
  ⟨by kernel_rfl, by
    have h : (Tryz.prog.info? 9).map (fun i => (i.zero, i.size, i.bytes)) = some (some (.string ⟨#[]⟩), 1, 16) := by kernel_rfl
    exact info_parts h, rfl, by decide⟩
set_option maxRecDepth 100000 in
theorem run_bs118 (x : ByteArray) (w : World) : (Instr.buildSlice 118 1 #[(0, .string x)]).run Tryz.prog w = .ok (.slice (some ⟨w.heap.size, 0, none⟩) 1 1) (w.alloc (.cells #[.string x] 9)) := by
  simp [go_sem]
theorem wpl_bs118 {ops : Array Oper} {rest : List Oper} {o : Oper} {act : Act} {Q : Exit → Act → World → Prop} {w0 W : World} {L : List En} {x : Operand} {n : ByteArray} (HH : Hp w0 W L) (hop : o.op = .buildSlice 118 1 #[(0, x)]) (hw : Region.wanted o (yielded ops act.tmps) = true) (hx : act.eval x = .string n)
    (hh : ∀ b' V, Hp w0 V (⟨b', .cells #[.string n] 9 (0, 0), true⟩ :: L) → wpList Tryz.prog ops Q rest (act.put o.dst (.slice (some ⟨b', 0, none⟩) 1 1)) V) : wpList Tryz.prog ops Q (o :: rest) act W :=
  wpList_on hw fun K hK => by
    unfold Oper.wp execOp
    simp [hop, hx, run_bs118, Result.andThen]
    exact hK _ _ (hh _ _ (HH.alloc _))
theorem SlR.form {E k n : Nat} {own : Bool} {v : Value} {xs : List Value} {r : List En} (h : SlR E k own v n xs r) : ∃ a c, v = .slice a n c := by
  rcases h.2 with ⟨rfl, rfl, _⟩ | ⟨g, cap, js, rfl, _⟩
  · exact ⟨none, 0, rfl⟩
  · exact ⟨_, _, rfl⟩
theorem srow_snoc (ps : List ByteArray) (x : ByteArray) : srow ps ++ [.string x] = srow (ps ++ [x]) := by simp [srow]

theorem restP_skip {p : ByteArray} {f i : Nat} (hi : i < p.size) (h : gb p i ≠ 46) : restP p f i = restP p f (i + 1) := by
  rw [restP, if_neg (by omega), if_neg h]
theorem restP_hit {p : ByteArray} {f i : Nat} (hi : i < p.size) (h : gb p i = 46) : restP p f i = p.extract f i :: restP p (i + 1) (i + 1) := by
  rw [restP, if_neg (by omega), if_pos h]
theorem restP_end {p : ByteArray} {f i : Nat} (hi : i = p.size) : restP p f i = [p.extract f i] := by
  rw [restP, if_pos (by omega), hi]
theorem ok_no {p x : ByteArray} {ps t : List ByteArray} (h0 : 0 < p.size) (h : partsD p = ps ++ x :: t) (hx : labB x = false ∨ 8 ≤ ps.length) : okL p = false := by
  cases ho : okL p with
  | false => rfl
  | true =>
    obtain ⟨h8, hl⟩ := okL_parts (by omega) ho
    rw [h] at h8 hl
    rcases hx with hx | hx
    · have := hl ps.length (by simp)
      unfold gs at this
      rw [List.getD_eq_getElem?_getD, List.getElem?_append_right (Nat.le_refl _)] at this
      simp [hx] at this
    · simp at h8
      omega
theorem ok_yes {p : ByteArray} {ps : List ByteArray} (h : partsD p = ps) (h8 : ps.length ≤ 8) (hl : ∀ x ∈ ps, labB x = true) : okL p = true := by
  unfold okL
  rw [h, decide_eq_true h8, decide_eq_true (p := ∀ k, k < ps.length → labB (gs ps k) = true) (fun k hk => hl _ (by
    unfold gs
    rw [List.getD_eq_getElem?_getD, List.getElem?_eq_getElem hk]
    exact List.getElem_mem hk))]
  simp
theorem dot_gb {p : ByteArray} {i : Nat} (hi : i < p.size) : (((p[i].toNat : Nat) : Int) != 46) = true ↔ gb p i ≠ 46 := by
  rw [gb_eq p i hi, bne_iff_ne]
  omega
theorem dot_gb0 {p : ByteArray} {i : Nat} (hi : i < p.size) : (((p[i].toNat : Nat) : Int) != 46) = false ↔ gb p i = 46 := by
  rw [gb_eq p i hi, bne_eq_false_iff_eq]
  omega
theorem nat_succ (i : Nat) : Value.int .i64 ((i : Int) + 1) = .int .i64 ((i + 1 : Nat) : Int) := by simp

set_option maxRecDepth 100000 in
set_option maxHeartbeats 4000000 in
theorem refSplit_walk (p : ByteArray) (hp : p.size < 2 ^ 62) (h0 : 0 < p.size) (w : World) : Calls Tryz.prog 62 #[.string p] w fun e w' => (okL p = true ∧ ∃ v r, e = .returned (.tuple #[v, .bool true]) ∧ SlR 9 1 true v (partsD p).length (srow (partsD p)) r ∧ Hp w w' r) ∨ (okL p = false ∧ e = .returned (.tuple #[.slice none 0 0, .bool false]) ∧ Below w.heap.size w w') := by
  have HH := Hp.nil w
  go_enter Tryz.func62, Tryz.ntmps62
  go_wp2_with (fail)
  go_loopw [4, 5, 6] (fun l f i wr => ∃ (i' f' : Nat) (ps : List ByteArray) (a : Option Addr) (c : Nat) (r : List En), l = .slice a ps.length c ∧ f = .int .i64 f' ∧ i = .int .i64 i' ∧ SlR 9 1 true (.slice a ps.length c) ps.length (srow ps) r ∧ Hp w wr r ∧ f' ≤ i' ∧ ps.length ≤ 8 ∧ (∀ x ∈ ps, labB x = true) ∧ ((i' ≤ p.size ∧ partsD p = ps ++ restP p f' i') ∨ (i' = p.size + 1 ∧ partsD p = ps))) (fun _ _ i _ => (p.size + 1 - (intOf i).toNat))
  case atStart => exact ⟨0, 0, [], none, 0, [], rfl, rfl, rfl, SlR.nil _ _ _, HH, by omega, by simp, by simp, .inl ⟨by omega, by rw [partsD_rest]; rfl⟩⟩
  case round =>
    obtain ⟨i, f, ps, a, c, r, rfl, rfl, rfl, HS, HH, hfi, h8, hlab, hinv⟩ := hrel
    have HI := Lib.hid hinv
    have HLB := Lib.hid hlab
    clear hinv hlab
    go_wp2_with (first | ((with_reducible show zW (Op.buildSlice 118 _ _)); refine wpl_bs118 HH rfl rfl rfl ?_; clear HH; intro b V HH; (try simp only [Act.put, zz])) | (at_builtin; (refine wpl_append0 elt118 HS HH rfl rfl rfl rfl rfl rfl (by omega) (by omega) ?_); clear HH HS; intro v r V HS HH; obtain ⟨a, c, rfl⟩ := HS.form; (try simp only [Act.put, zz])) | (go_at_call 73; (with_reducible refine ((refIsLabel_gives _ (by rw [ByteArray.size_extract]; omega)) _).mono ?_); rintro e V ⟨rfl, hb⟩; replace HH := HH.next hb; clear hb) | ((with_reducible show zX (Op.binOp _ _ _ _ _)); (refine wpl_cmp (p := ?_) rfl rfl rfl ?_ ?_ ?_; rotate_left; (focus (go_simp; with_reducible rfl)); all_goals (intro hq; (try (fail)); (try simp only [zw] at hq); (try simp only [Act.put, zz])))) | ((with_reducible show zY (Op.binOp _ _ _ _ _)); (refine wpl_cmp (p := ?_) rfl rfl (by simp only [Region.wanted, yielded, zy, Option.bind_some]; decide) ?_ ?_ ?_; rotate_left; (focus (go_simp; with_reducible rfl)); all_goals (intro hq; (try (contradiction)); (try simp only [zw] at hq); (try simp only [Act.put, zz])))))
    · have hlt : i < p.size := by assumption
      have hd := (dot_gb hlt).1 hq
      refine ⟨⟨i + 1, f, ps, a, c, r, rfl, rfl, nat_succ i, HS, HH, by omega, h8, HLB.out, .inl ⟨by omega, ?_⟩⟩, by simp [intOf]; omega⟩
      rw [← restP_skip hlt hd]
      exact (HI.out.resolve_right (by omega)).2
    · have hlt : i < p.size := by assumption
      have hd := (dot_gb0 hlt).1 (by assumption)
      have hp2 := (HI.out.resolve_right (by omega)).2
      rw [restP_hit hlt hd] at hp2
      have hr := ok_no h0 hp2 (.inr (by omega))
      go_ret2
      exact .inr ⟨hr, rfl, HH.below (List.all_eq_true.2 HS.own)⟩
    · have hlt : i < p.size := by assumption
      have hd := (dot_gb0 hlt).1 (by assumption)
      have hp2 := (HI.out.resolve_right (by omega)).2
      rw [restP_hit hlt hd] at hp2
      have h9' : labB (p.extract f i) = true := by assumption
      rw [srow_snoc] at HS
      have el : ps.length + 1 = (ps ++ [p.extract f i]).length := by simp
      rw [el] at HS ⊢
      refine ⟨⟨i + 1, i + 1, ps ++ [p.extract f i], a, c, r, rfl, nat_succ i, nat_succ i, HS, HH, by omega, by rw [← el]; omega, ?_, .inl ⟨by omega, by rw [hp2]; simp⟩⟩, by simp [intOf]; omega⟩
      intro x hx
      rcases List.mem_append.1 hx with hx | hx
      · exact HLB.out x hx
      · rw [List.mem_singleton.1 hx]
        exact h9'
    · have hlt : i < p.size := by assumption
      have hd := (dot_gb0 hlt).1 (by assumption)
      have hp2 := (HI.out.resolve_right (by omega)).2
      rw [restP_hit hlt hd] at hp2
      have h9' : labB (p.extract f i) = false := by first | assumption | (simp_all; done)
      have hr := ok_no h0 hp2 (.inl h9')
      go_ret2
      exact .inr ⟨hr, rfl, HH.below (List.all_eq_true.2 HS.own)⟩
    · have hlt : i = p.size := by omega
      have hp2 := (HI.out.resolve_right (by omega)).2
      rw [restP_end hlt] at hp2
      have hr := ok_no h0 hp2 (.inr (by omega))
      go_ret2
      exact .inr ⟨hr, rfl, HH.below (List.all_eq_true.2 HS.own)⟩
    · have hlt : i = p.size := by omega
      have hp2 := (HI.out.resolve_right (by omega)).2
      rw [restP_end hlt] at hp2
      have h9' : labB (p.extract f i) = true := by assumption
      rw [srow_snoc] at HS
      have el : ps.length + 1 = (ps ++ [p.extract f i]).length := by simp
      rw [el] at HS ⊢
      refine ⟨⟨i + 1, i + 1, ps ++ [p.extract f i], a, c, r, rfl, nat_succ i, nat_succ i, HS, HH, by omega, by rw [← el]; omega, ?_, .inr ⟨by omega, hp2⟩⟩, by simp [intOf]; omega⟩
      intro x hx
      rcases List.mem_append.1 hx with hx | hx
      · exact HLB.out x hx
      · rw [List.mem_singleton.1 hx]
        exact h9'
    · have hlt : i = p.size := by omega
      have hp2 := (HI.out.resolve_right (by omega)).2
      rw [restP_end hlt] at hp2
      have h9' : labB (p.extract f i) = false := by first | assumption | (simp_all; done)
      have hr := ok_no h0 hp2 (.inl h9')
      go_ret2
      exact .inr ⟨hr, rfl, HH.below (List.all_eq_true.2 HS.own)⟩
    · have hp2 := (HI.out.resolve_left (by omega)).2
      have hr := ok_yes hp2 h8 HLB.out
      rw [hp2] at *
      go_ret2
      exact .inl ⟨hr, _, _, rfl, HS, HH⟩

theorem joinB_nil : joinB [] = ⟨#[]⟩ := rfl
theorem joinTail_snoc (sep : List UInt8) (r : List (List UInt8)) (x : List UInt8) : Lib.joinTail sep (r ++ [x]) = Lib.joinTail sep r ++ (sep ++ x) := by
  simp [Lib.joinTail]
theorem joinB_snoc (ls : List ByteArray) (x : ByteArray) : joinB (ls ++ [x]) = (if ls.length = 0 then joinB ls else joinB ls ++ dotS) ++ x := by
  cases ls with
  | nil =>
    apply ByteArray.ext
    simp [joinB, Lib.join_one, Lib.join_nil]
  | cons y r =>
    rw [if_neg (by simp)]
    apply ByteArray.ext
    apply Array.toList_inj.1
    show (Lib.join ((y :: r ++ [x]).map (·.data.toList)) [46]) = _
    simp only [ByteArray.data_append, Array.toList_append]
    show _ = Lib.join ((y :: r).map (·.data.toList)) [46] ++ dotS.data.toList ++ x.data.toList
    rw [List.cons_append, List.map_cons, List.map_cons, Lib.join_cons, Lib.join_cons, List.map_append, List.map_cons, List.map_nil, joinTail_snoc]
    simp [dotS]
theorem joinB_take (ls : List ByteArray) (k : Nat) (hk : k < ls.length) : joinB (ls.take (k + 1)) = (if k = 0 then joinB (ls.take k) else joinB (ls.take k) ++ dotS) ++ gs ls k := by
  have e : ls.take (k + 1) = ls.take k ++ [gs ls k] := by
    rw [List.take_add_one, List.getElem?_eq_getElem hk]
    unfold gs
    rw [List.getD_eq_getElem?_getD, List.getElem?_eq_getElem hk]
    rfl
  rw [e, joinB_snoc, List.length_take, show min k ls.length = k by omega]

set_option maxRecDepth 100000 in
set_option maxHeartbeats 4000000 in
theorem refJoin_nil (a : Option Addr) (c : Nat) (w : World) : Calls Tryz.prog 64 #[.slice a 0 c] w fun e w' => e = .returned (.string ⟨#[]⟩) ∧ Below w.heap.size w w' := by
  have HH := Hp.nil w
  go_enter Tryz.func64, Tryz.ntmps64
  go_wp2_with (first | ((with_reducible show Code.wp _ (Code.loop _) _ _ _); refine wp_loop_rounds 1 ?_; rw [rounds_succ]) | ((with_reducible show zX (Op.binOp _ _ _ _ _)); (refine wpl_cmp (p := ?_) rfl rfl rfl ?_ ?_ ?_; rotate_left; (focus (go_simp; with_reducible rfl)); all_goals (intro hq; (try (contradiction)); (try simp only [zw] at hq); (try simp only [Act.put, zz])))))
  all_goals (go_ret; refine ⟨?_, HH.below rfl⟩; (rfl))

set_option maxRecDepth 100000 in
set_option maxHeartbeats 4000000 in
theorem refJoin_walk (ls : List ByteArray) (row : List Value) (g cap : Nat) (hn : ls.length < 2 ^ 62) (hz : ∀ k, k ≤ ls.length → (joinB (ls.take k)).size ≤ 1000) (hz2 : ∀ k, k < ls.length → (gs ls k).size ≤ 1000) (hv : ∀ k, k < ls.length → rdv false 1 row k = some (.string (gs ls k))) (w : World) (HH0 : Hp w w [⟨g, .cells row.toArray 9 (0, 0), false⟩]) : Calls Tryz.prog 64 #[.slice (some ⟨g, 0, none⟩) ls.length cap] w fun e w' => e = .returned (.string (joinB ls)) ∧ Below w.heap.size w w' := by
  have HV := hv
  have HZ := Lib.hid hz
  have HZ2 := Lib.hid hz2
  clear hv hz hz2
  have HH := HH0
  go_enter Tryz.func64, Tryz.ntmps64
  go_wp2_with (fail)
  go_loopw [3, 4] (fun s i wr => ∃ k : Nat, k ≤ ls.length ∧ i = .int .i64 k ∧ s = .string (joinB (ls.take k)) ∧ Hp w wr (Hp.lst HH)) (fun _ i _ => (ls.length - (intOf i).toNat))
  case atStart => exact ⟨0, by omega, rfl, rfl, HH⟩
  case round =>
    obtain ⟨k, hk, rfl, rfl, HR⟩ := hrel
    dsimp only [Hp.lst] at HR
    have HH := HR
    clear HR
    have z1 := HZ.out k hk
    have z2 : k < ls.length → (gs ls k).size ≤ 1000 := fun h => HZ2.out k h
    go_wp2_with (first | ((with_reducible show zW (Op.load 9 _)); refine wpl_load HH 0 rfl rfl rfl rfl (HV _ (by omega)) ?_; (try simp only [Act.put, zz])) | ((with_reducible show zX (Op.binOp _ _ _ _ _)); (refine wpl_cmp (p := ?_) rfl rfl rfl ?_ ?_ ?_; rotate_left; (focus (go_simp; with_reducible rfl)); all_goals (intro hq; (try (fail)); (try simp only [zw] at hq); (try simp only [Act.put, zz])))))
    all_goals (try (exfalso; have z3 := z2 (by omega); omega))
    · refine ⟨⟨k + 1, by omega, nat_succ k, ?_, HH⟩, by simp [intOf]; omega⟩
      rw [joinB_take ls k (by omega), if_neg (by omega)]
    · refine ⟨⟨k + 1, by omega, nat_succ k, ?_, HH⟩, by simp [intOf]; omega⟩
      rw [joinB_take ls k (by omega), if_pos (by omega)]
    · have hk2 : k = ls.length := by omega
      subst hk2
      rw [List.take_of_length_le (Nat.le_refl _)]
      go_ret
      exact ⟨rfl, HH.below_at (fun e he => by simp only [List.mem_cons, List.not_mem_nil, or_false] at he; rcases he with rfl; exact .inr HH0.lies.1)⟩

theorem tmod2 (a b : Nat) : ((a : Int) / (2 : Int) ^ b).tmod 2 = ((a / 2 ^ b % 2 : Nat) : Int) := by
  rw [Int.tmod_eq_emod_of_nonneg (Int.ediv_nonneg (by omega) (by exact Int.le_of_lt (Int.pow_pos (by omega))))]
  simp
set_option maxRecDepth 100000 in
set_option maxHeartbeats 4000000 in
theorem refBit_lo (hi lo : Nat) (i : Nat) (h1 : hi < M) (h2 : lo < M) (hi2 : i < 64) (w : World) : Calls Tryz.prog 63 #[.int .u64 (hi : Int), .int .u64 (lo : Int), .int .i64 (i : Int)] w fun e w' => e = .returned (.int .u64 ((hi / 2 ^ (63 - i) % 2 : Nat) : Int)) ∧ Below w.heap.size w w' := by
  have HH := Hp.nil w
  go_enter Tryz.func63, Tryz.ntmps63
  go_wp2_with ((with_reducible show zX (Op.binOp _ _ _ _ _)); (refine wpl_cmp (p := ?_) rfl rfl rfl ?_ ?_ ?_; rotate_left; (focus (go_simp; with_reducible rfl)); all_goals (intro hq; (try (fail)); (try simp only [zw] at hq); (try simp only [Act.put, zz]))))
  all_goals (first | (exfalso; omega) | (go_ret; exact ⟨congrArg (fun x => Ending.returned (.int .u64 x)) (tmod2 hi (63 - i)), HH.below rfl⟩))
set_option maxRecDepth 100000 in
set_option maxHeartbeats 4000000 in
theorem refBit_hi (hi lo : Nat) (i : Nat) (h1 : hi < M) (h2 : lo < M) (hi2 : 64 ≤ i) (hi3 : i < 128) (w : World) : Calls Tryz.prog 63 #[.int .u64 (hi : Int), .int .u64 (lo : Int), .int .i64 (i : Int)] w fun e w' => e = .returned (.int .u64 ((lo / 2 ^ (127 - i) % 2 : Nat) : Int)) ∧ Below w.heap.size w w' := by
  have HH := Hp.nil w
  go_enter Tryz.func63, Tryz.ntmps63
  go_wp2_with ((with_reducible show zX (Op.binOp _ _ _ _ _)); (refine wpl_cmp (p := ?_) rfl rfl rfl ?_ ?_ ?_; rotate_left; (focus (go_simp; with_reducible rfl)); all_goals (intro hq; (try (fail)); (try simp only [zw] at hq); (try simp only [Act.put, zz]))))
  all_goals (first | (exfalso; omega) | (go_ret; exact ⟨congrArg (fun x => Ending.returned (.int .u64 x)) (tmod2 lo (127 - i)), HH.below rfl⟩))

end Go.Proofs.YtcbahkfbdlhabaaGreatDoor
namespace Go.Proofs.YtcbahkfbdlhabaaGreatDoor
set_option linter.unusedVariables false
set_option linter.unusedSimpArgs false
open Go.RowKit
attribute [local irreducible] wpList Code.wp wpB

section maps
variable {α : Type} {enc : α → Value} {T E : TypeId} {z : Value} {ops : Array Oper} {rest : List Oper} {o : Oper} {a : Act} {Q : Exit → Act → World → Prop} {w0 W : World} {l : List En} {x y u : Operand} {b : Nat} {m : List (Me α)} {c : Nat} {own : Bool}
theorem wpl_look [hT : MpT T E z] (HH : Hp w0 W l) (i : Nat) (p : Px) {ok : Bool} (hop : o.op = .lookup T x y ok) (hx : a.eval x = .map (some b)) (hy : a.eval y = p.v) (he : l[i]? = some ⟨b, mp enc m c, own⟩) (hw : Region.wanted o (yielded ops a.tmps) = true)
    (h : wpList Tryz.prog ops Q rest (a.put o.dst (if ok then .tuple #[((mget m p).map enc).getD z, .bool (mget m p).isSome] else ((mget m p).map enc).getD z)) W) : wpList Tryz.prog ops Q (o :: rest) a W :=
  wpList_on hw fun K hK => by
    have hr := run_look34 (T := T) p ok (HH.get i he)
    unfold Oper.wp execOp
    simp only [hop, hx, hy, Sem.run_bind, Sem.run_pure, Result.andThen_ok, hr]
    exact hK _ _ h
theorem exec_look [hT : MpT T E z] (p : Px) {ok : Bool} (hop : o.op = .lookup T x y ok) (hx : a.eval x = .map (some b)) (hy : a.eval y = p.v) {V : World} (hb : V.heap[b]? = some (mp enc m c)) :
    (execOp a.eval o).run Tryz.prog V = .ok (.value (if ok then .tuple #[((mget m p).map enc).getD z, .bool (mget m p).isSome] else ((mget m p).map enc).getD z)) V := by
  have hr := run_look34 (T := T) p ok hb
  unfold execOp
  simp only [hop, hx, hy, Sem.run_bind, Sem.run_pure, Result.andThen_ok, hr]
theorem wpB_look {Q : Act → Prop} [hT : MpT T E z] (i : Nat) (p : Px) {ok : Bool} (hop : o.op = .lookup T x y ok) (hx : a.eval x = .map (some b)) (hy : a.eval y = p.v) (he : l[i]? = some ⟨b, mp enc m c, own⟩) (hw : Region.wanted o (yielded ops a.tmps) = true)
    (h : wpB Tryz.prog ops (fun V => Hp w0 V l) Q rest (a.put o.dst (if ok then .tuple #[((mget m p).map enc).getD z, .bool (mget m p).isSome] else ((mget m p).map enc).getD z))) : wpB Tryz.prog ops (fun V => Hp w0 V l) Q (o :: rest) a :=
  wpB_val hw (fun V hV => exec_look (T := T) (enc := enc) p hop hx hy (hV.get i he)) h
theorem wpl_put [hT : MpT T E z] (HH : Hp w0 W l) (i : Nat) (p : Px) (v : α) (hop : o.op = .mapUpdate T x y u) (hx : a.eval x = .map (some b)) (hy : a.eval y = p.v) (hu : a.eval u = enc v) (he : l[i]? = some ⟨b, mp enc m c, own⟩) (hw : Region.wanted o (yielded ops a.tmps) = true)
    (h : ∀ V, Hp w0 V (l.set i ⟨b, mp enc (mputL m c p v) (mputC m c p), own⟩) → wpList Tryz.prog ops Q rest (a.put o.dst undef) V) : wpList Tryz.prog ops Q (o :: rest) a W :=
  wpList_on hw fun K hK => by
    obtain ⟨V, hr, ht⟩ := run_put34 (T := T) p v (HH.get i he)
    unfold Oper.wp execOp
    simp only [hop, hx, hy, hu, Sem.run_bind, Sem.run_pure, Result.andThen_ok, hr]
    exact hK _ _ (h _ (HH.turn i he ht))
theorem wpl_del [hT : MpT T E z] (HH : Hp w0 W l) (i : Nat) (p : Px) (hop : o.op = .call { callee := .builtin .delete, args := #[x, y], argTypes := #[T, 34] }) (hx : a.eval x = .map (some b)) (hy : a.eval y = p.v) (he : l[i]? = some ⟨b, mp enc m c, own⟩) (hw : Region.wanted o (yielded ops a.tmps) = true)
    (h : ∀ V, Hp w0 V (l.set i ⟨b, mp enc (mdel m p) c, own⟩) → wpList Tryz.prog ops Q rest (a.put o.dst (.tuple #[])) V) : wpList Tryz.prog ops Q (o :: rest) a W :=
  wpList_on hw fun K hK => by
    obtain ⟨V, hr, ht⟩ := run_del34 (T := T) p o.type (HH.get i he)
    unfold Oper.wp
    simp [execOp, hop, resolve, invoke, builtin, hx, hy, hr, Result.andThen]
    exact hK _ _ (h _ (HH.turn i he ht))
theorem wpl_mlen [hT : MpT T E z] (HH : Hp w0 W l) (i : Nat) (hop : o.op = .call { callee := .builtin .len, args := #[x], argTypes := #[T] }) (hx : a.eval x = .map (some b)) (he : l[i]? = some ⟨b, mp enc m c, own⟩) (hw : Region.wanted o (yielded ops a.tmps) = true)
    (h : wpList Tryz.prog ops Q rest (a.put o.dst (.int .i64 (m.length : Int))) W) : wpList Tryz.prog ops Q (o :: rest) a W :=
  wpList_on hw fun K hK => by
    have hr := run_len34 (T := T) o.type (HH.get i he)
    unfold Oper.wp
    simp [execOp, hop, resolve, invoke, builtin, hx, hr, Result.andThen]
    exact hK _ _ h
theorem wpl_mkmap (HH : Hp w0 W l) (hop : o.op = .makeMap T none) (hw : Region.wanted o (yielded ops a.tmps) = true)
    (h : ∀ b V, Hp w0 V (⟨b, mp enc [] 0, true⟩ :: l) → wpList Tryz.prog ops Q rest (a.put o.dst (.map (some b))) V) : wpList Tryz.prog ops Q (o :: rest) a W :=
  wpList_on hw fun K hK => by
    have hr : (Instr.makeMap T none).run Tryz.prog W = .ok (.map (some W.heap.size)) (W.alloc (mp enc [] 0)) := by
      simp [Instr.makeMap, mp]
    unfold Oper.wp execOp
    simp only [hop, Option.map_none, Sem.run_bind, Sem.run_pure, Result.andThen_ok, hr]
    exact hK _ _ (h _ _ (HH.alloc _))
/-! the loop over a map -/
/-- The entries that are still to come. -/
def mleft (m : List (Me α)) (seen : Array Nat) : List (Me α) := m.filter fun x => !seen.contains x.born
theorem mleft_all (m : List (Me α)) : mleft m #[] = m := by simp [mleft]
theorem mleft_mem {m : List (Me α)} {seen : Array Nat} {x : Me α} (h : x ∈ mleft m seen) : x ∈ m := (List.mem_filter.1 h).1
theorem mleft_step {m : List (Me α)} {c : Nat} (hm : MOk m c) {seen : Array Nat} {x : Me α} (hx : x ∈ mleft m seen) : ∃ l1 l2, mleft m seen = l1 ++ x :: l2 ∧ mleft m (seen.push x.born) = l1 ++ l2 := by
  obtain ⟨l1, l2, he⟩ := List.append_of_mem hx
  refine ⟨l1, l2, he, ?_⟩
  have e : mleft m (seen.push x.born) = (mleft m seen).filter (fun y => y.born != x.born) := by
    unfold mleft
    rw [List.filter_filter]
    refine List.filter_congr fun y _ => ?_
    simp [Array.contains_push, Bool.and_comm, bne]
    by_cases h : y.born = x.born <;> simp [h, Bool.or_comm]
  have hn : ((mleft m seen).map Me.born).Nodup := hm.borns.sublist ((List.filter_sublist).map _)
  rw [e, he, List.filter_append, List.filter_cons]
  rw [he, List.map_append, List.map_cons, List.nodup_append] at hn
  have h1 : l1.filter (fun y => y.born != x.born) = l1 := List.filter_eq_self.2 fun y hy => by
    have := hn.2.2 y.born (List.mem_map.2 ⟨y, hy, rfl⟩) x.born (by simp)
    simpa using this
  have h2 : l2.filter (fun y => y.born != x.born) = l2 := List.filter_eq_self.2 fun y hy => by
    have h3 := (List.nodup_cons.1 hn.2.1).1
    have : y.born ≠ x.born := fun e => h3 (List.mem_map.2 ⟨y, hy, e⟩)
    simpa using this
  rw [h1, h2]
  simp
theorem leftOf_eq (m : List (Me α)) (seen : Array Nat) : (leftOf (m.map (Me.e enc)).toArray seen).toList = (mleft m seen).map (Me.e enc) := by
  unfold leftOf mleft
  simp only [List.filter_toArray, List.filter_map]
  rfl
theorem setBlock_Turns {W : World} {b : Nat} {o0 : Obj} (o' : Obj) (h : W.heap[b]? = some o0) : Turns W b o' (ChangeMaps.setBlock W b o') := by
  have hlt := (Array.getElem?_eq_some_iff.1 h).1
  exact ⟨by simp [ChangeMaps.setBlock, hlt], by simp [ChangeMaps.setBlock], fun k hk => by simp [ChangeMaps.setBlock, Array.getElem?_setIfInBounds_ne (Ne.symm hk)], rfl, rfl, rfl⟩
theorem wpl_range [hT : MpT T E z] (HH : Hp w0 W l) (i : Nat) (hop : o.op = .range T x) (hx : a.eval x = .map (some b)) (he : l[i]? = some ⟨b, mp enc m c, own⟩) (hw : Region.wanted o (yielded ops a.tmps) = true)
    (h : ∀ r V, Hp w0 V (⟨r, .mapIter (some b) c #[] c, true⟩ :: l) → wpList Tryz.prog ops Q rest (a.put o.dst (.pointer (some ⟨r, 0, none⟩))) V) : wpList Tryz.prog ops Q (o :: rest) a W :=
  wpList_on hw fun K hK => by
    have hr := run_range_map (P := Tryz.prog) W T 34 E b _ _ hT.ud (HH.get i he)
    unfold Oper.wp execOp
    simp only [hop, hx, Sem.run_bind, Sem.run_pure, Result.andThen_ok, hr]
    exact hK _ _ (h _ _ (HH.alloc _))
theorem wpl_next (HH : Hp w0 W l) (i j : Nat) {r : Nat} {seen : Array Nat} {own' : Bool} {isS : Bool} (hm : MOk m c) (hop : o.op = .next x isS) (hs : isS = false) (hx : a.eval x = .pointer (some ⟨r, 0, none⟩)) (hi : l[i]? = some ⟨r, .mapIter (some b) c seen c, own'⟩) (he : l[j]? = some ⟨b, mp enc m c, own⟩) (hw : Region.wanted o (yielded ops a.tmps) = true)
    (h0 : mleft m seen = [] → wpList Tryz.prog ops Q rest (a.put o.dst (.tuple #[.bool false])) W)
    (h1 : ∀ (e : Me α) (l1 l2 : List (Me α)) V, e ∈ m → mleft m seen = l1 ++ e :: l2 → mleft m (seen.push e.born) = l1 ++ l2 → Hp w0 V (l.set i ⟨r, .mapIter (some b) c (seen.push e.born) c, own'⟩) → wpList Tryz.prog ops Q rest (a.put o.dst (.tuple #[.bool true, e.p.v, enc e.v])) V) : wpList Tryz.prog ops Q (o :: rest) a W :=
  wpList_on hw fun K hK => by
    subst hs
    have hr := HH.get i hi
    rcases run_next_at (P := Tryz.prog) W o.type r b c c seen _ c hr (HH.get j he) (fun y hy => by
      simp only [List.mem_map] at hy
      obtain ⟨e, he, rfl⟩ := hy
      exact hm.lt e he) (Nat.le_refl _) with ⟨hz, hrun⟩ | ⟨e, hel, w1, hw1, hrun⟩
    · unfold Oper.wp execOp
      simp only [hop, hx, Sem.run_bind, Sem.run_pure, Result.andThen_ok, hrun]
      refine hK _ _ (h0 ?_)
      have := leftOf_eq (enc := enc) m seen
      rw [← List.map_eq_nil_iff (f := Me.e enc), ← this]
      exact List.eq_nil_of_length_eq_zero (by simpa using hz)
    · rw [leftOf_eq] at hel
      obtain ⟨y, hy, rfl⟩ := List.mem_map.1 hel
      obtain ⟨l1, l2, e1, e2⟩ := mleft_step hm hy
      unfold Oper.wp execOp
      simp only [hop, hx, Sem.run_bind, Sem.run_pure, Result.andThen_ok, hrun]
      refine hK _ _ (h1 y l1 l2 _ (mleft_mem hy) e1 e2 ?_)
      rcases hw1 with rfl | rfl
      · exact HH.turn i hi (setBlock_Turns _ hr)
      · exact HH.drew.turn i hi (setBlock_Turns _ (HH.drew.get i hi))
theorem wpl_entry (HH : Hp w0 W l) (i j : Nat) {r : Nat} {seen : Array Nat} {own' : Bool} (e : Me α) (hm : MOk m c) (hem : e ∈ m) (hop : o.op = .entry x) (hx : a.eval x = .pointer (some ⟨r, 0, none⟩)) (hi : l[i]? = some ⟨r, .mapIter (some b) c (seen.push e.born) c, own'⟩) (he : l[j]? = some ⟨b, mp enc m c, own⟩) (hw : Region.wanted o (yielded ops a.tmps) = true)
    (h : wpList Tryz.prog ops Q rest (a.put o.dst (.tuple #[e.p.v, enc e.v])) W) : wpList Tryz.prog ops Q (o :: rest) a W :=
  wpList_on hw fun K hK => by
    have hr := run_entry_at (P := Tryz.prog) W r b c seen _ c (e.e enc) (HH.get i hi) (HH.get j he) (by simpa using ⟨e, hem, rfl⟩) (by
      have := hm.borns
      rw [List.map_map]
      exact this)
    unfold Oper.wp execOp
    simp only [hop, hx, Sem.run_bind, Sem.run_pure, Result.andThen_ok, hr]
    exact hK _ _ h
end maps
/-! elements -/
abbrev encN (n : Nat) : Value := .int .i64 (n : Int)
abbrev encU (n : Nat) : Value := .int .u64 (n : Int)
abbrev encI (n : Int) : Value := .int .i64 n
abbrev encG (g : Nat × Nat) : Value := .agg #[.int .u64 (g.1 : Int), .int .u64 (g.2 : Int)]
instance : MpT 94 3 (.int .i64 0) := ⟨by kernel_rfl, fun _ => by kernel_rfl⟩
instance : MpT 81 29 (.int .u64 0) := ⟨by kernel_rfl, fun _ => by kernel_rfl⟩
instance : MpT 90 89 (.agg #[.int .u64 0, .int .u64 0]) := ⟨by kernel_rfl, fun _ => by kernel_rfl⟩
end Go.Proofs.YtcbahkfbdlhabaaGreatDoor
