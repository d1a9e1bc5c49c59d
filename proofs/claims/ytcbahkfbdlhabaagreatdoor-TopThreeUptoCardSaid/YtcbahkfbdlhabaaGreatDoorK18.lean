/- A part of the proof that the law TopThree returns true for all arguments of bulk at most 1048576 (no other condition). Here: slices.SortFunc over nodes: what comes out is a permutation of what went in. trie.State. trie.inOrder. -/
import Derived.Test.YtcbahkfbdlhabaaGreatDoorK16
import Derived.Test.YtcbahkfbdlhabaaGreatDoorK03
import Derived.Ground.SlsfProg
namespace Go.Proofs.YtcbahkfbdlhabaaGreatDoor
set_option linter.unusedVariables false
set_option linter.unusedSimpArgs false
open Go.RowKit Go.Sort
instance : Inhabited Nd := ⟨⟨px0, 0, 0⟩⟩
/-- An order by signs. -/
structure Cmpr {α : Type} (c : α → α → Int) : Prop where
  flip : ∀ a b, c a b < 0 ↔ 0 < c b a
  trans : ∀ a b d, c a b ≤ 0 → c b d ≤ 0 → c a d ≤ 0
section cmpr
variable {α β : Type}
theorem Cmpr.zero : Cmpr (fun (_ _ : α) => (0 : Int)) := ⟨fun _ _ => by simp, fun _ _ _ _ _ => by simp⟩
theorem Cmpr.comap {c : α → α → Int} (h : Cmpr c) (f : β → α) : Cmpr (fun a b => c (f a) (f b)) := ⟨fun a b => h.flip _ _, fun a b d => h.trans _ _ _⟩
theorem Cmpr.or {c c2 : α → α → Int} (h : Cmpr c) (h2 : Cmpr c2) : Cmpr (fun a b => if c a b = 0 then c2 a b else c a b) := by
  constructor
  · intro a b
    have f1 := h.flip a b
    have f2 := h.flip b a
    have g1 := h2.flip a b
    by_cases e : c a b = 0
    · have e2 : c b a = 0 := by omega
      simp only [e, e2, if_true]
      exact g1
    · have e2 : c b a ≠ 0 := by omega
      simp only [e, e2, if_false]
      exact f1
  · intro a b d h1 h3
    have fab := h.flip a b
    have fba := h.flip b a
    have fbd := h.flip b d
    have fdb := h.flip d b
    have fad := h.flip a d
    have fda := h.flip d a
    by_cases e1 : c a b = 0 <;> by_cases e2 : c b d = 0 <;> by_cases e3 : c a d = 0 <;> simp only [e1, e2, e3, if_true, if_false] at h1 h3 ⊢
    · exact h2.trans _ _ _ h1 h3
    · exact h.trans a b d (by omega) (by omega)
    · have := h.trans d a b (by omega) (by omega)
      omega
    · exact h.trans a b d (by omega) (by omega)
    · have := h.trans b d a (by omega) (by omega)
      omega
    · exact h.trans a b d (by omega) (by omega)
    · have := h.trans d a b (by omega) (by omega)
      omega
    · exact h.trans a b d (by omega) (by omega)
theorem Cmpr.self {c : α → α → Int} (h : Cmpr c) (a : α) : c a a = 0 := by have := h.flip a a; omega
theorem Cmpr.swo {c : α → α → Int} (h : Cmpr c) : SWO (ltOf c) := by
  constructor
  · intro x
    have := h.self x
    simp [ltOf, this]
  · intro x y z h1 h2
    simp only [ltOf, decide_eq_true_eq] at *
    have a := h.flip x y
    have b := h.flip y z
    have d := h.flip x z
    have e := h.flip z x
    have g := h.trans z x y
    omega
  · intro x y z h1 h2
    simp only [ltOf, decide_eq_false_iff_not] at *
    have a := h.flip x y
    have b := h.flip y z
    have d := h.flip x z
    have g := h.trans z y x
    omega
end cmpr
theorem cmpr_int : Cmpr cmpI := by
  constructor
  · intro a b
    unfold cmpI
    split <;> split <;> omega
  · intro a b d
    unfold cmpI
    repeat' split
    all_goals omega
theorem cmpr_bytes : Cmpr Lib.compareBytes := by
  constructor
  · intro a
    induction a with
    | nil => intro b; cases b <;> simp [Lib.compareBytes]
    | cons x r ih =>
      intro b
      cases b with
      | nil => simp [Lib.compareBytes]
      | cons y s =>
        have := ih s
        unfold Lib.compareBytes
        by_cases h1 : x < y
        · have h2 : ¬ y < x := fun h => absurd (UInt8.lt_trans h1 h) (UInt8.lt_irrefl x)
          simp [h1, h2]
        · by_cases h2 : y < x
          · simp [h1, h2]
          · simp only [h1, h2, if_false]
            exact this
  · intro a
    induction a with
    | nil => intro b d; cases d <;> cases b <;> simp [Lib.compareBytes]
    | cons x r ih =>
      intro b d
      cases b with
      | nil => simp [Lib.compareBytes]
      | cons y s =>
        cases d with
        | nil => simp [Lib.compareBytes]
        | cons z t =>
          have := ih s t
          unfold Lib.compareBytes
          simp only [UInt8.lt_iff_toNat_lt]
          repeat' split
          all_goals (omega)
theorem cmpr_key : Cmpr keyC := by
  have h := ((cmpr_int.comap Ky.k).or ((((cmpr_int.comap (fun x : Ky => (x.hi : Int))).or ((cmpr_int.comap (fun x : Ky => (x.lo : Int))).or Cmpr.zero))).or ((cmpr_bytes.comap (fun x : Ky => x.p.data.toList)).or ((cmpr_int.comap Ky.l).or Cmpr.zero))))
  have e : keyC = _ := rfl
  exact h
theorem cmpX_eq (p q : Px) : cmpX p q = orL [orL [cmpI p.a0 q.a0, cmpI p.a1 q.a1], keyC p.k0 q.k0, keyC p.k1 q.k1] := by
  unfold cmpX
  split
  · rename_i h
    have := Px.same_iff.1 h
    subst this
    rw [cmpr_key.self, cmpr_key.self, cmpr_int.self, cmpr_int.self]
    rfl
  · rfl
theorem cmpr_px : Cmpr cmpX := by
  have h := (((cmpr_int.comap Px.a0).or ((cmpr_int.comap Px.a1).or Cmpr.zero))).or ((cmpr_key.comap Px.k0).or ((cmpr_key.comap Px.k1).or Cmpr.zero))
  have e : cmpX = fun p q => orL [orL [cmpI p.a0 q.a0, cmpI p.a1 q.a1], keyC p.k0 q.k0, keyC p.k1 q.k1] := by
    funext p q
    exact cmpX_eq p q
  rw [e]
  exact h
theorem flat_nrow (d : Array Nd) : flatK ncells 14 d = (nrow d.toList).toArray := by
  refine ext_get! (by simp [nrow_len]) fun t ht => ?_
  rw [size_flatK] at ht
  rw [get_flatK _ _ _ _ ht]
  have hi : t / 14 < d.toList.length := by simp; omega
  obtain ⟨a, b, h, ha⟩ := nrow_at d.toList (t / 14) [] hi
  rw [List.append_nil] at h
  rw [h]
  have e : t = a.length + t % 14 := by omega
  have hm : t % 14 < 14 := Nat.mod_lt _ (by omega)
  have hd : d[t / 14]! = d.toList[t / 14] := by simp at hi; simp [hi]
  rw [hd]
  have hl : (ncells d.toList[t / 14]).length = 14 := rfl
  generalize ncells d.toList[t / 14] = m at *
  have h1 : (a ++ (m ++ b)).toArray[t]! = ((a ++ (m ++ b))[t]?).getD default := by simp
  have h2 : m[t % 14]! = (m[t % 14]?).getD default := by simp [List.getElem!_eq_getElem?_getD]
  rw [h1, h2, List.getElem?_append_right (by omega), show t - a.length = t % 14 by omega, List.getElem?_append_left (by omega)]
theorem onesN (x : Nd) : ∀ v ∈ ncells x, v.oneCell' = true := by
  intro v hv
  have h : (ncells x).all (·.oneCell') = true := rfl
  exact List.all_eq_true.1 h v hv
theorem holds_nrow {W : World} {g : Nat} {L : List Nd} {js : List Value} (h : W.heap[g]? = some (.cells (nrow L ++ js).toArray 176 (0, 0))) : HoldsK ncells 14 W g 0 L.toArray := by
  unfold HoldsK
  rw [flat_nrow]
  intro j hj
  have hj' : j < (nrow L).length := by simpa using hj
  refine ⟨?_, frozen_of_row _ _ _ _ _ h⟩
  rw [cell_of_row W g _ _ _ _ h]
  simp [List.getElem?_append_left hj', hj']
theorem putCells_app (F xs js : List Value) (h : F.length = xs.length) : putCells id 0 F.toArray (xs ++ js).toArray = (F ++ js).toArray := by
  unfold putCells
  apply Array.ext'
  apply List.ext_getElem?
  intro i
  simp only [Array.toList_mapIdx, List.getElem?_mapIdx]
  by_cases hi : i < xs.length
  · rw [List.getElem?_append_left hi, List.getElem?_append_left (by omega)]
    simp [hi, h]
  · rw [List.getElem?_append_right (by omega), List.getElem?_append_right (by omega), h]
    cases js[i - xs.length]? with
    | none => rfl
    | some v => simp [show ¬ i < F.length by omega]
theorem sorted_Turns {W : World} {g n : Nat} {L L' : List Nd} {js : List Value} {os : Array Obj} {w0 : World} {l : List En} (h : W.heap[g]? = some (.cells (nrow L ++ js).toArray 176 (0, 0))) (hl : L'.length = L.length) (HH : Hp w0 W (⟨g, .cells (nrow L ++ js).toArray 176 (0, 0), true⟩ :: l)) :
    Hp w0 (grow (putRowK ncells 14 (Sort.ahead W n) g 0 L'.toArray) os) (⟨g, .cells (nrow L' ++ js).toArray 176 (0, 0), true⟩ :: l) := by
  have ht : Turns W g (.cells (nrow L' ++ js).toArray 176 (0, 0)) (putRowK ncells 14 (Sort.ahead W n) g 0 L'.toArray) := by
    have e : putRowK ncells 14 (Sort.ahead W n) g 0 L'.toArray = mapBlock (Sort.ahead W n) g (putCells id 0 (nrow L').toArray) := by
      unfold putRowK putRow
      rw [flat_nrow]
    rw [e]
    have hlt := (Array.getElem?_eq_some_iff.1 h).1
    have hg := (Array.getElem?_eq_some_iff.1 h).2
    refine ⟨?_, by simp [mapBlock, Sort.ahead], fun k hk => ?_, rfl, rfl, rfl⟩
    · have := putCells_app (nrow L') (nrow L) js (by rw [nrow_len, nrow_len, hl])
      simp [mapBlock, Sort.ahead, Array.getElem?_modify, h, onCells, this]
    · simp [mapBlock, Sort.ahead, Array.getElem?_modify, Ne.symm hk]
  have h2 := HH.turn 0 rfl ht
  refine h2.next ⟨rfl, rfl, rfl, by simp [grow], fun k hk => heap_grow_old _ _ hk⟩
theorem grown_of_below {W w' : World} (hb : Dr.Below W.heap.size W w') : ∃ q os', w' = grow (W.drewN q) os' := by
  refine ⟨w'.drawn - W.drawn, w'.heap.extract W.heap.size w'.heap.size, ?_⟩
  have hd := hb.drawn
  obtain ⟨h1, h2, h3, h4, h5⟩ := w'
  obtain ⟨g1, g2, g3, g4, g5⟩ := W
  obtain ⟨p1, p2, p3, p4, p5, p6⟩ := hb
  simp only at p1 p2 p3 p4 p5 p6 hd
  subst p1 p2 p3
  simp only [grow, World.drewN]
  congr 1
  · apply Array.ext_getElem?
    intro i
    by_cases hi : i < g1.size
    · rw [p6 i hi, Array.getElem?_append_left hi]
    · rw [Array.getElem?_append_right (by omega), Array.getElem?_extract]
      by_cases h9 : i < h1.size
      · rw [if_pos (by omega), show g1.size + (i - g1.size) = i by omega]
      · rw [if_neg (by omega)]
        exact Array.getElem?_eq_none (by omega)
  · omega
theorem clo_lays (f : Nat) (hf : ∀ x y : Nd, Dr.Gives f #[x.v, y.v] (.int .i64 (cmpX x.p y.p))) (blk off size : Nat) (w : World) : CmpLays Tryz.prog f #[] ncells 14 (fun x y => cmpX x.p y.p) blk off size w :=
  fun _ _ _ _ x y => (hf x y _).mono fun e w' ⟨he, hb⟩ => ⟨he, grown_of_below hb⟩
theorem cmpr_nd : Cmpr (fun x y : Nd => cmpX x.p y.p) := cmpr_px.comap Nd.p
set_option maxRecDepth 100000 in
theorem sort_some (f : Nat) (hf : ∀ x y : Nd, Dr.Gives f #[x.v, y.v] (.int .i64 (cmpX x.p y.p))) (eg : ∀ args w, (callFunc f args).run Tryz.prog w = .ok (.enter f args) w) {w0 W : World} {l : List En} {g cap : Nat} {L : List Nd} {js : List Value} (hL : L.length < 4611686018427387904) (HH : Hp w0 W (⟨g, .cells (nrow L ++ js).toArray 176 (0, 0), true⟩ :: l)) :
    Calls Tryz.prog 132 #[.slice (some ⟨g, 0, none⟩) L.length cap, .func (.func f) #[] #[]] W fun e w' => e = .returned (.tuple #[]) ∧ ∃ L' : List Nd, L'.Perm L ∧ Hp w0 w' (⟨g, .cells (nrow L' ++ js).toArray 176 (0, 0), true⟩ :: l) := by
  have hr := HH.get 0 rfl
  have h := AnyQ.slices_SortFunc Tryz.laysSort 14 (fun _ => by kernel_rfl) (fun _ => by kernel_rfl) ncells (fun _ => rfl) onesN (fun x y => cmpX x.p y.p) cmpr_nd.swo f #[] g 0 cap L.toArray W eg (clo_lays f hf _ _ _ _) (holds_nrow hr) (Array.getElem?_eq_some_iff.1 hr).1 (by simpa using hL)
  have h2 : Calls Tryz.prog 132 #[.slice (some ⟨g, 0, none⟩) L.length cap, .func (.func f) #[] #[]] W _ := h
  refine h2.mono ?_
  rintro e w' ⟨he, d', n, os, hp, _, rfl⟩
  have hs : d'.size = L.length := by simpa using hp.1
  have hperm : d'.toList.Perm L := by
    have := hp.2.2
    simpa [hs, List.take_of_length_le] using this
  refine ⟨he, d'.toList, hperm, ?_⟩
  have := sorted_Turns (n := n) (os := os) (L' := d'.toList) hr (by simpa using hs) HH
  unfold sortWorldK
  simpa using this
theorem eg133 : ∀ args w, (callFunc 133 args).run Tryz.prog w = .ok (.enter 133 args) w := enters_of Tryz.func133 (by kernel_rfl) rfl
theorem eg164 : ∀ args w, (callFunc 164 args).run Tryz.prog w = .ok (.enter 164 args) w := enters_of Tryz.func164 (by kernel_rfl) rfl
end Go.Proofs.YtcbahkfbdlhabaaGreatDoor
namespace Go.Proofs.YtcbahkfbdlhabaaGreatDoor
set_option linter.unusedVariables false
set_option linter.unusedSimpArgs false
open Go.RowKit
attribute [local go_sem] index24_0 index24_1 field34_0 field34_1
attribute [local irreducible] wpList Code.wp wpB

/-- An entry of a trie's map, as a node. -/
def ndOf (x : Me (Nat × Nat)) : Nd := ⟨x.p, x.v.1, x.v.2⟩
/-- A trie as plain data. -/
abbrev tv (s : Sp) (full : Bool) (n sl : Nat) (v : Value) : Value := .agg #[.int .i64 s.n, .int .i64 s.d0.k, .int .i64 s.d0.s, .int .i64 s.d0.t, .int .i64 s.d1.k, .int .i64 s.d1.s, .int .i64 s.d1.t, .bool full, .int .u64 (n : Int), .int .u64 (sl : Int), v]
theorem SlR.some {E k n : Nat} {own : Bool} {v : Value} {xs : List Value} {r : List En} (h : SlR E k own v n xs r) (hn : n ≠ 0) : ∃ g cap, ∃ js : List Value, v = .slice (some ⟨g, 0, none⟩) n cap ∧ r = [⟨g, .cells (xs ++ js).toArray E (0, 0), own⟩] ∧ (cap - n) * k ≤ js.length ∧ n ≤ cap ∧ cap ≤ maxLen := by
  rcases h.2 with ⟨_, h0, _⟩ | h
  · exact absurd h0 hn
  · exact h
theorem sort_at (f : Nat) (hf : ∀ x y : Nd, Dr.Gives f #[x.v, y.v] (.int .i64 (cmpX x.p y.p))) (eg : ∀ args w, (callFunc f args).run Tryz.prog w = .ok (.enter f args) w) {w0 W : World} {l r : List En} {v : Value} {L : List Nd} (HS : SlR 176 14 true v L.length (nrow L) r) (hn : L.length ≠ 0) (hL : L.length < 4611686018427387904) (HH : Hp w0 W (l ++ r)) :
    Calls Tryz.prog 132 #[v, .func (.func f) #[] #[]] W fun e w' => e = .returned (.tuple #[]) ∧ ∃ (L' : List Nd) (r' : List En), L'.Perm L ∧ SlR 176 14 true v L.length (nrow L') r' ∧ Hp w0 w' (l ++ r') := by
  obtain ⟨g, cap, js, rfl, rfl, h1, h2, h3⟩ := HS.some hn
  refine (sort_some f hf eg hL HH.comm).mono ?_
  rintro e w' ⟨he, L', hp, HH2⟩
  exact ⟨he, L', _, hp, ⟨by rw [nrow_len, hp.length_eq], .inr ⟨g, cap, js, rfl, rfl, h1, h2, h3⟩⟩, (HH2 : Hp w0 w' ([_] ++ l)).comm⟩

set_option maxRecDepth 100000 in
set_option maxHeartbeats 4000000 in
theorem state_walk {w0 w : World} {l : List En} {T n sl bm c : Nat} {s : Sp} {full : Bool} {mm : List (Me (Nat × Nat))} (HH : Hp w0 w (TE T s full n sl bm :: ⟨bm, mp encG mm c, true⟩ :: l)) (hc : MOk mm c) (hne : mm ≠ []) (hlen : mm.length ≤ 1000000) : Calls Tryz.prog 124 #[.pointer (some ⟨T, 0, none⟩)] w fun e w' => ∃ (L : List Nd) (v : Value) (r : List En), L.Perm (mm.map ndOf) ∧ e = .returned (tv s full n sl v) ∧ SlR 176 14 true v L.length (nrow L) r ∧ Hp w0 w' (TE T s full n sl bm :: ⟨bm, mp encG mm c, true⟩ :: (r ++ l)) := by
  have hk := hc
  have hne2 : mm.length ≠ 0 := fun h => hne (List.eq_nil_of_length_eq_zero h)
  go_enter Tryz.func124, Tryz.ntmps124
  go_wp2_with (first | (go_at_call 129; (refine (tmade _ (HH.get 1 rfl)).mono ?_); rintro e V ⟨rfl, hb⟩; replace HH := HH.next hb; clear hb) | ((with_reducible show zW (Op.range 90 _)); (refine wpl_range HH 3 rfl rfl rfl rfl ?_); clear HH; intro ri V HH; (try simp only [Act.put, zz])) | ((with_reducible show stepQ _ _ _ _ _ _ _); refine stepQ_on HH (by (exact fun V h => h.drop rfl)) ?_; clear HH) | ((with_reducible show wpS _ _ _ _ (_ :: _) _ _); refine wpS_step rfl (fun V HH => ?_)) | ((with_reducible show wpS _ _ _ _ _ _ _); refine wpS_nil ?_; intro V HH; (try dsimp only at HH); (try simp only [pick, zy]); (try simp only [Act.put, zz])) | ((with_reducible show zX (Op.load _ _)); (refine wpl_load HH 2 rfl rfl rfl rfl rfl ?_; (try simp only [Act.put, zz]))) | ((with_reducible show zW (Op.store _ _ _)); (refine wpl_store HH 0 rfl rfl rfl rfl rfl rfl rfl rfl ?_; clear HH; intro V HH; simp only [Act.eval, zx, Value.cells, putl, zC, zB] at HH; (try simp only [Act.put, zz]))) | ((with_reducible show zW (Op.alloc _)); refine wpl_alloc HH rfl rfl ?_; clear HH; intro b V HH; simp only [Act.eval, zx, Value.cells, putl, zC, zB] at HH; (try simp only [Act.put, zz])) | ((with_reducible show Code.wp _ (Code.region _ _ true) _ _ _); (refine wp_float_Hp (id := 3) [0, 1, 2, 3, 4, 5, 6, 7, 8, 9, 10, 11, 12, 13, 14, 15, 16] [17] [18] _ (by kernel_rfl) HH (by (exact fun V h => h)) ?_; clear HH; (try dsimp only); (try simp only [pick, zy]); repeat' (first | ((with_reducible show wpB _ _ _ _ [] _); refine wpB_nil ?_; (try simp only [pick, zy]); (try simp only [Act.put, zz])) | (((with_reducible show zU _); (first | ((with_reducible show zT (Op.move _)); refine wpB_move rfl rfl rfl ?_) | ((with_reducible show zT (Op.load _ _)); (refine wpB_load 1 rfl rfl rfl rfl rfl ?_)) | (refine wpB_val (v := ?_) rfl ?_ ?_; rotate_left; (focus (intro w9 hS9; go_simp; all_goals (with_reducible rfl)))))); all_goals (try simp only [Act.put, zz, Act.eval, zx]))))))
  go_loopw [] (fun wr => ∃ (seen : Array Nat) (L : List Nd) (v : Value) (r : List En), (L ++ (mleft mm seen).map ndOf).Perm (mm.map ndOf) ∧ SlR 176 14 true v L.length (nrow L) r ∧ Hp w0 wr (⟨ri, .mapIter (some bm) c seen c, true⟩ :: ⟨b, .cells #[.int .i64 s.n, .int .i64 s.d0.k, .int .i64 s.d0.s, .int .i64 s.d0.t, .int .i64 s.d1.k, .int .i64 s.d1.s, .int .i64 s.d1.t, .bool full, .int .u64 (n : Int), .int .u64 (sl : Int), v] 169 (0, 0), true⟩ :: (Hp.lst HH).tail.tail.take 3 ++ (l ++ r))) (fun wr => (mleft mm (seenOf wr ri)).length)
  case atStart => exact ⟨#[], [], .slice none 0 0, [], by rw [mleft_all]; exact List.Perm.refl _, SlR.nil _ _ _, by simpa only [Hp.lst, List.tail_cons, zE, zJ, List.cons_append, List.nil_append, List.append_nil] using HH⟩
  case round =>
    obtain ⟨seen, L, v, r, hperm, HS, HR2⟩ := hrel
    dsimp only [Hp.lst, List.tail, List.take, List.cons_append, List.nil_append] at HR2
    have hms : (mleft mm (seenOf wr ri)).length = (mleft mm seen).length := by rw [seenOf_at (HR2.get 0 rfl)]
    have HMS := Lib.hid hms
    clear hms
    have HH := HR2
    clear HR2
    have hLb : L.length + (mleft mm seen).length = mm.length := by simpa using hperm.length_eq
    have HPM := Lib.hid hperm
    clear hperm
    obtain ⟨a8, c8, rfl⟩ := HS.form
    go_wp2_with (first | ((with_reducible show zW (Op.next _ _)); refine wpl_next HH 0 4 hk rfl rfl rfl rfl rfl rfl ?_ ?_; intro hz; (try simp only [Act.put, zz]); rotate_left; intro e l1 l2 V hem e1 e2 HH2; clear HH; have HH := HH2; clear HH2; (try simp only [zC, zB] at HH); (try simp only [Act.put, zz]); (try (have hlz := congrArg List.length hz; simp only [List.length_nil] at hlz)); (try have hl9 := congrArg List.length e1); simp only [List.length_append, List.length_cons] at hl9) | ((with_reducible show zW (Op.entry _)); (refine wpl_entry HH 0 4 e hk hem rfl rfl rfl rfl rfl ?_); (try simp only [Act.put, zz])) | ((with_reducible show zW (Op.buildSlice 167 1 _)); refine wpl_bs167 HH (ndOf e) rfl rfl rfl ?_; clear HH; intro bn V HH; (try simp only [Act.put, zz])) | (at_builtin; refine wpl_append elt167 (l := _ :: _ :: _ :: _ :: _ :: _ :: _ :: l) HH HS rfl rfl rfl rfl rfl rfl (by omega) (by omega) ?_; clear HH; intro v r V HS2 HH; obtain ⟨a9, c9, rfl⟩ := HS2.form; (try simp only [List.cons_append] at HH); (try simp only [Act.put, zz])) | (go_at_call 132; have hLn : L.length ≠ 0 := (by rw [hz, List.length_nil] at hLb; omega); have hLs : L.length < 4611686018427387904 := (by omega); refine (sort_at 133 Dr.clo133 eg133 HS hLn hLs (l := _ :: _ :: _ :: _ :: _ :: l) HH).mono ?_; rintro e V ⟨rfl, L2, r2, hp2, HS2, HH2⟩; clear HH; have HH := HH2; clear HH2; (try simp only [List.cons_append] at HH); (try simp only [Act.put, zz])) | ((with_reducible show zX (Op.load _ _)); (first | (refine wpl_load HH 0 rfl rfl rfl rfl rfl ?_; (try simp only [Act.put, zz])) | (refine wpl_load HH 1 rfl rfl rfl rfl rfl ?_; (try simp only [Act.put, zz])) | (refine wpl_load HH 3 rfl rfl rfl rfl rfl ?_; (try simp only [Act.put, zz])))) | ((with_reducible show zW (Op.store _ _ _)); (first | (refine wpl_store HH 0 rfl rfl rfl rfl rfl rfl rfl rfl ?_; clear HH; intro V HH; simp only [Act.eval, zx, Value.cells, putl, zC, zB] at HH; (try simp only [Act.put, zz])) | (refine wpl_store HH 1 rfl rfl rfl rfl rfl rfl rfl rfl ?_; clear HH; intro V HH; simp only [Act.eval, zx, Value.cells, putl, zC, zB] at HH; (try simp only [Act.put, zz])) | (refine wpl_store HH 2 rfl rfl rfl rfl rfl rfl rfl rfl ?_; clear HH; intro V HH; simp only [Act.eval, zx, Value.cells, putl, zC, zB] at HH; (try simp only [Act.put, zz])) | (refine wpl_store HH 3 rfl rfl rfl rfl rfl rfl rfl rfl ?_; clear HH; intro V HH; simp only [Act.eval, zx, Value.cells, putl, zC, zB] at HH; (try simp only [Act.put, zz])))) | ((with_reducible show zW (Op.alloc _)); refine wpl_alloc HH rfl rfl ?_; clear HH; intro b V HH; simp only [Act.eval, zx, Value.cells, putl, zC, zB] at HH; (try simp only [Act.put, zz])))
    · refine ⟨⟨seen.push e.born, L ++ [ndOf e], _, r, ?_, by rw [List.length_append, nrow_snoc]; exact HS2, (HH.drop rfl).drop rfl⟩, ?_⟩
      · rw [e2]
        have h0 := HPM.out
        rw [e1] at h0
        refine List.Perm.trans ?_ h0
        rw [List.map_append, List.map_append, List.map_cons, List.append_assoc]
        refine List.Perm.append_left _ ?_
        rw [List.singleton_append]
        exact List.perm_middle.symm
      · rw [seenOf_at (HH.get 2 rfl), HMS.out, e1, e2, List.length_append, List.length_append, List.length_cons]
        omega
    · (refine bodyPost_ret (results_c rfl HH 2 rfl rfl rfl) rfl ?_)
      have h0 := HPM.out
      rw [hz, List.map_nil, List.append_nil] at h0
      exact ⟨L2, _, r2, hp2.trans h0, rfl, by rw [hp2.length_eq]; exact HS2, (((HH.drop rfl).drop rfl).drop rfl).perm ((List.Perm.cons _ (List.Perm.cons _ List.perm_append_comm)))⟩

end Go.Proofs.YtcbahkfbdlhabaaGreatDoor
namespace Go.Proofs.YtcbahkfbdlhabaaGreatDoor
set_option linter.unusedVariables false
set_option linter.unusedSimpArgs false
open Go.RowKit
attribute [local go_sem] index24_0 index24_1 field34_0 field34_1
attribute [local irreducible] wpList Code.wp wpB

theorem run_idx167e {ρ : Operand → Value} {o : Oper} {x y : Operand} {g n cap p : Nat} {i : Int} (hop : o.op = .indexAddr 167 x y) (hx : ρ x = .slice (some ⟨g, 0, none⟩) n cap) (hy : ρ y = .int .i64 i) (hi : i = (p : Int)) (hp : p < n) (w : World) : (execOp ρ o).run Tryz.prog w = .ok (.value (.pointer (some ⟨g, p * 14, none⟩))) w := by
  subst hi
  exact run_idx167 hop hx hy hp w
/-- What inOrder tells. -/
def IsIO (s : Sp) (n sl : Nat) (L : List Nd) (v : Value) : Prop := ∃ b, v = .bool b ∧ (b = true → (∀ x ∈ L, RB s x.p = true ∧ x.d ≤ sl) ∧ (L.map Nd.g).sum = n)
theorem IsIO.no {s : Sp} {n sl : Nat} {L : List Nd} : IsIO s n sl L (.bool false) := ⟨false, rfl, fun h => by cases h⟩

set_option maxRecDepth 100000 in
set_option maxHeartbeats 4000000 in
theorem inorder_walk (w : World) {g cap n sl : Nat} {s : Sp} {full : Bool} {L : List Nd} {js : List Value} (hg : w.heap[g]? = some (.cells (nrow L ++ js).toArray 176 (0, 0))) (hok : ∀ x ∈ L, x.p.ok) (hlen : L.length ≤ 1000000) (hnb : n < 18446744073709551616) (hgb : ∀ x ∈ L, x.g < 18446744073709551616) :
    Calls Tryz.prog 159 #[(tv s full n sl (.slice (some ⟨g, 0, none⟩) L.length cap))] w fun e w' => (∃ v, e = .returned v ∧ IsIO s n sl L v) ∧ Below w.heap.size w w' := by
  have HH : Hp w w [⟨g, .cells (nrow L ++ js).toArray 176 (0, 0), false⟩] := Hp.start ⟨hg, trivial⟩ (by simp) rfl
  have hGL := Lib.hid hg
  clear hg
  go_enter Tryz.func159, Tryz.ntmps159
  go_wp2_with (first | ((with_reducible show zX (Op.load _ _)); (refine wpl_load HH 0 rfl rfl rfl rfl rfl ?_; (try simp only [Act.put, zz]))) | ((with_reducible show zW (Op.box _ _)); refine wpl_box HH rfl rfl rfl ?_; clear HH; intro b V HH; simp only [Act.eval, zx, Value.cells, putl, zC, zB] at HH; (try simp only [Act.put, zz])))
  go_loopw [3, 11] (fun lv i wr => ∃ k a : Nat, k ≤ L.length ∧ i = .int .i64 k ∧ lv = .int .u64 a ∧ a + ((L.take k).map Nd.g).sum = n ∧ (∀ x ∈ L.take k, RB s x.p = true ∧ x.d ≤ sl) ∧ Hp w wr (Hp.lst HH)) (fun _ i _ => ((L.length : Int) - intOf i).toNat)
  case atStart => exact ⟨0, n, by omega, rfl, rfl, by simp, by simp, HH⟩
  case round =>
    obtain ⟨k, a, hk0, rfl, rfl, hsum, hall, HR2⟩ := hrel
    dsimp only [Hp.lst] at HR2
    have HH := HR2
    clear HR2
    by_cases hk : k < L.length
    · have hk2 : (k : Int) < (L.length : Int) := by omega
      have hmem : L[k] ∈ L := List.getElem_mem hk
      have HR := rb_gives s L[k].p (hok _ hmem)
      have hgk := hgb _ hmem
      have hts : L.take (k + 1) = L.take k ++ [L[k]] := List.take_succ_eq_append_getElem hk
      have hHA := Lib.hid hall
      clear hall
      rcases k with _ | j
      · cases hrb : RB s L[0].p <;> rw [hrb] at HR
        all_goals
          go_wp2_with (first | ((with_reducible show zW (Op.indexAddr 167 _ _)); refine wpl_valu rfl (run_idx167 (p := 0) rfl rfl rfl (by omega) _) ?_; (try simp only [Act.put, zz])) | ((with_reducible show zW (Op.load 176 _)); (refine wpl_load HH 1 rfl rfl rfl rfl (nrow_get L 0 _ hk) ?_); (try simp only [Act.put, zz])) | (go_at_call 17; (with_reducible refine ((HR) _).mono ?_); rintro e V ⟨rfl, hb⟩; replace HH := HH.next hb; clear hb) | ((with_reducible show zX (Op.load _ _)); (first | (refine wpl_load HH 0 rfl rfl rfl rfl rfl ?_; (try simp only [Act.put, zz])) | (refine wpl_load HH 1 rfl rfl rfl rfl rfl ?_; (try simp only [Act.put, zz])))) | ((with_reducible show zX (Op.binOp _ _ _ _ _)); (refine wpl_cmp (p := ?_) rfl rfl rfl ?_ ?_ ?_; rotate_left; (focus (go_simp; with_reducible rfl)); all_goals (intro hq; (try (contradiction)); (try simp only [zw] at hq); (try simp only [Act.put, zz])))) | ((with_reducible show zY (Op.load _ _)); (first | (refine wpl_load HH 0 rfl rfl rfl (by simp only [Region.wanted, yielded, zy, Option.bind_some]; decide) rfl ?_; (try simp only [Act.put, zz])) | (refine wpl_load HH 1 rfl rfl rfl (by simp only [Region.wanted, yielded, zy, Option.bind_some]; decide) rfl ?_; (try simp only [Act.put, zz])))) | ((with_reducible show zY (Op.binOp _ _ _ _ _)); (refine wpl_cmp (p := ?_) rfl rfl (by simp only [Region.wanted, yielded, zy, Option.bind_some]; decide) ?_ ?_ ?_; rotate_left; (focus (go_simp; with_reducible rfl)); all_goals (intro hq; (try (fail)); (try simp only [zw] at hq); (try simp only [Act.put, zz])))) | ((with_reducible show zW (Op.store _ _ _)); (refine wpl_store HH 0 rfl rfl rfl rfl rfl rfl rfl rfl ?_; clear HH; intro V HH; simp only [Act.eval, zx, Value.cells, putl, zC, zB] at HH; (try simp only [Act.put, zz]))) | ((with_reducible show zW (Op.alloc _)); refine wpl_alloc HH rfl rfl ?_; clear HH; intro b V HH; simp only [Act.eval, zx, Value.cells, putl, zC, zB] at HH; (try simp only [Act.put, zz])) | ((with_reducible show Code.wp _ (Code.region _ _ true) _ _ _); (refine wp_tail_Hp (id := 7) [0, 1, 2, 3, 4, 5, 6, 7, 8, 9, 10, 11, 12, 13, 14] [] (by kernel_rfl) HH ?_; clear HH; (try dsimp only); (try simp only [pick, zy]); repeat' (first | ((with_reducible show wpB _ _ _ _ [] _); refine wpB_nil ?_; intro V HH; (try simp only [pick, zy]); (try simp only [Act.put, zz]); (try simp only [Value.cells] at HH)) | ((first | ((with_reducible show zU _); (first | ((with_reducible show zT (Op.move _)); refine wpB_move rfl rfl rfl ?_) | ((with_reducible show zT (Op.binOp _ _ _ _ _)); (refine wpB_bool (p := ?_) rfl ?_ ?_ ?_; rotate_left; (focus (intro w9 hS9; go_simp; with_reducible rfl)); all_goals (intro hq; (try (contradiction))))) | ((with_reducible show zT (Op.pick _ _ _)); (refine wpB_bool (p := ?_) rfl ?_ ?_ ?_; rotate_left; (focus (intro w9 hS9; go_simp; with_reducible rfl)); all_goals (intro hq; (try (contradiction))))))) | ((with_reducible show zV _); (refine wpB_skip (by simp only [Region.wanted, yielded, zy, Option.bind_some]; decide) ?_))); all_goals (try simp only [Act.put, zz, Act.eval, zx]))))))
        all_goals (first
          | (go_ret; exact ⟨⟨_, rfl, IsIO.no⟩, Hp.back (l := [_, _]) (r := [_]) HH (by intro e he; simp only [List.mem_singleton] at he; subst he; exact hGL.out) rfl⟩)
          | (refine ⟨⟨0 + 1, a - L[0].g, by omega, by push_cast; rfl, by (congr 1; omega), by rw [hts, List.map_append, List.sum_append]; simp only [List.map_cons, List.map_nil, List.sum_cons, List.sum_nil]; omega, ?_, HH.drop rfl⟩, by simp [intOf]; omega⟩
             rw [hts]
             intro x hx
             rcases List.mem_append.1 hx with hx | hx
             · exact hHA.out x hx
             · rw [List.mem_singleton] at hx
               subst hx
               exact ⟨hrb, by omega⟩))
      · have hj : j < L.length := by omega
        have HC := pcmp_gives L[j].p L[j + 1].p
        have hwj : IntKind.i64.wrap (j : Int) = (j : Int) := by simp [IntKind.wrap, IntKind.bits, IntKind.signed]; omega
        have hk3 : (j : Int) + 1 < (L.length : Int) := by omega
        clear hk2
        cases hrb : RB s L[j + 1].p <;> rw [hrb] at HR
        all_goals
          go_wp2_with (first | ((with_reducible show zW (Op.indexAddr 167 _ _)); refine wpl_valu rfl (run_idx167 (p := (j + 1)) rfl rfl rfl (by omega) _) ?_; (try simp only [Act.put, zz])) | ((with_reducible show zW (Op.load 176 _)); (refine wpl_load HH 1 rfl rfl rfl rfl (nrow_get L (j + 1) _ hk) ?_); (try simp only [Act.put, zz])) | (go_at_call 17; (with_reducible refine ((HR) _).mono ?_); rintro e V ⟨rfl, hb⟩; replace HH := HH.next hb; clear hb) | ((with_reducible show zX (Op.load _ _)); (first | (refine wpl_load HH 0 rfl rfl rfl rfl rfl ?_; (try simp only [Act.put, zz])) | (refine wpl_load HH 1 rfl rfl rfl rfl rfl ?_; (try simp only [Act.put, zz])))) | ((with_reducible show zX (Op.binOp _ _ _ _ _)); (refine wpl_cmp (p := ?_) rfl rfl rfl ?_ ?_ ?_; rotate_left; (focus (go_simp; with_reducible rfl)); all_goals (intro hq; (try (contradiction)); (try simp only [zw] at hq); (try simp only [Act.put, zz])))) | ((with_reducible show zY (Op.load _ _)); (first | (refine wpl_load HH 0 rfl rfl rfl (by simp only [Region.wanted, yielded, zy, Option.bind_some]; decide) rfl ?_; (try simp only [Act.put, zz])) | (refine wpl_load HH 1 rfl rfl rfl (by simp only [Region.wanted, yielded, zy, Option.bind_some]; decide) rfl ?_; (try simp only [Act.put, zz])))) | ((with_reducible show zY (Op.binOp _ _ _ _ _)); (refine wpl_cmp (p := ?_) rfl rfl (by simp only [Region.wanted, yielded, zy, Option.bind_some]; decide) ?_ ?_ ?_; rotate_left; (focus (go_simp; with_reducible rfl)); all_goals (intro hq; (try (fail)); (try simp only [zw] at hq); (try simp only [Act.put, zz])))) | ((with_reducible show zW (Op.store _ _ _)); (refine wpl_store HH 0 rfl rfl rfl rfl rfl rfl rfl rfl ?_; clear HH; intro V HH; simp only [Act.eval, zx, Value.cells, putl, zC, zB] at HH; (try simp only [Act.put, zz]))) | ((with_reducible show zW (Op.alloc _)); refine wpl_alloc HH rfl rfl ?_; clear HH; intro b V HH; simp only [Act.eval, zx, Value.cells, putl, zC, zB] at HH; (try simp only [Act.put, zz])) | ((with_reducible show Code.wp _ (Code.region _ _ true) _ _ _); (refine wp_tail_Hp (id := 7) [0, 1, 2, 3, 4, 5, 6, 7, 8, 9, 10, 11, 12, 13, 14] [] (by kernel_rfl) HH ?_; clear HH; (try dsimp only); (try simp only [pick, zy]); repeat' (first | ((with_reducible show wpB _ _ _ _ [] _); refine wpB_nil ?_; intro V HH; (try simp only [pick, zy]); (try simp only [Act.put, zz]); (try simp only [Value.cells] at HH)) | ((first | ((with_reducible show zU _); (first | ((with_reducible show zT (Op.move _)); refine wpB_move rfl rfl rfl ?_) | ((with_reducible show zT (Op.binOp _ _ _ _ _)); (refine wpB_bool (p := ?_) rfl ?_ ?_ ?_; rotate_left; (focus (intro w9 hS9; go_simp; with_reducible rfl)); all_goals (intro hq; (try (contradiction))))) | ((with_reducible show zT (Op.pick _ _ _)); (refine wpB_bool (p := ?_) rfl ?_ ?_ ?_; rotate_left; (focus (intro w9 hS9; go_simp; with_reducible rfl)); all_goals (intro hq; (try (contradiction))))))) | ((with_reducible show zV _); (first | ((with_reducible show zT (Op.move _)); refine wpB_move rfl (by simp only [Region.wanted, yielded, zy, Option.bind_some]; decide) rfl ?_) | ((with_reducible show zV (Op.indexAddr 167 _ _)); refine wpB_val (by simp only [Region.wanted, yielded, zy, Option.bind_some]; decide) (fun V _ => run_idx167e (p := j) rfl rfl rfl (by omega) (by omega) V) ?_) | ((with_reducible show zV (Op.load 34 _)); refine wpB_load 2 rfl rfl rfl (by simp only [Region.wanted, yielded, zy, Option.bind_some]; decide) (nrow_getP L j _ hj) ?_) | ((with_reducible show zT (Op.load _ _)); (first | refine wpB_load 0 rfl rfl rfl (by simp only [Region.wanted, yielded, zy, Option.bind_some]; decide) rfl ?_ | refine wpB_load 1 rfl rfl rfl (by simp only [Region.wanted, yielded, zy, Option.bind_some]; decide) rfl ?_)) | ((with_reducible show zT (Op.call _)); (refine wpB_callE (f := ?_) (args := ?_) (v := ?_) (by simp only [Region.wanted, yielded, zy, Option.bind_some]; decide) ?_ ?_ ?_; rotate_left 3; (focus (intro w9 hS9; go_simp; (refine ⟨?_, ?_⟩ <;> with_reducible rfl))); (focus (with_reducible exact (HC))))) | ((with_reducible show zT (Op.binOp _ _ _ _ _)); (refine wpB_bool (p := ?_) (by simp only [Region.wanted, yielded, zy, Option.bind_some]; decide) ?_ ?_ ?_; rotate_left; (focus (intro w9 hS9; go_simp; with_reducible rfl)); all_goals (intro hq; (try (fail))))) | (refine wpB_val (v := ?_) (by simp only [Region.wanted, yielded, zy, Option.bind_some]; decide) ?_ ?_; rotate_left; (focus (intro w9 hS9; go_simp; all_goals (with_reducible rfl))))))); all_goals (try simp only [Act.put, zz, Act.eval, zx]))))))
        all_goals (first
          | (go_ret; exact ⟨⟨_, rfl, IsIO.no⟩, Hp.back (l := [_, _]) (r := [_]) HH (by intro e he; simp only [List.mem_singleton] at he; subst he; exact hGL.out) rfl⟩)
          | (refine ⟨⟨(j + 1) + 1, a - L[(j + 1)].g, by omega, by push_cast; rfl, by (congr 1; omega), by rw [hts, List.map_append, List.sum_append]; simp only [List.map_cons, List.map_nil, List.sum_cons, List.sum_nil]; omega, ?_, HH.drop rfl⟩, by simp [intOf]; omega⟩
             rw [hts]
             intro x hx
             rcases List.mem_append.1 hx with hx | hx
             · exact hHA.out x hx
             · rw [List.mem_singleton] at hx
               subst hx
               exact ⟨hrb, by omega⟩))
    · have hk2 : ¬ (k : Int) < (L.length : Int) := by omega
      rw [List.take_of_length_le (by omega)] at hsum hall
      have hHA := Lib.hid hall
      clear hall
      go_wp2_with ((with_reducible show zX (Op.binOp _ _ _ _ _)); (refine wpl_cmp (p := ?_) rfl rfl rfl ?_ ?_ ?_; rotate_left; (focus (go_simp; with_reducible rfl)); all_goals (intro hq; (try (contradiction)); (try simp only [zw] at hq); (try simp only [Act.put, zz]))))
      · go_ret
        refine ⟨⟨_, rfl, true, rfl, fun _ => ⟨hHA.out, by simp at hq; omega⟩⟩, Hp.back (l := [_]) (r := [_]) HH (by intro e he; simp only [List.mem_singleton] at he; subst he; exact hGL.out) rfl⟩
      · go_ret
        refine ⟨⟨_, rfl, IsIO.no⟩, Hp.back (l := [_]) (r := [_]) HH (by intro e he; simp only [List.mem_singleton] at he; subst he; exact hGL.out) rfl⟩

end Go.Proofs.YtcbahkfbdlhabaaGreatDoor
