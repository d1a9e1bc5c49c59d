/- The feed: the document's Push and Pop. -/
import Derived.Test.YtlomjckmclefeaaF
namespace Go.Proofs.Ytlomjckmclefeaa
set_option linter.unusedVariables false
set_option linter.unusedSimpArgs false
open Go.Conc Go.RowKit

/-- A slice of integers that may be cut anywhere; its block is none of l. -/
structure RowAt (w : World) (l : List Nat) (a : Option Addr) (c : Nat) (xs : List Int) : Prop where
  le : xs.length ≤ c
  form : (a = none ∧ xs = [] ∧ c = 0) ∨ ∃ b off, a = some ⟨b, off, none⟩ ∧ (xs ≠ [] → b ∉ l) ∧ ∀ i, (h : i < xs.length) → w.cell? ⟨b, off + i, none⟩ = some (.int .i64 xs[i])
theorem RowAt.nil (w : World) (l : List Nat) : RowAt w l none 0 [] := ⟨Nat.le_refl _, Or.inl ⟨rfl, rfl, rfl⟩⟩
theorem RowAt.upd {w w' : World} {l : List Nat} {a : Option Addr} {c : Nat} {xs : List Int} (h : RowAt w l a c xs) (k : Upd l w w') : RowAt w' l a c xs := by
  refine ⟨h.le, ?_⟩
  rcases h.form with h | ⟨b, off, rfl, hd, hc⟩
  · exact Or.inl h
  · refine Or.inr ⟨b, off, rfl, hd, fun i hi => ?_⟩
    have hlt : b < w.heap.size := World.block_lt_of_cell? w _ (hc i hi)
    have hne : b ∉ l := hd (fun e => by subst e; simp at hi)
    rw [← hc i hi]
    unfold World.cell?
    rw [k.block b hlt hne]
theorem RowAt.more {w : World} {l : List Nat} {a : Option Addr} {c : Nat} {xs : List Int} (h : RowAt w [] a c xs) (hl : ∀ k, k ∈ l → w.heap.size ≤ k) : RowAt w l a c xs := by
  refine ⟨h.le, ?_⟩
  rcases h.form with h | ⟨b, off, rfl, hd, hc⟩
  · exact Or.inl h
  · refine Or.inr ⟨b, off, rfl, fun hne hm => ?_, hc⟩
    have hlt : b < w.heap.size := World.block_lt_of_cell? w _ (hc 0 (List.length_pos_iff.2 hne))
    have := hl b hm
    omega
theorem RowAt.less {w : World} {l : List Nat} {a : Option Addr} {c : Nat} {xs : List Int} (h : RowAt w l a c xs) : RowAt w [] a c xs := by
  refine ⟨h.le, ?_⟩
  rcases h.form with h | ⟨b, off, rfl, hd, hc⟩
  · exact Or.inl h
  · exact Or.inr ⟨b, off, rfl, fun _ => by simp, hc⟩
theorem RowAt.below {w w' : World} {l : List Nat} {a : Option Addr} {c : Nat} {xs : List Int} (h : RowAt w l a c xs) (hb : Below w.heap.size w w') : RowAt w' l a c xs := by
  refine ⟨h.le, ?_⟩
  rcases h.form with h | ⟨b, off, rfl, hd, hc⟩
  · exact Or.inl h
  · exact Or.inr ⟨b, off, rfl, hd, fun i hi => by rw [hb.cell (World.block_lt_of_cell? w _ (hc i hi))]; exact hc i hi⟩
theorem RowAt.cut {w : World} {l : List Nat} {a : Option Addr} {c : Nat} {xs : List Int} (h : RowAt w l a c xs) : RowAt w l a xs.length xs := by
  refine ⟨Nat.le_refl _, ?_⟩
  rcases h.form with ⟨h1, rfl, h3⟩ | h
  · exact Or.inl ⟨h1, rfl, rfl⟩
  · exact Or.inr h
theorem OwnI.row {base : Nat} {w : World} {v : Value} {xs : List Int} (h : OwnI base w v xs) (l : List Nat) (hl : ∀ k, k ∈ l → k < base) : ∃ a c, v = .slice a xs.length c ∧ RowAt w l a c xs := by
  have hat := h.at
  obtain ⟨h1, h2⟩ := h
  rcases h2 with ⟨rfl, h0⟩ | ⟨g, cap, cur, rfl, hb, hrow, hn, _, hsz, htake⟩
  · obtain rfl : xs = [] := List.eq_nil_of_length_eq_zero h0
    exact ⟨none, 0, rfl, RowAt.nil _ _⟩
  · refine ⟨_, cap, rfl, hn, Or.inr ⟨g, 0, rfl, fun _ hm => by have := hl g hm; omega, fun i hi => ?_⟩⟩
    obtain ⟨a', c', he, hc⟩ := hat.form
    obtain ⟨b, off, ha, hcell⟩ := hc (by omega)
    subst ha
    simp only [Value.slice.injEq, Option.some.injEq, Addr.mk.injEq] at he
    obtain ⟨⟨rfl, rfl, -⟩, -, -⟩ := he
    exact hcell i hi
/-- 'append(v, x)', v full: a new row. -/
theorem run_append_full (ty : TypeId) (w : World) (a : Option Addr) (xs : List Int) (hr : RowAt w [] a xs.length xs) (vs : Value) (x : Int) (hs : IntsAt w vs [x]) (hn : xs.length ≤ 1000) :
    ∃ v' w', (Builtin.append_ #[22, 22] ty #[.slice a xs.length xs.length, vs]).run Try.prog w = .ok v' w' ∧ OwnI w.heap.size w' v' (xs ++ [x]) ∧ Below w.heap.size w w' := by
  rcases hr.form with ⟨rfl, rfl, -⟩ | ⟨b, off, rfl, -, hc⟩
  · obtain ⟨v', w', h1, h2, h3, -⟩ := run_append_ints w.heap.size ty w (.slice none 0 0) [] (own_nil _ _) vs [x] hs (by simp) (Nat.le_refl _)
    exact ⟨v', w', h1, h2, ⟨h3.os, h3.tape, h3.output, h3.size, fun k hk => h3.block k hk (by simp [Value.ownBlock])⟩⟩
  · obtain ⟨i0, hi, hz0, hz1, hz2⟩ := info_parts info3
    obtain ⟨a2, c2, rfl, hc2⟩ := hs.form
    obtain ⟨b2, off2, rfl, hcell⟩ := hc2 (by simp)
    have hadd : ∀ (b off j : Nat), (⟨b, off, none⟩ : Addr).add j = ⟨b, off + j, none⟩ := fun b off j => by unfold Addr.add; split <;> simp_all
    have at_ : ∀ (L : List Int) (b off : Nat), (∀ i, (h : i < L.length) → w.cell? ⟨b, off + i, none⟩ = some (.int .i64 L[i])) → ∀ j u, (ints L)[j]? = some u → w.cell? ((⟨b, off, none⟩ : Addr).add j) = some u := by
      intro L b off hc j u hj
      have hlt : j < L.length := by
        have := (List.getElem?_eq_some_iff.1 hj).1; simpa [ints] using this
      rw [hadd, hc j hlt]
      simpa [ints, hlt] using hj
    obtain ⟨v', w', h1, h2, h3⟩ := run_append_arg_grows (P := Try.prog) w 22 ty 3 i0 _ 1 8 Try.underlying22 hi hz0 hz1 hz2 rfl (by decide) ⟨b, off, none⟩ xs.length xs.length (ints xs) (by simp [ints]) (at_ xs b off hc) ⟨b2, off2, none⟩ 1 c2 (ints [x]) (by simp [ints]) (at_ [x] b2 off2 hcell)
      (by omega) (by unfold maxLen; omega) (by omega)
    have h2' : OwnI w.heap.size w' v' (xs ++ [x]) := by
      unfold OwnI
      rw [show (xs ++ [x]).length = xs.length + 1 by simp, show ints (xs ++ [x]) = ints xs ++ ints [x] from List.map_append]; exact h2
    exact ⟨v', w', h1, h2', ⟨h3.os, h3.tape, h3.output, h3.size, fun k hk => h3.block k hk (by simp)⟩⟩
theorem wpList_append_full {ops : Array Oper} {rest : List Oper} {o : Oper} {a : Act} {Q : Exit → Act → World → Prop} (hgd : o.guard = none) (s y : Operand)
    (ho : o.op = .call { callee := .builtin .append, args := #[s, y], argTypes := #[22, 22] }) (w : World) (ad : Option Addr) (xs : List Int) (x : Int) (vs : Value) (hv : a.eval s = .slice ad xs.length xs.length) (hvs : a.eval y = vs)
    (hr : RowAt w [] ad xs.length xs) (hs : IntsAt w vs [x]) (hn : xs.length ≤ 1000)
    (h : ∀ v' w', OwnI w.heap.size w' v' (xs ++ [x]) → Below w.heap.size w w' → wpList Try.prog ops Q rest (a.put o.dst v') w') : wpList Try.prog ops Q (o :: rest) a w :=
  wpList_plain hgd fun _ hK => by
    obtain ⟨v', w', hrun, h2, h3⟩ := run_append_full o.type w ad xs hr vs x hs hn
    unfold Oper.wp execOp
    simp only [ho, resolve, invoke, builtin, Sem.run_bind, Sem.run_pure, Result.andThen_ok, List.map_toArray, List.map_cons, List.map_nil, hv, hvs, hrun]
    exact hK _ _ (h v' w' h2 h3)

/-- The document's feed, as a value. -/
structure RefAt (w : World) (l : List Nat) (v : Value) (U N : List Int) (n : Nat) (cl : Bool) : Prop where
  form : ∃ a1 c1 a2 c2, v = .agg #[.slice a1 U.length c1, .slice a2 N.length c2, .int .i64 (n : Int), .bool cl] ∧ RowAt w l a1 c1 U ∧ RowAt w l a2 c2 N
theorem RefAt.below {w w' : World} {l : List Nat} {v : Value} {U N : List Int} {n : Nat} {cl : Bool} (h : RefAt w l v U N n cl) (hb : Below w.heap.size w w') : RefAt w' l v U N n cl := by
  obtain ⟨a1, c1, a2, c2, e, h1, h2⟩ := h.form
  exact ⟨a1, c1, a2, c2, e, h1.below hb, h2.below hb⟩
theorem RefAt.upd {w w' : World} {l : List Nat} {v : Value} {U N : List Int} {n : Nat} {cl : Bool} (h : RefAt w l v U N n cl) (k : Upd l w w') : RefAt w' l v U N n cl := by
  obtain ⟨a1, c1, a2, c2, e, h1, h2⟩ := h.form
  exact ⟨a1, c1, a2, c2, e, h1.upd k, h2.upd k⟩
theorem RefAt.more {w : World} {l : List Nat} {v : Value} {U N : List Int} {n : Nat} {cl : Bool} (h : RefAt w [] v U N n cl) (hl : ∀ k, k ∈ l → w.heap.size ≤ k) : RefAt w l v U N n cl := by
  obtain ⟨a1, c1, a2, c2, e, h1, h2⟩ := h.form
  exact ⟨a1, c1, a2, c2, e, h1.more hl, h2.more hl⟩
theorem RefAt.less {w : World} {l : List Nat} {v : Value} {U N : List Int} {n : Nat} {cl : Bool} (h : RefAt w l v U N n cl) : RefAt w [] v U N n cl := by
  obtain ⟨a1, c1, a2, c2, e, h1, h2⟩ := h.form
  exact ⟨a1, c1, a2, c2, e, h1.less, h2.less⟩

theorem size39 : (Try.prog.info? 39).map (·.size) = some 4 := by kernel_rfl
theorem old_below {w w1 : World} {b : Nat} {c : Obj} (hb : Below w.heap.size w w1) (h : w.heap[b]? = some c) : w1.heap[b]? = some c := by
  rw [hb.block b (Array.getElem?_eq_some_iff.mp h).1]; exact h
def z39 : Array Value := #[.slice none 0 0, .slice none 0 0, .int .i64 0, .bool false]
/-- The box of the argument and the result's, while a function of the document runs. -/
structure RBox (w W : World) (bx br : Nat) (v0 v1 : Value) (n : Nat) (cl : Bool) : Prop where
  below : Below w.heap.size w W
  box : W.heap[bx]? = some (.cells #[v0, v1, .int .i64 (n : Int), .bool cl] 39 (0, 0))
  res : W.heap[br]? = some (.cells z39 39 (0, 0))
  lo : w.heap.size ≤ bx ∧ w.heap.size ≤ br ∧ bx ≠ br
theorem RBox.start (w : World) (v0 v1 : Value) (n : Nat) (cl : Bool) :
    RBox w ((w.alloc (.cells #[v0, v1, .int .i64 (n : Int), .bool cl] 39)).alloc (.cells #[.slice none 0 0, .slice none 0 0, .int .i64 0, .bool false] 39)) w.heap.size (w.heap.size + 1) v0 v1 n cl :=
  ⟨((Below.refl _ _).alloc (Nat.le_refl _) _).alloc (by rw [World.size_alloc]; omega) _, heap_alloc2_old w _ _, heap_alloc2_new w _ _, by omega⟩
theorem RBox.next {w W V : World} {bx br : Nat} {v0 v1 : Value} {n : Nat} {cl : Bool} (h : RBox w W bx br v0 v1 n cl) (hb : Below W.heap.size W V) : RBox w V bx br v0 v1 n cl :=
  ⟨h.below.trans (hb.mono h.below.size), old_below hb h.box, old_below hb h.res, h.lo⟩
theorem RBox.drew {w W : World} {bx br : Nat} {v0 v1 : Value} {n : Nat} {cl : Bool} (h : RBox w W bx br v0 v1 n cl) : RBox w W.drew bx br v0 v1 n cl := h.next ((Below.refl _ _).drew)
theorem RBox.set0 {w W : World} {bx br : Nat} {v0 v1 : Value} {n : Nat} {cl : Bool} (h : RBox w W bx br v0 v1 n cl) (v : Value) : RBox w (W.setCell ⟨bx, 0, none⟩ v) bx br v v1 n cl := by
  have lo := h.lo
  exact ⟨h.below.setCell (by simp; omega) v, heap_setCell_same _ _ _ _ _ _ h.box, by rw [heap_setCell_other _ _ _ _ (by simp; omega)]; exact h.res, lo⟩
theorem RBox.set1 {w W : World} {bx br : Nat} {v0 v1 : Value} {n : Nat} {cl : Bool} (h : RBox w W bx br v0 v1 n cl) (v : Value) : RBox w (W.setCell ⟨bx, 1, none⟩ v) bx br v0 v n cl := by
  have lo := h.lo
  exact ⟨h.below.setCell (by simp; omega) v, heap_setCell_same _ _ _ _ _ _ h.box, by rw [heap_setCell_other _ _ _ _ (by simp; omega)]; exact h.res, lo⟩
theorem RBox.cells {w W : World} {bx br : Nat} {v0 v1 : Value} {n : Nat} {cl : Bool} (h : RBox w W bx br v0 v1 n cl) :
    W.cell? ⟨bx, 0, none⟩ = some v0 ∧ W.cell? ⟨bx, 1, none⟩ = some v1 ∧ W.cell? ⟨bx, 2, none⟩ = some (.int .i64 (n : Int)) ∧ W.cell? ⟨bx, 3, none⟩ = some (.bool cl) ∧ W.frozen? ⟨bx, 0, none⟩ = false ∧ W.frozen? ⟨bx, 1, none⟩ = false :=
  ⟨by rw [cell_of_row _ _ _ _ _ _ h.box]; rfl, by rw [cell_of_row _ _ _ _ _ _ h.box]; rfl, by rw [cell_of_row _ _ _ _ _ _ h.box]; rfl, by rw [cell_of_row _ _ _ _ _ _ h.box]; rfl, frozen_of_row _ _ _ _ _ h.box, frozen_of_row _ _ _ _ _ h.box⟩
theorem upd_setCell (w : World) (p : Addr) (v : Value) : Upd [p.block] w (w.setCell p v) :=
  ⟨rfl, rfl, rfl, by simp [World.setCell], fun k hk hl => by rw [heap_setCell_other _ _ _ _ (by simpa using hl)]⟩
theorem upd_setRow (w : World) (g : Nat) (cs : Array Value) : Upd [g] w (w.setRow g cs) :=
  ⟨rfl, rfl, rfl, by simp [World.setRow], fun k hk hl => by rw [setRow_other _ _ _ _ (by simpa using hl)]⟩
/-- The end: the result's box is filled. -/
structure REnd (w V : World) (br : Nat) (v0 v1 : Value) (n : Nat) (cl : Bool) : Prop where
  below : Below w.heap.size w V
  cells : V.cell? ⟨br, 0, none⟩ = some v0 ∧ V.cell? ⟨br, 1, none⟩ = some v1 ∧ V.cell? ⟨br, 2, none⟩ = some (.int .i64 (n : Int)) ∧ V.cell? ⟨br, 3, none⟩ = some (.bool cl)
theorem RBox.fin {w W : World} {bx br : Nat} {v0 v1 : Value} {n : Nat} {cl : Bool} (h : RBox w W bx br v0 v1 n cl) : REnd w (W.setRow br #[v0, v1, .int .i64 (n : Int), .bool cl]) br v0 v1 n cl := by
  have lo := h.lo
  have k := setRow_heap W br z39 #[v0, v1, .int .i64 (n : Int), .bool cl] 39 (0, 0) h.res
  exact ⟨(upd_setRow W br _).below h.below h.below.size (by simp; omega), by rw [cell_of_row _ _ _ _ _ _ k]; rfl, by rw [cell_of_row _ _ _ _ _ _ k]; rfl, by rw [cell_of_row _ _ _ _ _ _ k]; rfl, by rw [cell_of_row _ _ _ _ _ _ k]; rfl⟩
theorem one4 (a1 a2 : Option Addr) (l1 c1 l2 c2 : Nat) (n : Nat) (cl : Bool) : (#[Value.slice a1 l1 c1, .slice a2 l2 c2, .int .i64 (n : Int), .bool cl] : Array Value).all (·.oneCell') = true := by
  simp
  exact ⟨rfl, rfl, rfl, rfl⟩
set_option maxRecDepth 100000 in
theorem refpush_shut (a1 a2 : Option Addr) (c1 c2 n : Nat) (U N : List Int) (x : Int) (u : Bool) (w : World) (l : List Nat) (hl0 : ∀ k, k ∈ l → k < w.heap.size) (h1 : RowAt w l a1 c1 U) (h2 : RowAt w l a2 c2 N) :
    Calls Try.prog 19 #[.agg #[.slice a1 U.length c1, .slice a2 N.length c2, .int .i64 (n : Int), .bool true], .int .i64 x, .bool u] w fun e w' => ∃ v', e = .returned (.tuple #[v', .int .i64 7]) ∧ RefAt w' l v' U N n true ∧ Below w.heap.size w w' := by
  have H1 := Lib.hid h1
  have H2 := Lib.hid h2
  clear h1 h2 hl0
  go_enter Try.func19, Try.ntmps19
  go_wp2_with (first
    | (obtain ⟨w0, hw⟩ : ∃ w0, (w.alloc (.cells #[.slice a1 U.length c1, .slice a2 N.length c2, .int .i64 (n : Int), .bool true] 39)).alloc (.cells #[.slice none 0 0, .slice none 0 0, .int .i64 0, .bool false] 39) = w0 := ⟨_, rfl⟩
       rewrite [hw]
       have HB0 : Hid (RBox w w0 w.heap.size (w.heap.size + 1) (.slice a1 U.length c1) (.slice a2 N.length c2) n true) := by rewrite [← hw]; exact RBox.start w _ _ n true
       obtain ⟨g0, g1, g2, g3, g4, g5⟩ := HB0.out.cells
       clear hw)
    | (refine wpList_store_row rfl 39 _ _ rfl (w.heap.size + 1) #[.slice a1 U.length c1, .slice a2 N.length c2, .int .i64 (n : Int), .bool true] rfl rfl 39 z39 HB0.out.res size39 rfl (one4 ..) ?_
       obtain ⟨wz, hw⟩ : ∃ wz, w0.setRow (w.heap.size + 1) #[.slice a1 U.length c1, .slice a2 N.length c2, .int .i64 (n : Int), .bool true] = wz := ⟨_, rfl⟩
       rewrite [hw]
       have HZ : Hid (REnd w wz (w.heap.size + 1) (.slice a1 U.length c1) (.slice a2 N.length c2) n true) := by rewrite [← hw]; exact HB0.out.fin
       
       obtain ⟨z0, z1, z2, z3⟩ := HZ.out.cells
       clear hw))
  exact bodyPost_ret (v := .tuple #[.agg #[.slice a1 U.length c1, .slice a2 N.length c2, .int .i64 (n : Int), .bool true], .int .i64 7]) (by simp [results, Try.results19, go_sem, z0, z1, z2, z3]) rfl ⟨_, rfl, ⟨a1, c1, a2, c2, rfl, H1.out.below HZ.out.below, H2.out.below HZ.out.below⟩, HZ.out.below⟩
set_option maxRecDepth 100000 in
theorem refpush_fullu (a1 a2 : Option Addr) (c1 c2 n : Nat) (U N : List Int) (x : Int) (w : World) (l : List Nat) (hl0 : ∀ k, k ∈ l → k < w.heap.size) (h1 : RowAt w l a1 c1 U) (h2 : RowAt w l a2 c2 N) (hl : ¬ U.length < n) :
    Calls Try.prog 19 #[.agg #[.slice a1 U.length c1, .slice a2 N.length c2, .int .i64 (n : Int), .bool false], .int .i64 x, .bool true] w fun e w' => ∃ v', e = .returned (.tuple #[v', .int .i64 5]) ∧ RefAt w' l v' U N n false ∧ Below w.heap.size w w' := by
  have d1 : decide (U.length < n) = false := decide_eq_false hl
  have H1 := Lib.hid h1
  have H2 := Lib.hid h2
  clear h1 h2 hl0 hl
  go_enter Try.func19, Try.ntmps19
  go_wp2_with (first
    | (obtain ⟨w0, hw⟩ : ∃ w0, (w.alloc (.cells #[.slice a1 U.length c1, .slice a2 N.length c2, .int .i64 (n : Int), .bool false] 39)).alloc (.cells #[.slice none 0 0, .slice none 0 0, .int .i64 0, .bool false] 39) = w0 := ⟨_, rfl⟩
       rewrite [hw]
       have HB0 : Hid (RBox w w0 w.heap.size (w.heap.size + 1) (.slice a1 U.length c1) (.slice a2 N.length c2) n false) := by rewrite [← hw]; exact RBox.start w _ _ n false
       obtain ⟨g0, g1, g2, g3, g4, g5⟩ := HB0.out.cells
       clear hw)
    | (refine wpList_store_row rfl 39 _ _ rfl (w.heap.size + 1) #[.slice a1 U.length c1, .slice a2 N.length c2, .int .i64 (n : Int), .bool false] rfl rfl 39 z39 HB0.out.res size39 rfl (one4 ..) ?_
       obtain ⟨wz, hw⟩ : ∃ wz, w0.setRow (w.heap.size + 1) #[.slice a1 U.length c1, .slice a2 N.length c2, .int .i64 (n : Int), .bool false] = wz := ⟨_, rfl⟩
       rewrite [hw]
       have HZ : Hid (REnd w wz (w.heap.size + 1) (.slice a1 U.length c1) (.slice a2 N.length c2) n false) := by rewrite [← hw]; exact HB0.out.fin
       
       obtain ⟨z0, z1, z2, z3⟩ := HZ.out.cells
       clear hw))
  exact bodyPost_ret (v := .tuple #[.agg #[.slice a1 U.length c1, .slice a2 N.length c2, .int .i64 (n : Int), .bool false], .int .i64 5]) (by simp [results, Try.results19, go_sem, z0, z1, z2, z3]) rfl ⟨_, rfl, ⟨a1, c1, a2, c2, rfl, H1.out.below HZ.out.below, H2.out.below HZ.out.below⟩, HZ.out.below⟩
set_option maxRecDepth 100000 in
theorem refpush_fulln (a1 a2 : Option Addr) (c1 c2 n : Nat) (U N : List Int) (x : Int) (w : World) (l : List Nat) (hl0 : ∀ k, k ∈ l → k < w.heap.size) (h1 : RowAt w l a1 c1 U) (h2 : RowAt w l a2 c2 N) (hl : ¬ N.length < n) :
    Calls Try.prog 19 #[.agg #[.slice a1 U.length c1, .slice a2 N.length c2, .int .i64 (n : Int), .bool false], .int .i64 x, .bool false] w fun e w' => ∃ v', e = .returned (.tuple #[v', .int .i64 5]) ∧ RefAt w' l v' U N n false ∧ Below w.heap.size w w' := by
  have d1 : decide (N.length < n) = false := decide_eq_false hl
  have H1 := Lib.hid h1
  have H2 := Lib.hid h2
  clear h1 h2 hl0 hl
  go_enter Try.func19, Try.ntmps19
  go_wp2_with (first
    | (obtain ⟨w0, hw⟩ : ∃ w0, (w.alloc (.cells #[.slice a1 U.length c1, .slice a2 N.length c2, .int .i64 (n : Int), .bool false] 39)).alloc (.cells #[.slice none 0 0, .slice none 0 0, .int .i64 0, .bool false] 39) = w0 := ⟨_, rfl⟩
       rewrite [hw]
       have HB0 : Hid (RBox w w0 w.heap.size (w.heap.size + 1) (.slice a1 U.length c1) (.slice a2 N.length c2) n false) := by rewrite [← hw]; exact RBox.start w _ _ n false
       obtain ⟨g0, g1, g2, g3, g4, g5⟩ := HB0.out.cells
       clear hw)
    | (refine wpList_store_row rfl 39 _ _ rfl (w.heap.size + 1) #[.slice a1 U.length c1, .slice a2 N.length c2, .int .i64 (n : Int), .bool false] rfl rfl 39 z39 HB0.out.res size39 rfl (one4 ..) ?_
       obtain ⟨wz, hw⟩ : ∃ wz, w0.setRow (w.heap.size + 1) #[.slice a1 U.length c1, .slice a2 N.length c2, .int .i64 (n : Int), .bool false] = wz := ⟨_, rfl⟩
       rewrite [hw]
       have HZ : Hid (REnd w wz (w.heap.size + 1) (.slice a1 U.length c1) (.slice a2 N.length c2) n false) := by rewrite [← hw]; exact HB0.out.fin
       
       obtain ⟨z0, z1, z2, z3⟩ := HZ.out.cells
       clear hw))
  exact bodyPost_ret (v := .tuple #[.agg #[.slice a1 U.length c1, .slice a2 N.length c2, .int .i64 (n : Int), .bool false], .int .i64 5]) (by simp [results, Try.results19, go_sem, z0, z1, z2, z3]) rfl ⟨_, rfl, ⟨a1, c1, a2, c2, rfl, H1.out.below HZ.out.below, H2.out.below HZ.out.below⟩, HZ.out.below⟩
set_option maxRecDepth 100000 in
theorem refpush_u (a1 a2 : Option Addr) (c1 c2 n : Nat) (U N : List Int) (x : Int) (w : World) (l : List Nat) (hl0 : ∀ k, k ∈ l → k < w.heap.size) (h1 : RowAt w l a1 c1 U) (h2 : RowAt w l a2 c2 N) (hl : U.length < n) (hn : n ≤ 256) :
    Calls Try.prog 19 #[.agg #[.slice a1 U.length c1, .slice a2 N.length c2, .int .i64 (n : Int), .bool false], .int .i64 x, .bool true] w fun e w' => ∃ v', e = .returned (.tuple #[v', .int .i64 0]) ∧ RefAt w' l v' (U ++ [x]) N n false ∧ Below w.heap.size w w' := by
  have d1 : decide (U.length < n) = true := decide_eq_true hl
  have q1 := h1.le
  have q2 := h2.le
  have HL : Hid (U.length ≤ 1000) := by show _ ≤ _; omega
  have H1 := Lib.hid h1
  have H2 := Lib.hid h2
  have H0 := Lib.hid hl0
  obtain ⟨Q, hQ⟩ : ∃ Q, U ++ [x] = Q := ⟨_, rfl⟩
  rw [hQ]
  have HQ := Lib.hid hQ
  clear h1 h2 hl0 hl hn hQ
  go_enter Try.func19, Try.ntmps19
  go_wp2_with (first
    | (obtain ⟨w0, hw⟩ : ∃ w0, (w.alloc (.cells #[.slice a1 U.length c1, .slice a2 N.length c2, .int .i64 (n : Int), .bool false] 39)).alloc (.cells #[.slice none 0 0, .slice none 0 0, .int .i64 0, .bool false] 39) = w0 := ⟨_, rfl⟩
       rewrite [hw]
       have HB0 : Hid (RBox w w0 w.heap.size (w.heap.size + 1) (.slice a1 U.length c1) (.slice a2 N.length c2) n false) := by rewrite [← hw]; exact RBox.start w _ _ n false
       obtain ⟨g0, g1, g2, g3, g4, g5⟩ := HB0.out.cells
       clear hw)
    | (at_builtin; refine wpList_append_full rfl (.tmp 28) (.tmp 30) rfl (w0.alloc (.cells #[.int .i64 x] 3)) a1 U x (.slice (some ⟨w0.heap.size, 0, none⟩) 1 1) rfl rfl (H1.out.cut.less.below (HB0.out.below.alloc HB0.out.below.size _)) (one_at w0 x) HL.out ?_
       intro v' w3 hown hb
       rewrite [HQ.out] at hown
       have HO3 := Lib.hid hown
       have HB3 := Lib.hid ((HB0.out.next ((Below.refl _ _).alloc (Nat.le_refl _) _)).next hb)
       have HL3 : Hid (w.heap.size + 2 ≤ (w0.alloc (.cells #[.int .i64 x] 3)).heap.size) := by
         show _ ≤ _
         have := lt_of_heap HB0.out.res
         rw [World.size_alloc]; omega
       obtain ⟨a', c', rfl, hrow⟩ := hown.row [] (by simp)
       clear hown hb hrow g0 g1 g2 g3 g4 g5
       obtain ⟨g0, g1, g2, g3, g4, g5⟩ := HB3.out.cells)
    | (obtain ⟨w4, hw⟩ : ∃ w4, w3.setCell ⟨w.heap.size, 0, none⟩ (.slice a' Q.length c') = w4 := ⟨_, rfl⟩
       rewrite [hw]
       have HB4 : Hid (RBox w w4 w.heap.size (w.heap.size + 1) (.slice a' Q.length c') (.slice a2 N.length c2) n false) := by rewrite [← hw]; exact HB3.out.set0 _
       have HO4 := Lib.hid (HO3.out.upd (upd_setCell w3 ⟨w.heap.size, 0, none⟩ (.slice a' Q.length c')) (fun i hi => by have := (HO3.out.lt i hi).1; have := HL3.out; simp; omega))
       rewrite [hw] at HO4
       clear hw g0 g1 g2 g3 g4 g5 HB3 HO3
       obtain ⟨g0, g1, g2, g3, g4, g5⟩ := HB4.out.cells)
    | (refine wpList_store_row rfl 39 _ _ rfl (w.heap.size + 1) #[.slice a' Q.length c', .slice a2 N.length c2, .int .i64 (n : Int), .bool false] rfl rfl 39 z39 HB4.out.res size39 rfl (one4 ..) ?_
       obtain ⟨wz, hw⟩ : ∃ wz, w4.setRow (w.heap.size + 1) #[.slice a' Q.length c', .slice a2 N.length c2, .int .i64 (n : Int), .bool false] = wz := ⟨_, rfl⟩
       rewrite [hw]
       have HZ : Hid (REnd w wz (w.heap.size + 1) (.slice a' Q.length c') (.slice a2 N.length c2) n false) := by rewrite [← hw]; exact HB4.out.fin
       have HO5 := Lib.hid (HO4.out.upd (upd_setRow w4 (w.heap.size + 1) #[.slice a' Q.length c', .slice a2 N.length c2, .int .i64 (n : Int), .bool false]) (fun i hi => by have := (HO4.out.lt i hi).1; have := HL3.out; simp; omega))
       rewrite [hw] at HO5
       obtain ⟨z0, z1, z2, z3⟩ := HZ.out.cells
       clear hw))
  obtain ⟨a5, c5, he, hr5⟩ := HO5.out.row l (fun k hk => by have := H0.out k hk; have := HL3.out; omega)
  simp only [Value.slice.injEq] at he
  obtain ⟨rfl, -, rfl⟩ := he
  exact bodyPost_ret (v := .tuple #[.agg #[.slice a' Q.length c', .slice a2 N.length c2, .int .i64 (n : Int), .bool false], .int .i64 0]) (by simp [results, Try.results19, go_sem, z0, z1, z2, z3]) rfl ⟨_, rfl, ⟨a', c', a2, c2, rfl, hr5, H2.out.below HZ.out.below⟩, HZ.out.below⟩
set_option maxRecDepth 100000 in
theorem refpush_n (a1 a2 : Option Addr) (c1 c2 n : Nat) (U N : List Int) (x : Int) (w : World) (l : List Nat) (hl0 : ∀ k, k ∈ l → k < w.heap.size) (h1 : RowAt w l a1 c1 U) (h2 : RowAt w l a2 c2 N) (hl : N.length < n) (hn : n ≤ 256) :
    Calls Try.prog 19 #[.agg #[.slice a1 U.length c1, .slice a2 N.length c2, .int .i64 (n : Int), .bool false], .int .i64 x, .bool false] w fun e w' => ∃ v', e = .returned (.tuple #[v', .int .i64 0]) ∧ RefAt w' l v' U (N ++ [x]) n false ∧ Below w.heap.size w w' := by
  have d1 : decide (N.length < n) = true := decide_eq_true hl
  have q1 := h1.le
  have q2 := h2.le
  have HL : Hid (N.length ≤ 1000) := by show _ ≤ _; omega
  have H1 := Lib.hid h1
  have H2 := Lib.hid h2
  have H0 := Lib.hid hl0
  obtain ⟨Q, hQ⟩ : ∃ Q, N ++ [x] = Q := ⟨_, rfl⟩
  rw [hQ]
  have HQ := Lib.hid hQ
  clear h1 h2 hl0 hl hn hQ
  go_enter Try.func19, Try.ntmps19
  go_wp2_with (first
    | (obtain ⟨w0, hw⟩ : ∃ w0, (w.alloc (.cells #[.slice a1 U.length c1, .slice a2 N.length c2, .int .i64 (n : Int), .bool false] 39)).alloc (.cells #[.slice none 0 0, .slice none 0 0, .int .i64 0, .bool false] 39) = w0 := ⟨_, rfl⟩
       rewrite [hw]
       have HB0 : Hid (RBox w w0 w.heap.size (w.heap.size + 1) (.slice a1 U.length c1) (.slice a2 N.length c2) n false) := by rewrite [← hw]; exact RBox.start w _ _ n false
       obtain ⟨g0, g1, g2, g3, g4, g5⟩ := HB0.out.cells
       clear hw)
    | (at_builtin; refine wpList_append_full rfl (.tmp 52) (.tmp 54) rfl (w0.alloc (.cells #[.int .i64 x] 3)) a2 N x (.slice (some ⟨w0.heap.size, 0, none⟩) 1 1) rfl rfl (H2.out.cut.less.below (HB0.out.below.alloc HB0.out.below.size _)) (one_at w0 x) HL.out ?_
       intro v' w3 hown hb
       rewrite [HQ.out] at hown
       have HO3 := Lib.hid hown
       have HB3 := Lib.hid ((HB0.out.next ((Below.refl _ _).alloc (Nat.le_refl _) _)).next hb)
       have HL3 : Hid (w.heap.size + 2 ≤ (w0.alloc (.cells #[.int .i64 x] 3)).heap.size) := by
         show _ ≤ _
         have := lt_of_heap HB0.out.res
         rw [World.size_alloc]; omega
       obtain ⟨a', c', rfl, hrow⟩ := hown.row [] (by simp)
       clear hown hb hrow g0 g1 g2 g3 g4 g5
       obtain ⟨g0, g1, g2, g3, g4, g5⟩ := HB3.out.cells)
    | (obtain ⟨w4, hw⟩ : ∃ w4, w3.setCell ⟨w.heap.size, 1, none⟩ (.slice a' Q.length c') = w4 := ⟨_, rfl⟩
       rewrite [hw]
       have HB4 : Hid (RBox w w4 w.heap.size (w.heap.size + 1) (.slice a1 U.length c1) (.slice a' Q.length c') n false) := by rewrite [← hw]; exact HB3.out.set1 _
       have HO4 := Lib.hid (HO3.out.upd (upd_setCell w3 ⟨w.heap.size, 1, none⟩ (.slice a' Q.length c')) (fun i hi => by have := (HO3.out.lt i hi).1; have := HL3.out; simp; omega))
       rewrite [hw] at HO4
       clear hw g0 g1 g2 g3 g4 g5 HB3 HO3
       obtain ⟨g0, g1, g2, g3, g4, g5⟩ := HB4.out.cells)
    | (refine wpList_store_row rfl 39 _ _ rfl (w.heap.size + 1) #[.slice a1 U.length c1, .slice a' Q.length c', .int .i64 (n : Int), .bool false] rfl rfl 39 z39 HB4.out.res size39 rfl (one4 ..) ?_
       obtain ⟨wz, hw⟩ : ∃ wz, w4.setRow (w.heap.size + 1) #[.slice a1 U.length c1, .slice a' Q.length c', .int .i64 (n : Int), .bool false] = wz := ⟨_, rfl⟩
       rewrite [hw]
       have HZ : Hid (REnd w wz (w.heap.size + 1) (.slice a1 U.length c1) (.slice a' Q.length c') n false) := by rewrite [← hw]; exact HB4.out.fin
       have HO5 := Lib.hid (HO4.out.upd (upd_setRow w4 (w.heap.size + 1) #[.slice a1 U.length c1, .slice a' Q.length c', .int .i64 (n : Int), .bool false]) (fun i hi => by have := (HO4.out.lt i hi).1; have := HL3.out; simp; omega))
       rewrite [hw] at HO5
       obtain ⟨z0, z1, z2, z3⟩ := HZ.out.cells
       clear hw))
  obtain ⟨a5, c5, he, hr5⟩ := HO5.out.row l (fun k hk => by have := H0.out k hk; have := HL3.out; omega)
  simp only [Value.slice.injEq] at he
  obtain ⟨rfl, -, rfl⟩ := he
  exact bodyPost_ret (v := .tuple #[.agg #[.slice a1 U.length c1, .slice a' Q.length c', .int .i64 (n : Int), .bool false], .int .i64 0]) (by simp [results, Try.results19, go_sem, z0, z1, z2, z3]) rfl ⟨_, rfl, ⟨a1, c1, a', c', rfl, H1.out.below HZ.out.below, hr5⟩, HZ.out.below⟩

end Go.Proofs.Ytlomjckmclefeaa

