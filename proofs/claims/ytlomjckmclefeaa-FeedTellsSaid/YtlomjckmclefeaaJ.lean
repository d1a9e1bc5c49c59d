/- The feed: the document's Pour. -/
import Derived.Test.YtlomjckmclefeaaI
namespace Go.Proofs.Ytlomjckmclefeaa
set_option linter.unusedVariables false
set_option linter.unusedSimpArgs false
open Go.Conc Go.RowKit

def L4 (w : World) : List Nat := [w.heap.size, w.heap.size + 1, w.heap.size + 1 + 1, w.heap.size + 1 + 1 + 1]
theorem RowAt.grow {w : World} {l l' : List Nat} {a : Option Addr} {c : Nat} {xs : List Int} (h : RowAt w l a c xs) (hl : ∀ k, k ∈ l' → w.heap.size ≤ k) : RowAt w (l ++ l') a c xs := by
  refine ⟨h.le, ?_⟩
  rcases h.form with h | ⟨b, off, rfl, hd, hc⟩
  · exact Or.inl h
  · refine Or.inr ⟨b, off, rfl, fun hne hm => ?_, hc⟩
    have hlt : b < w.heap.size := World.block_lt_of_cell? w _ (hc 0 (List.length_pos_iff.2 hne))
    rcases List.mem_append.1 hm with hm | hm
    · exact hd hne hm
    · have := hl b hm
      omega
theorem RowAt.sub {w : World} {l l' : List Nat} {a : Option Addr} {c : Nat} {xs : List Int} (h : RowAt w l a c xs) (hl : ∀ k, k ∈ l' → k ∈ l) : RowAt w l' a c xs := by
  refine ⟨h.le, ?_⟩
  rcases h.form with h | ⟨b, off, rfl, hd, hc⟩
  · exact Or.inl h
  · exact Or.inr ⟨b, off, rfl, fun hne hm => hd hne (hl b hm), hc⟩
theorem RefAt.grow {w : World} {l l' : List Nat} {v : Value} {U N : List Int} {n : Nat} {cl : Bool} (h : RefAt w l v U N n cl) (hl : ∀ k, k ∈ l' → w.heap.size ≤ k) : RefAt w (l ++ l') v U N n cl := by
  obtain ⟨a1, c1, a2, c2, e, h1, h2⟩ := h.form
  exact ⟨a1, c1, a2, c2, e, h1.grow hl, h2.grow hl⟩
theorem RefAt.sub {w : World} {l l' : List Nat} {v : Value} {U N : List Int} {n : Nat} {cl : Bool} (h : RefAt w l v U N n cl) (hl : ∀ k, k ∈ l' → k ∈ l) : RefAt w l' v U N n cl := by
  obtain ⟨a1, c1, a2, c2, e, h1, h2⟩ := h.form
  exact ⟨a1, c1, a2, c2, e, h1.sub hl, h2.sub hl⟩
/-- The boxes of both arguments and of both results. -/
structure PBox (w W : World) (l : List Nat) (a1 a2 a3 a4 : Option Addr) (c1 c2 c3 c4 n m : Nat) (cl ct : Bool) (U N U2 N2 : List Int) : Prop where
  below : Below w.heap.size w W
  ll : ∀ k, k ∈ l → k < w.heap.size
  bf : W.heap[w.heap.size]? = some (.cells #[.slice a1 U.length c1, .slice a2 N.length c2, .int .i64 (n : Int), .bool cl] 39 (0, 0))
  bt : W.heap[w.heap.size + 1]? = some (.cells #[.slice a3 U2.length c3, .slice a4 N2.length c4, .int .i64 (m : Int), .bool ct] 39 (0, 0))
  r4 : W.heap[w.heap.size + 1 + 1]? = some (.cells z39 39 (0, 0))
  r5 : W.heap[w.heap.size + 1 + 1 + 1]? = some (.cells z39 39 (0, 0))
  f : RefAt W (l ++ L4 w) (.agg #[.slice a1 U.length c1, .slice a2 N.length c2, .int .i64 (n : Int), .bool cl]) U N n cl
  t : RefAt W (l ++ L4 w) (.agg #[.slice a3 U2.length c3, .slice a4 N2.length c4, .int .i64 (m : Int), .bool ct]) U2 N2 m ct
theorem PBox.start {w : World} {l : List Nat} {a1 a2 a3 a4 : Option Addr} {c1 c2 c3 c4 n m : Nat} {cl ct : Bool} {U N U2 N2 : List Int} (hl0 : ∀ k, k ∈ l → k < w.heap.size) (hf : RefAt w l (.agg #[.slice a1 U.length c1, .slice a2 N.length c2, .int .i64 (n : Int), .bool cl]) U N n cl) (ht : RefAt w l (.agg #[.slice a3 U2.length c3, .slice a4 N2.length c4, .int .i64 (m : Int), .bool ct]) U2 N2 m ct) :
    PBox w ((((w.alloc (.cells #[.slice a1 U.length c1, .slice a2 N.length c2, .int .i64 (n : Int), .bool cl] 39)).alloc (.cells #[.slice a3 U2.length c3, .slice a4 N2.length c4, .int .i64 (m : Int), .bool ct] 39)).alloc (.cells #[.slice none 0 0, .slice none 0 0, .int .i64 0, .bool false] 39)).alloc (.cells #[.slice none 0 0, .slice none 0 0, .int .i64 0, .bool false] 39)) l a1 a2 a3 a4 c1 c2 c3 c4 n m cl ct U N U2 N2 := by
  have hb : Below w.heap.size w ((((w.alloc (.cells #[.slice a1 U.length c1, .slice a2 N.length c2, .int .i64 (n : Int), .bool cl] 39)).alloc (.cells #[.slice a3 U2.length c3, .slice a4 N2.length c4, .int .i64 (m : Int), .bool ct] 39)).alloc (.cells #[.slice none 0 0, .slice none 0 0, .int .i64 0, .bool false] 39)).alloc (.cells #[.slice none 0 0, .slice none 0 0, .int .i64 0, .bool false] 39)) :=
    ((((Below.refl _ _).alloc (Nat.le_refl _) _).alloc (by rw [World.size_alloc]; omega) _).alloc (by rw [World.size_alloc, World.size_alloc]; omega) _).alloc (by rw [World.size_alloc, World.size_alloc, World.size_alloc]; omega) _
  have hl : ∀ k, k ∈ L4 w → w.heap.size ≤ k := fun k hk => by simp [L4] at hk; omega
  refine ⟨hb, hl0, ?_, ?_, ?_, ?_, (hf.grow hl).below hb, (ht.grow hl).below hb⟩
  · rw [heap_alloc_old _ _ (by rw [World.size_alloc, World.size_alloc, World.size_alloc]; omega), heap_alloc_old _ _ (by rw [World.size_alloc, World.size_alloc]; omega)]
    exact heap_alloc2_old w _ _
  · rw [heap_alloc_old _ _ (by rw [World.size_alloc, World.size_alloc, World.size_alloc]; omega), heap_alloc_old _ _ (by rw [World.size_alloc, World.size_alloc]; omega)]
    exact heap_alloc2_new w _ _
  · have := heap_alloc2_old ((w.alloc (.cells #[.slice a1 U.length c1, .slice a2 N.length c2, .int .i64 (n : Int), .bool cl] 39)).alloc (.cells #[.slice a3 U2.length c3, .slice a4 N2.length c4, .int .i64 (m : Int), .bool ct] 39)) (.cells z39 39) (.cells z39 39)
    rwa [World.size_alloc, World.size_alloc] at this
  · have := heap_alloc2_new ((w.alloc (.cells #[.slice a1 U.length c1, .slice a2 N.length c2, .int .i64 (n : Int), .bool cl] 39)).alloc (.cells #[.slice a3 U2.length c3, .slice a4 N2.length c4, .int .i64 (m : Int), .bool ct] 39)) (.cells z39 39) (.cells z39 39)
    rwa [World.size_alloc, World.size_alloc] at this
theorem PBox.next {w W V : World} {l : List Nat} {a1 a2 a3 a4 : Option Addr} {c1 c2 c3 c4 n m : Nat} {cl ct : Bool} {U N U2 N2 : List Int} (h : PBox w W l a1 a2 a3 a4 c1 c2 c3 c4 n m cl ct U N U2 N2) (hb : Below W.heap.size W V) : PBox w V l a1 a2 a3 a4 c1 c2 c3 c4 n m cl ct U N U2 N2 :=
  ⟨h.below.trans (hb.mono h.below.size), h.ll, old_below hb h.bf, old_below hb h.bt, old_below hb h.r4, old_below hb h.r5, h.f.below hb, h.t.below hb⟩
theorem PBox.l4 {w W : World} {l : List Nat} {a1 a2 a3 a4 : Option Addr} {c1 c2 c3 c4 n m : Nat} {cl ct : Bool} {U N U2 N2 : List Int} (h : PBox w W l a1 a2 a3 a4 c1 c2 c3 c4 n m cl ct U N U2 N2) : ∀ k, k ∈ l ++ L4 w → k < W.heap.size := fun k hk => by
  have := lt_of_heap h.r5
  rcases List.mem_append.1 hk with hk | hk
  · have := h.ll k hk; omega
  · simp [L4] at hk; omega
theorem PBox.cells {w W : World} {l : List Nat} {a1 a2 a3 a4 : Option Addr} {c1 c2 c3 c4 n m : Nat} {cl ct : Bool} {U N U2 N2 : List Int} (h : PBox w W l a1 a2 a3 a4 c1 c2 c3 c4 n m cl ct U N U2 N2) :
    (W.cell? ⟨w.heap.size, 0, none⟩ = some (.slice a1 U.length c1) ∧ W.cell? ⟨w.heap.size, 1, none⟩ = some (.slice a2 N.length c2) ∧ W.cell? ⟨w.heap.size, 2, none⟩ = some (.int .i64 (n : Int)) ∧ W.cell? ⟨w.heap.size, 3, none⟩ = some (.bool cl)) ∧
    (W.cell? ⟨w.heap.size + 1, 0, none⟩ = some (.slice a3 U2.length c3) ∧ W.cell? ⟨w.heap.size + 1, 1, none⟩ = some (.slice a4 N2.length c4) ∧ W.cell? ⟨w.heap.size + 1, 2, none⟩ = some (.int .i64 (m : Int)) ∧ W.cell? ⟨w.heap.size + 1, 3, none⟩ = some (.bool ct)) :=
  ⟨⟨by rw [cell_of_row _ _ _ _ _ _ h.bf]; rfl, by rw [cell_of_row _ _ _ _ _ _ h.bf]; rfl, by rw [cell_of_row _ _ _ _ _ _ h.bf]; rfl, by rw [cell_of_row _ _ _ _ _ _ h.bf]; rfl⟩, ⟨by rw [cell_of_row _ _ _ _ _ _ h.bt]; rfl, by rw [cell_of_row _ _ _ _ _ _ h.bt]; rfl, by rw [cell_of_row _ _ _ _ _ _ h.bt]; rfl, by rw [cell_of_row _ _ _ _ _ _ h.bt]; rfl⟩⟩
/-- Both boxes anew. -/
theorem PBox.put {w W : World} {l : List Nat} {a1 a2 a3 a4 : Option Addr} {c1 c2 c3 c4 n m : Nat} {cl ct : Bool} {U N U2 N2 : List Int} {a1' a2' a3' a4' : Option Addr} {c1' c2' c3' c4' : Nat} {U' N' U2' N2' : List Int} (h : PBox w W l a1 a2 a3 a4 c1 c2 c3 c4 n m cl ct U N U2 N2)
    (hf : RefAt W (l ++ L4 w) (.agg #[.slice a1' U'.length c1', .slice a2' N'.length c2', .int .i64 (n : Int), .bool cl]) U' N' n cl) (ht : RefAt W (l ++ L4 w) (.agg #[.slice a3' U2'.length c3', .slice a4' N2'.length c4', .int .i64 (m : Int), .bool ct]) U2' N2' m ct) :
    PBox w ((W.setRow w.heap.size #[.slice a1' U'.length c1', .slice a2' N'.length c2', .int .i64 (n : Int), .bool cl]).setRow (w.heap.size + 1) #[.slice a3' U2'.length c3', .slice a4' N2'.length c4', .int .i64 (m : Int), .bool ct]) l a1' a2' a3' a4' c1' c2' c3' c4' n m cl ct U' N' U2' N2' := by
  have k : Upd (L4 w) W ((W.setRow w.heap.size #[.slice a1' U'.length c1', .slice a2' N'.length c2', .int .i64 (n : Int), .bool cl]).setRow (w.heap.size + 1) #[.slice a3' U2'.length c3', .slice a4' N2'.length c4', .int .i64 (m : Int), .bool ct]) :=
    ((upd_setRow W _ _).more (by intro i hi; simp at hi; simp [L4, hi])).trans ((upd_setRow _ _ _).more (by intro i hi; simp at hi; simp [L4, hi]))
  refine ⟨k.below h.below h.below.size (fun i hi => by simp [L4] at hi; omega), h.ll, ?_, ?_, ?_, ?_, hf.upd (k.more (fun i hi => List.mem_append.2 (Or.inr hi))), ht.upd (k.more (fun i hi => List.mem_append.2 (Or.inr hi)))⟩
  · rw [setRow_other _ _ _ _ (by omega)]; exact setRow_heap _ _ _ _ _ _ h.bf
  · exact setRow_heap _ _ _ _ _ _ (by rw [setRow_other _ _ _ _ (by omega)]; exact h.bt)
  · rw [setRow_other _ _ _ _ (by omega), setRow_other _ _ _ _ (by omega)]; exact h.r4
  · rw [setRow_other _ _ _ _ (by omega), setRow_other _ _ _ _ (by omega)]; exact h.r5
/-- The end: both results are filled. -/
structure PEnd (w V : World) (l : List Nat) (a1 a2 a3 a4 : Option Addr) (c1 c2 c3 c4 n m : Nat) (cl ct : Bool) (U N U2 N2 : List Int) : Prop where
  below : Below w.heap.size w V
  cf : V.cell? ⟨w.heap.size + 1 + 1, 0, none⟩ = some (.slice a1 U.length c1) ∧ V.cell? ⟨w.heap.size + 1 + 1, 1, none⟩ = some (.slice a2 N.length c2) ∧ V.cell? ⟨w.heap.size + 1 + 1, 2, none⟩ = some (.int .i64 (n : Int)) ∧ V.cell? ⟨w.heap.size + 1 + 1, 3, none⟩ = some (.bool cl)
  ct' : V.cell? ⟨w.heap.size + 1 + 1 + 1, 0, none⟩ = some (.slice a3 U2.length c3) ∧ V.cell? ⟨w.heap.size + 1 + 1 + 1, 1, none⟩ = some (.slice a4 N2.length c4) ∧ V.cell? ⟨w.heap.size + 1 + 1 + 1, 2, none⟩ = some (.int .i64 (m : Int)) ∧ V.cell? ⟨w.heap.size + 1 + 1 + 1, 3, none⟩ = some (.bool ct)
  f : RefAt V l (.agg #[.slice a1 U.length c1, .slice a2 N.length c2, .int .i64 (n : Int), .bool cl]) U N n cl
  t : RefAt V l (.agg #[.slice a3 U2.length c3, .slice a4 N2.length c4, .int .i64 (m : Int), .bool ct]) U2 N2 m ct
theorem PBox.fin1 {w W : World} {l : List Nat} {a1 a2 a3 a4 : Option Addr} {c1 c2 c3 c4 n m : Nat} {cl ct : Bool} {U N U2 N2 : List Int} (h : PBox w W l a1 a2 a3 a4 c1 c2 c3 c4 n m cl ct U N U2 N2) : PEnd w ((W.drew.setRow (w.heap.size + 1 + 1) #[.slice a1 U.length c1, .slice a2 N.length c2, .int .i64 (n : Int), .bool cl]).setRow (w.heap.size + 1 + 1 + 1) #[.slice a3 U2.length c3, .slice a4 N2.length c4, .int .i64 (m : Int), .bool ct]) l a1 a2 a3 a4 c1 c2 c3 c4 n m cl ct U N U2 N2 := by
  have k : Upd (L4 w) W ((W.drew.setRow (w.heap.size + 1 + 1) #[.slice a1 U.length c1, .slice a2 N.length c2, .int .i64 (n : Int), .bool cl]).setRow (w.heap.size + 1 + 1 + 1) #[.slice a3 U2.length c3, .slice a4 N2.length c4, .int .i64 (m : Int), .bool ct]) :=
    ((upd_drew _ W).trans ((upd_setRow _ _ _).more (by intro i hi; simp at hi; simp [L4, hi]))).trans ((upd_setRow _ _ _).more (by intro i hi; simp at hi; simp [L4, hi]))
  have hf : ((W.drew.setRow (w.heap.size + 1 + 1) #[.slice a1 U.length c1, .slice a2 N.length c2, .int .i64 (n : Int), .bool cl]).setRow (w.heap.size + 1 + 1 + 1) #[.slice a3 U2.length c3, .slice a4 N2.length c4, .int .i64 (m : Int), .bool ct]).heap[w.heap.size + 1 + 1]? = some (.cells #[.slice a1 U.length c1, .slice a2 N.length c2, .int .i64 (n : Int), .bool cl] 39 (0, 0)) := by rw [setRow_other _ _ _ _ (by omega)]; exact setRow_heap _ _ z39 _ _ _ h.r4
  have ht : ((W.drew.setRow (w.heap.size + 1 + 1) #[.slice a1 U.length c1, .slice a2 N.length c2, .int .i64 (n : Int), .bool cl]).setRow (w.heap.size + 1 + 1 + 1) #[.slice a3 U2.length c3, .slice a4 N2.length c4, .int .i64 (m : Int), .bool ct]).heap[w.heap.size + 1 + 1 + 1]? = some (.cells #[.slice a3 U2.length c3, .slice a4 N2.length c4, .int .i64 (m : Int), .bool ct] 39 (0, 0)) := setRow_heap _ _ z39 _ _ _ (by rw [setRow_other _ _ _ _ (by omega)]; exact h.r5)
  exact ⟨k.below h.below h.below.size (fun i hi => by simp [L4] at hi; omega), ⟨by rw [cell_of_row _ _ _ _ _ _ hf]; rfl, by rw [cell_of_row _ _ _ _ _ _ hf]; rfl, by rw [cell_of_row _ _ _ _ _ _ hf]; rfl, by rw [cell_of_row _ _ _ _ _ _ hf]; rfl⟩, ⟨by rw [cell_of_row _ _ _ _ _ _ ht]; rfl, by rw [cell_of_row _ _ _ _ _ _ ht]; rfl, by rw [cell_of_row _ _ _ _ _ _ ht]; rfl, by rw [cell_of_row _ _ _ _ _ _ ht]; rfl⟩, (h.f.upd (k.more (fun i hi => List.mem_append.2 (Or.inr hi)))).sub (fun i hi => List.mem_append.2 (Or.inl hi)), (h.t.upd (k.more (fun i hi => List.mem_append.2 (Or.inr hi)))).sub (fun i hi => List.mem_append.2 (Or.inl hi))⟩
theorem PBox.fin2 {w W : World} {l : List Nat} {a1 a2 a3 a4 : Option Addr} {c1 c2 c3 c4 n m : Nat} {cl ct : Bool} {U N U2 N2 : List Int} (h : PBox w W l a1 a2 a3 a4 c1 c2 c3 c4 n m cl ct U N U2 N2) : PEnd w ((W.drew.setRow (w.heap.size + 1 + 1 + 1) #[.slice a3 U2.length c3, .slice a4 N2.length c4, .int .i64 (m : Int), .bool ct]).setRow (w.heap.size + 1 + 1) #[.slice a1 U.length c1, .slice a2 N.length c2, .int .i64 (n : Int), .bool cl]) l a1 a2 a3 a4 c1 c2 c3 c4 n m cl ct U N U2 N2 := by
  have k : Upd (L4 w) W ((W.drew.setRow (w.heap.size + 1 + 1 + 1) #[.slice a3 U2.length c3, .slice a4 N2.length c4, .int .i64 (m : Int), .bool ct]).setRow (w.heap.size + 1 + 1) #[.slice a1 U.length c1, .slice a2 N.length c2, .int .i64 (n : Int), .bool cl]) :=
    ((upd_drew _ W).trans ((upd_setRow _ _ _).more (by intro i hi; simp at hi; simp [L4, hi]))).trans ((upd_setRow _ _ _).more (by intro i hi; simp at hi; simp [L4, hi]))
  have hf : ((W.drew.setRow (w.heap.size + 1 + 1 + 1) #[.slice a3 U2.length c3, .slice a4 N2.length c4, .int .i64 (m : Int), .bool ct]).setRow (w.heap.size + 1 + 1) #[.slice a1 U.length c1, .slice a2 N.length c2, .int .i64 (n : Int), .bool cl]).heap[w.heap.size + 1 + 1]? = some (.cells #[.slice a1 U.length c1, .slice a2 N.length c2, .int .i64 (n : Int), .bool cl] 39 (0, 0)) := setRow_heap _ _ z39 _ _ _ (by rw [setRow_other _ _ _ _ (by omega)]; exact h.r4)
  have ht : ((W.drew.setRow (w.heap.size + 1 + 1 + 1) #[.slice a3 U2.length c3, .slice a4 N2.length c4, .int .i64 (m : Int), .bool ct]).setRow (w.heap.size + 1 + 1) #[.slice a1 U.length c1, .slice a2 N.length c2, .int .i64 (n : Int), .bool cl]).heap[w.heap.size + 1 + 1 + 1]? = some (.cells #[.slice a3 U2.length c3, .slice a4 N2.length c4, .int .i64 (m : Int), .bool ct] 39 (0, 0)) := by rw [setRow_other _ _ _ _ (by omega)]; exact setRow_heap _ _ z39 _ _ _ h.r5
  exact ⟨k.below h.below h.below.size (fun i hi => by simp [L4] at hi; omega), ⟨by rw [cell_of_row _ _ _ _ _ _ hf]; rfl, by rw [cell_of_row _ _ _ _ _ _ hf]; rfl, by rw [cell_of_row _ _ _ _ _ _ hf]; rfl, by rw [cell_of_row _ _ _ _ _ _ hf]; rfl⟩, ⟨by rw [cell_of_row _ _ _ _ _ _ ht]; rfl, by rw [cell_of_row _ _ _ _ _ _ ht]; rfl, by rw [cell_of_row _ _ _ _ _ _ ht]; rfl, by rw [cell_of_row _ _ _ _ _ _ ht]; rfl⟩, (h.f.upd (k.more (fun i hi => List.mem_append.2 (Or.inr hi)))).sub (fun i hi => List.mem_append.2 (Or.inl hi)), (h.t.upd (k.more (fun i hi => List.mem_append.2 (Or.inr hi)))).sub (fun i hi => List.mem_append.2 (Or.inl hi))⟩

set_option maxRecDepth 100000 in
theorem refpour_shut {l : List Nat} {a1 a2 a3 a4 : Option Addr} {c1 c2 c3 c4 n m : Nat} {cl : Bool} {U N U2 N2 : List Int} (w : World) (hl0 : ∀ k, k ∈ l → k < w.heap.size) (h1 : RefAt w l (.agg #[.slice a1 U.length c1, .slice a2 N.length c2, .int .i64 (n : Int), .bool cl]) U N n cl) (h2 : RefAt w l (.agg #[.slice a3 U2.length c3, .slice a4 N2.length c4, .int .i64 (m : Int), .bool true]) U2 N2 m true) :
    Calls Try.prog 21 #[.agg #[.slice a1 U.length c1, .slice a2 N.length c2, .int .i64 (n : Int), .bool cl], .agg #[.slice a3 U2.length c3, .slice a4 N2.length c4, .int .i64 (m : Int), .bool true]] w fun e w' => ∃ v v', e = .returned (.tuple #[v, v', .int .i64 0, .int .i64 7]) ∧ RefAt w' l v U N n cl ∧ RefAt w' l v' U2 N2 m true ∧ Below w.heap.size w w' := by
  have H1 := Lib.hid h1
  have H2 := Lib.hid h2
  have HL := Lib.hid hl0
  clear h1 h2 hl0
  go_enter Try.func21, Try.ntmps21
  go_wp2_with (obtain ⟨w0, hw⟩ : ∃ w0, (((w.alloc (.cells #[.slice a1 U.length c1, .slice a2 N.length c2, .int .i64 (n : Int), .bool cl] 39)).alloc (.cells #[.slice a3 U2.length c3, .slice a4 N2.length c4, .int .i64 (m : Int), .bool true] 39)).alloc (.cells #[.slice none 0 0, .slice none 0 0, .int .i64 0, .bool false] 39)).alloc (.cells #[.slice none 0 0, .slice none 0 0, .int .i64 0, .bool false] 39) = w0 := ⟨_, rfl⟩
               rewrite [hw]
               have HP0 : Hid (PBox w w0 l a1 a2 a3 a4 c1 c2 c3 c4 n m cl true U N U2 N2) := by rewrite [← hw]; exact PBox.start HL.out H1.out H2.out
               obtain ⟨⟨f0, f1, f2, f3⟩, ⟨t0, t1, t2, t3⟩⟩ := HP0.out.cells
               clear hw H1 H2 HL)
  have HS : Hid (∀ W : World, W.heap[w.heap.size]? = w0.heap[w.heap.size]? → W.heap[w.heap.size + 1]? = w0.heap[w.heap.size + 1]? → (W.cell? ⟨w.heap.size, 0, none⟩ = some (.slice a1 U.length c1) ∧ W.cell? ⟨w.heap.size, 1, none⟩ = some (.slice a2 N.length c2) ∧ W.cell? ⟨w.heap.size, 2, none⟩ = some (.int .i64 (n : Int)) ∧ W.cell? ⟨w.heap.size, 3, none⟩ = some (.bool cl)) ∧ (W.cell? ⟨w.heap.size + 1, 0, none⟩ = some (.slice a3 U2.length c3) ∧ W.cell? ⟨w.heap.size + 1, 1, none⟩ = some (.slice a4 N2.length c4) ∧ W.cell? ⟨w.heap.size + 1, 2, none⟩ = some (.int .i64 (m : Int)) ∧ W.cell? ⟨w.heap.size + 1, 3, none⟩ = some (.bool true))) := fun W h1 h2 => ⟨⟨by rw [cell_of_row _ _ _ _ _ _ (h1.trans HP0.out.bf)]; rfl, by rw [cell_of_row _ _ _ _ _ _ (h1.trans HP0.out.bf)]; rfl, by rw [cell_of_row _ _ _ _ _ _ (h1.trans HP0.out.bf)]; rfl, by rw [cell_of_row _ _ _ _ _ _ (h1.trans HP0.out.bf)]; rfl⟩, ⟨by rw [cell_of_row _ _ _ _ _ _ (h2.trans HP0.out.bt)]; rfl, by rw [cell_of_row _ _ _ _ _ _ (h2.trans HP0.out.bt)]; rfl, by rw [cell_of_row _ _ _ _ _ _ (h2.trans HP0.out.bt)]; rfl, by rw [cell_of_row _ _ _ _ _ _ (h2.trans HP0.out.bt)]; rfl⟩⟩
  refine wp_region_noPanic ?_
  refine wp_region_held_drew (S := fun W : World => (W.cell? ⟨w.heap.size, 0, none⟩ = some (.slice a1 U.length c1) ∧ W.cell? ⟨w.heap.size, 1, none⟩ = some (.slice a2 N.length c2) ∧ W.cell? ⟨w.heap.size, 2, none⟩ = some (.int .i64 (n : Int)) ∧ W.cell? ⟨w.heap.size, 3, none⟩ = some (.bool cl)) ∧ (W.cell? ⟨w.heap.size + 1, 0, none⟩ = some (.slice a3 U2.length c3) ∧ W.cell? ⟨w.heap.size + 1, 1, none⟩ = some (.slice a4 N2.length c4) ∧ W.cell? ⟨w.heap.size + 1, 2, none⟩ = some (.int .i64 (m : Int)) ∧ W.cell? ⟨w.heap.size + 1, 3, none⟩ = some (.bool true))) (by kernel_rfl) ?_ (fun hHeld => ?_)
  · exact HS.out _ rfl rfl
  refine wpAnyH_take (i := 0) (oi := { dst := some 17, op := Op.load 39 (Operand.tmp 2), type := 39, pos := "ref.go:50", after := #[], guard := none }) (v := ?_) rfl (by kernel_rfl) (by kernel_rfl) (by kernel_rfl) (fun _ _ _ h => h) (Or.inl ⟨by rfl, ?_⟩) (by assumption) ?_
  rotate_left
  · (intro w9 hS9; (try dsimp only at hS9); go_simp); all_goals (with_reducible rfl)
  (try simp only [Act.put, List.setIfInBounds_toArray, List.set_cons_zero, List.set_cons_succ])
  refine wpAnyH_take (i := 1) (oi := { dst := some 18, op := Op.load 39 (Operand.tmp 3), type := 39, pos := "ref.go:50", after := #[{ on := 2, ground := Ground.gcOnly Departure.lateStores }], guard := none }) (v := ?_) rfl (by kernel_rfl) (by kernel_rfl) (by kernel_rfl) (fun _ _ _ h => h) (Or.inl ⟨by rfl, ?_⟩) (by assumption) ?_
  rotate_left
  · (intro w9 hS9; (try dsimp only at hS9); go_simp); all_goals (with_reducible rfl)
  (try simp only [Act.put, List.setIfInBounds_toArray, List.set_cons_zero, List.set_cons_succ])
  refine wpAnyH_ready (rs := [2]) (by kernel_rfl) (by simp) ?_
  refine AllReadyH.cons (o := { dst := none, op := Op.store 39 (Operand.tmp 4) (Operand.tmp 17), type := 0, pos := "ref.go:50", after := #[{ on := 0, ground := Ground.data }, { on := 0, ground := Ground.phase }, { on := 1, ground := Ground.textOnly Departure.lateStores }], guard := none }) rfl (fun K hK => ?_) ?_
  · rw [if_pos (by rfl)]
    refine wp_store_row 39 _ _ rfl _ _ rfl rfl 39 z39 ?_ size39 rfl (one4 ..) ?_
    · (first | exact HP0.out.r4 | (rw [setRow_other _ _ _ _ (by omega)]; exact HP0.out.r4))
    (try go_wp2_with fail)
    refine hK.out _ _ ?_ (fun hHeld => ?_)
    · exact HS.out _ (by repeat' first | rfl | (rw [setRow_other _ _ _ _ (by omega)])) (by repeat' first | rfl | (rw [setRow_other _ _ _ _ (by omega)]))
    clear hK K
    (try simp only [Act.put, List.setIfInBounds_toArray, List.set_cons_zero, List.set_cons_succ])
    refine wpAnyH_ready (rs := [3]) (by kernel_rfl) (by simp) ?_
    refine AllReadyH.cons (o := { dst := none, op := Op.store 39 (Operand.tmp 5) (Operand.tmp 18), type := 0, pos := "ref.go:50", after := #[{ on := 1, ground := Ground.data }, { on := 2, ground := Ground.chain }, { on := 0, ground := Ground.phase }, { on := 1, ground := Ground.phase }, { on := 2, ground := Ground.phase }], guard := none }) rfl (fun K hK => ?_) ?_
    · rw [if_pos (by rfl)]
      refine wp_store_row 39 _ _ rfl _ _ rfl rfl 39 z39 ?_ size39 rfl (one4 ..) ?_
      · (first | exact HP0.out.r5 | (rw [setRow_other _ _ _ _ (by omega)]; exact HP0.out.r5))
      (try go_wp2_with fail)
      refine hK.out _ _ ?_ (fun hHeld => ?_)
      · exact HS.out _ (by repeat' first | rfl | (rw [setRow_other _ _ _ _ (by omega)])) (by repeat' first | rfl | (rw [setRow_other _ _ _ _ (by omega)]))
      clear hK K
      (try simp only [Act.put, List.setIfInBounds_toArray, List.set_cons_zero, List.set_cons_succ])
      refine wpAnyH_take (i := 4) (oi := { dst := some 6, op := Op.assign (Operand.const (Value.int IntKind.i64 0)), type := 3, pos := "ref.go:50", after := #[{ on := 3, ground := Ground.chain }, { on := 0, ground := Ground.phase }, { on := 1, ground := Ground.phase }, { on := 2, ground := Ground.phase }, { on := 3, ground := Ground.phase }], guard := none }) (v := ?_) rfl (by kernel_rfl) (by kernel_rfl) (by kernel_rfl) (fun _ _ _ h => h) (Or.inl ⟨by rfl, ?_⟩) (by assumption) ?_
      rotate_left
      · (intro w9 hS9; (try dsimp only at hS9); go_simp); all_goals (with_reducible rfl)
      (try simp only [Act.put, List.setIfInBounds_toArray, List.set_cons_zero, List.set_cons_succ])
      refine wpAnyH_take (i := 5) (oi := { dst := some 7, op := Op.assign (Operand.const (Value.int IntKind.i64 7)), type := 27, pos := "ref.go:50", after := #[{ on := 4, ground := Ground.chain }, { on := 0, ground := Ground.phase }, { on := 1, ground := Ground.phase }, { on := 2, ground := Ground.phase }, { on := 3, ground := Ground.phase }, { on := 4, ground := Ground.phase }], guard := none }) (v := ?_) rfl (by kernel_rfl) (by kernel_rfl) (by kernel_rfl) (fun _ _ _ h => h) (Or.inl ⟨by rfl, ?_⟩) (by assumption) ?_
      rotate_left
      · (intro w9 hS9; (try dsimp only at hS9); go_simp); all_goals (with_reducible rfl)
      (try simp only [Act.put, List.setIfInBounds_toArray, List.set_cons_zero, List.set_cons_succ])
      refine wpAnyH_done (by kernel_rfl) (NoPanic.normal ?_) _
      go_wp2_with fail
      first
        | (have HZ := HP0.out.fin1; obtain ⟨⟨z0, z1, z2, z3⟩, ⟨z4, z5, z6, z7⟩⟩ := (show (((w0.drew.setRow (w.heap.size + 1 + 1) #[.slice a1 U.length c1, .slice a2 N.length c2, .int .i64 (n : Int), .bool cl]).setRow (w.heap.size + 1 + 1 + 1) #[.slice a3 U2.length c3, .slice a4 N2.length c4, .int .i64 (m : Int), .bool true]).cell? ⟨w.heap.size + 1 + 1, 0, none⟩ = some (.slice a1 U.length c1) ∧ ((w0.drew.setRow (w.heap.size + 1 + 1) #[.slice a1 U.length c1, .slice a2 N.length c2, .int .i64 (n : Int), .bool cl]).setRow (w.heap.size + 1 + 1 + 1) #[.slice a3 U2.length c3, .slice a4 N2.length c4, .int .i64 (m : Int), .bool true]).cell? ⟨w.heap.size + 1 + 1, 1, none⟩ = some (.slice a2 N.length c2) ∧ ((w0.drew.setRow (w.heap.size + 1 + 1) #[.slice a1 U.length c1, .slice a2 N.length c2, .int .i64 (n : Int), .bool cl]).setRow (w.heap.size + 1 + 1 + 1) #[.slice a3 U2.length c3, .slice a4 N2.length c4, .int .i64 (m : Int), .bool true]).cell? ⟨w.heap.size + 1 + 1, 2, none⟩ = some (.int .i64 (n : Int)) ∧ ((w0.drew.setRow (w.heap.size + 1 + 1) #[.slice a1 U.length c1, .slice a2 N.length c2, .int .i64 (n : Int), .bool cl]).setRow (w.heap.size + 1 + 1 + 1) #[.slice a3 U2.length c3, .slice a4 N2.length c4, .int .i64 (m : Int), .bool true]).cell? ⟨w.heap.size + 1 + 1, 3, none⟩ = some (.bool cl)) ∧ (((w0.drew.setRow (w.heap.size + 1 + 1) #[.slice a1 U.length c1, .slice a2 N.length c2, .int .i64 (n : Int), .bool cl]).setRow (w.heap.size + 1 + 1 + 1) #[.slice a3 U2.length c3, .slice a4 N2.length c4, .int .i64 (m : Int), .bool true]).cell? ⟨w.heap.size + 1 + 1 + 1, 0, none⟩ = some (.slice a3 U2.length c3) ∧ ((w0.drew.setRow (w.heap.size + 1 + 1) #[.slice a1 U.length c1, .slice a2 N.length c2, .int .i64 (n : Int), .bool cl]).setRow (w.heap.size + 1 + 1 + 1) #[.slice a3 U2.length c3, .slice a4 N2.length c4, .int .i64 (m : Int), .bool true]).cell? ⟨w.heap.size + 1 + 1 + 1, 1, none⟩ = some (.slice a4 N2.length c4) ∧ ((w0.drew.setRow (w.heap.size + 1 + 1) #[.slice a1 U.length c1, .slice a2 N.length c2, .int .i64 (n : Int), .bool cl]).setRow (w.heap.size + 1 + 1 + 1) #[.slice a3 U2.length c3, .slice a4 N2.length c4, .int .i64 (m : Int), .bool true]).cell? ⟨w.heap.size + 1 + 1 + 1, 2, none⟩ = some (.int .i64 (m : Int)) ∧ ((w0.drew.setRow (w.heap.size + 1 + 1) #[.slice a1 U.length c1, .slice a2 N.length c2, .int .i64 (n : Int), .bool cl]).setRow (w.heap.size + 1 + 1 + 1) #[.slice a3 U2.length c3, .slice a4 N2.length c4, .int .i64 (m : Int), .bool true]).cell? ⟨w.heap.size + 1 + 1 + 1, 3, none⟩ = some (.bool true)) from ⟨HZ.cf, HZ.ct'⟩); exact bodyPost_ret (v := .tuple #[.agg #[.slice a1 U.length c1, .slice a2 N.length c2, .int .i64 (n : Int), .bool cl], .agg #[.slice a3 U2.length c3, .slice a4 N2.length c4, .int .i64 (m : Int), .bool true], .int .i64 0, .int .i64 7]) (by simp [results, Try.results21, go_sem, z0, z1, z2, z3, z4, z5, z6, z7]) rfl ⟨_, _, rfl, HZ.f, HZ.t, HZ.below⟩)
        | (have HZ := HP0.out.fin2; obtain ⟨⟨z0, z1, z2, z3⟩, ⟨z4, z5, z6, z7⟩⟩ := (show (((w0.drew.setRow (w.heap.size + 1 + 1 + 1) #[.slice a3 U2.length c3, .slice a4 N2.length c4, .int .i64 (m : Int), .bool true]).setRow (w.heap.size + 1 + 1) #[.slice a1 U.length c1, .slice a2 N.length c2, .int .i64 (n : Int), .bool cl]).cell? ⟨w.heap.size + 1 + 1, 0, none⟩ = some (.slice a1 U.length c1) ∧ ((w0.drew.setRow (w.heap.size + 1 + 1 + 1) #[.slice a3 U2.length c3, .slice a4 N2.length c4, .int .i64 (m : Int), .bool true]).setRow (w.heap.size + 1 + 1) #[.slice a1 U.length c1, .slice a2 N.length c2, .int .i64 (n : Int), .bool cl]).cell? ⟨w.heap.size + 1 + 1, 1, none⟩ = some (.slice a2 N.length c2) ∧ ((w0.drew.setRow (w.heap.size + 1 + 1 + 1) #[.slice a3 U2.length c3, .slice a4 N2.length c4, .int .i64 (m : Int), .bool true]).setRow (w.heap.size + 1 + 1) #[.slice a1 U.length c1, .slice a2 N.length c2, .int .i64 (n : Int), .bool cl]).cell? ⟨w.heap.size + 1 + 1, 2, none⟩ = some (.int .i64 (n : Int)) ∧ ((w0.drew.setRow (w.heap.size + 1 + 1 + 1) #[.slice a3 U2.length c3, .slice a4 N2.length c4, .int .i64 (m : Int), .bool true]).setRow (w.heap.size + 1 + 1) #[.slice a1 U.length c1, .slice a2 N.length c2, .int .i64 (n : Int), .bool cl]).cell? ⟨w.heap.size + 1 + 1, 3, none⟩ = some (.bool cl)) ∧ (((w0.drew.setRow (w.heap.size + 1 + 1 + 1) #[.slice a3 U2.length c3, .slice a4 N2.length c4, .int .i64 (m : Int), .bool true]).setRow (w.heap.size + 1 + 1) #[.slice a1 U.length c1, .slice a2 N.length c2, .int .i64 (n : Int), .bool cl]).cell? ⟨w.heap.size + 1 + 1 + 1, 0, none⟩ = some (.slice a3 U2.length c3) ∧ ((w0.drew.setRow (w.heap.size + 1 + 1 + 1) #[.slice a3 U2.length c3, .slice a4 N2.length c4, .int .i64 (m : Int), .bool true]).setRow (w.heap.size + 1 + 1) #[.slice a1 U.length c1, .slice a2 N.length c2, .int .i64 (n : Int), .bool cl]).cell? ⟨w.heap.size + 1 + 1 + 1, 1, none⟩ = some (.slice a4 N2.length c4) ∧ ((w0.drew.setRow (w.heap.size + 1 + 1 + 1) #[.slice a3 U2.length c3, .slice a4 N2.length c4, .int .i64 (m : Int), .bool true]).setRow (w.heap.size + 1 + 1) #[.slice a1 U.length c1, .slice a2 N.length c2, .int .i64 (n : Int), .bool cl]).cell? ⟨w.heap.size + 1 + 1 + 1, 2, none⟩ = some (.int .i64 (m : Int)) ∧ ((w0.drew.setRow (w.heap.size + 1 + 1 + 1) #[.slice a3 U2.length c3, .slice a4 N2.length c4, .int .i64 (m : Int), .bool true]).setRow (w.heap.size + 1 + 1) #[.slice a1 U.length c1, .slice a2 N.length c2, .int .i64 (n : Int), .bool cl]).cell? ⟨w.heap.size + 1 + 1 + 1, 3, none⟩ = some (.bool true)) from ⟨HZ.cf, HZ.ct'⟩); exact bodyPost_ret (v := .tuple #[.agg #[.slice a1 U.length c1, .slice a2 N.length c2, .int .i64 (n : Int), .bool cl], .agg #[.slice a3 U2.length c3, .slice a4 N2.length c4, .int .i64 (m : Int), .bool true], .int .i64 0, .int .i64 7]) (by simp [results, Try.results21, go_sem, z0, z1, z2, z3, z4, z5, z6, z7]) rfl ⟨_, _, rfl, HZ.f, HZ.t, HZ.below⟩)
    exact AllReadyH.nil
  exact AllReadyH.nil

theorem four_cells {w : World} {b : Nat} {v0 v1 v2 v3 : Value} (h : w.heap[b]? = some (.cells #[v0, v1, v2, v3] 39 (0, 0))) :
    w.cell? ⟨b, 0, none⟩ = some v0 ∧ w.cell? ⟨b, 1, none⟩ = some v1 ∧ w.cell? ⟨b, 2, none⟩ = some v2 ∧ w.cell? ⟨b, 3, none⟩ = some v3 :=
  ⟨by rw [cell_of_row _ _ _ _ _ _ h]; rfl, by rw [cell_of_row _ _ _ _ _ _ h]; rfl, by rw [cell_of_row _ _ _ _ _ _ h]; rfl, by rw [cell_of_row _ _ _ _ _ _ h]; rfl⟩
set_option maxRecDepth 100000 in
set_option maxHeartbeats 16000000 in
theorem refpour_open {l : List Nat} {a1 a2 a3 a4 : Option Addr} {c1 c2 c3 c4 n m : Nat} {cl : Bool} {U N U2 N2 : List Int} (hn : U.length + N.length ≤ 512) (hm : m ≤ 256) (w : World) (hl0 : ∀ k, k ∈ l → k < w.heap.size) (h1 : RefAt w l (.agg #[.slice a1 U.length c1, .slice a2 N.length c2, .int .i64 (n : Int), .bool cl]) U N n cl) (h2 : RefAt w l (.agg #[.slice a3 U2.length c3, .slice a4 N2.length c4, .int .i64 (m : Int), .bool false]) U2 N2 m false) :
    Calls Try.prog 21 #[.agg #[.slice a1 U.length c1, .slice a2 N.length c2, .int .i64 (n : Int), .bool cl], .agg #[.slice a3 U2.length c3, .slice a4 N2.length c4, .int .i64 (m : Int), .bool false]] w fun e w' => ∃ v v', e = .returned (.tuple #[v, v', .int .i64 ((pourU m N N2 U U2).k : Int), .int .i64 0]) ∧ RefAt w' l v (pourU m N N2 U U2).U (pourU m N N2 U U2).N n cl ∧ RefAt w' l v' (pourU m N N2 U U2).U2 (pourU m N N2 U U2).N2 m false ∧ Below w.heap.size w w' := by
  have H1 := Lib.hid h1
  have H2 := Lib.hid h2
  have HL := Lib.hid hl0
  have HB := Lib.hid hn
  have HM := Lib.hid hm
  have HK : Hid ((pourU m N N2 U U2).k ≤ 512) := by show _ ≤ _; have := pourU_le m N N2 U U2; omega
  obtain ⟨R, hR⟩ : ∃ R, pourU m N N2 U U2 = R := ⟨_, rfl⟩
  rw [hR] at HK ⊢
  have HR := Lib.hid hR
  clear h1 h2 hl0 hn hm hR
  go_enter Try.func21, Try.ntmps21
  go_wp2_with (obtain ⟨w0, hw⟩ : ∃ w0, (((w.alloc (.cells #[.slice a1 U.length c1, .slice a2 N.length c2, .int .i64 (n : Int), .bool cl] 39)).alloc (.cells #[.slice a3 U2.length c3, .slice a4 N2.length c4, .int .i64 (m : Int), .bool false] 39)).alloc (.cells #[.slice none 0 0, .slice none 0 0, .int .i64 0, .bool false] 39)).alloc (.cells #[.slice none 0 0, .slice none 0 0, .int .i64 0, .bool false] 39) = w0 := ⟨_, rfl⟩
               rewrite [hw]
               have HP0 : Hid (PBox w w0 l a1 a2 a3 a4 c1 c2 c3 c4 n m cl false U N U2 N2) := by rewrite [← hw]; exact PBox.start HL.out H1.out H2.out
               obtain ⟨⟨f0, f1, f2, f3⟩, ⟨t0, t1, t2, t3⟩⟩ := HP0.out.cells
               clear hw H1 H2 HL)
  go_loopw [8] (fun i wr => ∃ (k : Nat) (U N U2 N2 : List Int) (a1 a2 a3 a4 : Option Addr) (c1 c2 c3 c4 : Nat), i = .int .i64 k ∧ U.length + N.length ≤ 512 ∧ PBox w wr l a1 a2 a3 a4 c1 c2 c3 c4 n m cl false U N U2 N2 ∧ ∃ P, pourU m N N2 U U2 = P ∧ P.U = R.U ∧ P.N = R.N ∧ P.U2 = R.U2 ∧ P.N2 = R.N2 ∧ k + P.k = R.k) (fun i _ => (512 - intOf i).toNat)
  case atStart => exact ⟨0, U, N, U2, N2, a1, a2, a3, a4, c1, c2, c3, c4, rfl, HB.out, HP0.out, R, HR.out, rfl, rfl, rfl, rfl, by omega⟩
  case round =>
    clear HP0 HR HB f0 f1 f2 f3 t0 t1 t2 t3
    obtain ⟨k, U, N, U2, N2, a1, a2, a3, a4, c1, c2, c3, c4, rfl, hB, hP, P, hPe, p1, p2, p3, p4, p5⟩ := hrel
    have HP := Lib.hid hP
    have HB := Lib.hid hB
    clear hB
    by_cases hU : U = []
    · subst hU
      by_cases hN : N = []
      · subst hN
        have hcs : (wr.cell? ⟨w.heap.size, 0, none⟩ = some (.slice a1 0 c1) ∧ wr.cell? ⟨w.heap.size, 1, none⟩ = some (.slice a2 0 c2) ∧ wr.cell? ⟨w.heap.size, 2, none⟩ = some (.int .i64 (n : Int)) ∧ wr.cell? ⟨w.heap.size, 3, none⟩ = some (.bool cl)) ∧ (wr.cell? ⟨w.heap.size + 1, 0, none⟩ = some (.slice a3 U2.length c3) ∧ wr.cell? ⟨w.heap.size + 1, 1, none⟩ = some (.slice a4 N2.length c4) ∧ wr.cell? ⟨w.heap.size + 1, 2, none⟩ = some (.int .i64 (m : Int)) ∧ wr.cell? ⟨w.heap.size + 1, 3, none⟩ = some (.bool false)) := hP.cells
        obtain ⟨⟨f0, f1, f2, f3⟩, ⟨t0, t1, t2, t3⟩⟩ := hcs
        obtain rfl : P = ⟨[], [], U2, N2, 0⟩ := by rw [← hPe]; rfl
        have e1 : k = R.k := by simpa using p5
        have HE : Hid (([] : List Int) = R.U ∧ ([] : List Int) = R.N ∧ U2 = R.U2 ∧ N2 = R.N2) := ⟨p1, p2, p3, p4⟩
        clear p1 p2 p3 p4 p5 hPe hP
        subst e1
        go_wp2_with fail
        have HS : Hid (∀ W : World, W.heap[w.heap.size]? = wr.heap[w.heap.size]? → W.heap[w.heap.size + 1]? = wr.heap[w.heap.size + 1]? → (W.cell? ⟨w.heap.size, 0, none⟩ = some (.slice a1 0 c1) ∧ W.cell? ⟨w.heap.size, 1, none⟩ = some (.slice a2 0 c2) ∧ W.cell? ⟨w.heap.size, 2, none⟩ = some (.int .i64 (n : Int)) ∧ W.cell? ⟨w.heap.size, 3, none⟩ = some (.bool cl)) ∧ (W.cell? ⟨w.heap.size + 1, 0, none⟩ = some (.slice a3 U2.length c3) ∧ W.cell? ⟨w.heap.size + 1, 1, none⟩ = some (.slice a4 N2.length c4) ∧ W.cell? ⟨w.heap.size + 1, 2, none⟩ = some (.int .i64 (m : Int)) ∧ W.cell? ⟨w.heap.size + 1, 3, none⟩ = some (.bool false))) := fun W h1 h2 => ⟨⟨by rw [cell_of_row _ _ _ _ _ _ (h1.trans HP.out.bf)]; rfl, by rw [cell_of_row _ _ _ _ _ _ (h1.trans HP.out.bf)]; rfl, by rw [cell_of_row _ _ _ _ _ _ (h1.trans HP.out.bf)]; rfl, by rw [cell_of_row _ _ _ _ _ _ (h1.trans HP.out.bf)]; rfl⟩, ⟨by rw [cell_of_row _ _ _ _ _ _ (h2.trans HP.out.bt)]; rfl, by rw [cell_of_row _ _ _ _ _ _ (h2.trans HP.out.bt)]; rfl, by rw [cell_of_row _ _ _ _ _ _ (h2.trans HP.out.bt)]; rfl, by rw [cell_of_row _ _ _ _ _ _ (h2.trans HP.out.bt)]; rfl⟩⟩
        refine wp_region_noPanic ?_
        refine wp_region_held_drew (S := fun W : World => (W.cell? ⟨w.heap.size, 0, none⟩ = some (.slice a1 0 c1) ∧ W.cell? ⟨w.heap.size, 1, none⟩ = some (.slice a2 0 c2) ∧ W.cell? ⟨w.heap.size, 2, none⟩ = some (.int .i64 (n : Int)) ∧ W.cell? ⟨w.heap.size, 3, none⟩ = some (.bool cl)) ∧ (W.cell? ⟨w.heap.size + 1, 0, none⟩ = some (.slice a3 U2.length c3) ∧ W.cell? ⟨w.heap.size + 1, 1, none⟩ = some (.slice a4 N2.length c4) ∧ W.cell? ⟨w.heap.size + 1, 2, none⟩ = some (.int .i64 (m : Int)) ∧ W.cell? ⟨w.heap.size + 1, 3, none⟩ = some (.bool false))) (by kernel_rfl) ?_ (fun hHeld => ?_)
        · exact HS.out _ rfl rfl
        refine wpAnyH_take (i := 0) (oi := { dst := some 50, op := Op.load 39 (Operand.tmp 2), type := 39, pos := "ref.go:64", after := #[], guard := none }) (v := ?_) rfl (by kernel_rfl) (by kernel_rfl) (by kernel_rfl) (fun _ _ _ h => h) (Or.inl ⟨by rfl, ?_⟩) (by assumption) ?_
        rotate_left
        · (intro w9 hS9; (try dsimp only at hS9); go_simp); all_goals (with_reducible rfl)
        (try simp only [Act.put, List.setIfInBounds_toArray, List.set_cons_zero, List.set_cons_succ])
        refine wpAnyH_take (i := 1) (oi := { dst := some 51, op := Op.load 39 (Operand.tmp 3), type := 39, pos := "ref.go:64", after := #[{ on := 3, ground := Ground.gcOnly Departure.lateStores }], guard := none }) (v := ?_) rfl (by kernel_rfl) (by kernel_rfl) (by kernel_rfl) (fun _ _ _ h => h) (Or.inl ⟨by rfl, ?_⟩) (by assumption) ?_
        rotate_left
        · (intro w9 hS9; (try dsimp only at hS9); go_simp); all_goals (with_reducible rfl)
        (try simp only [Act.put, List.setIfInBounds_toArray, List.set_cons_zero, List.set_cons_succ])
        refine wpAnyH_take (i := 2) (oi := { dst := some 52, op := Op.move (Operand.tmp 8), type := 3, pos := "ref.go:64", after := #[{ on := 4, ground := Ground.gcOnly Departure.lateStores }], guard := none }) (v := ?_) rfl (by kernel_rfl) (by kernel_rfl) (by kernel_rfl) (fun _ _ _ h => h) (Or.inl ⟨by rfl, ?_⟩) (by assumption) ?_
        rotate_left
        · (intro w9 hS9; (try dsimp only at hS9); go_simp); all_goals (with_reducible rfl)
        (try simp only [Act.put, List.setIfInBounds_toArray, List.set_cons_zero, List.set_cons_succ])
        refine wpAnyH_ready (rs := [3]) (by kernel_rfl) (by simp) ?_
        refine AllReadyH.cons (o := { dst := none, op := Op.store 39 (Operand.tmp 4) (Operand.tmp 50), type := 0, pos := "ref.go:64", after := #[{ on := 0, ground := Ground.data }, { on := 0, ground := Ground.phase }, { on := 1, ground := Ground.textOnly Departure.lateStores }, { on := 2, ground := Ground.textOnly Departure.lateStores }], guard := none }) rfl (fun K hK => ?_) ?_
        · rw [if_pos (by rfl)]
          refine wp_store_row 39 _ _ rfl _ _ rfl rfl 39 z39 ?_ size39 rfl (one4 ..) ?_
          · (first | exact HP.out.r4 | (rw [setRow_other _ _ _ _ (by omega)]; exact HP.out.r4))
          (try go_wp2_with fail)
          refine hK.out _ _ ?_ (fun hHeld => ?_)
          · exact HS.out _ (by repeat' first | rfl | (rw [setRow_other _ _ _ _ (by omega)])) (by repeat' first | rfl | (rw [setRow_other _ _ _ _ (by omega)]))
          clear hK K
          (try simp only [Act.put, List.setIfInBounds_toArray, List.set_cons_zero, List.set_cons_succ])
          refine wpAnyH_ready (rs := [4]) (by kernel_rfl) (by simp) ?_
          refine AllReadyH.cons (o := { dst := none, op := Op.store 39 (Operand.tmp 5) (Operand.tmp 51), type := 0, pos := "ref.go:64", after := #[{ on := 1, ground := Ground.data }, { on := 3, ground := Ground.chain }, { on := 0, ground := Ground.phase }, { on := 1, ground := Ground.phase }, { on := 2, ground := Ground.textOnly Departure.lateStores }, { on := 3, ground := Ground.phase }], guard := none }) rfl (fun K hK => ?_) ?_
          · rw [if_pos (by rfl)]
            refine wp_store_row 39 _ _ rfl _ _ rfl rfl 39 z39 ?_ size39 rfl (one4 ..) ?_
            · (first | exact HP.out.r5 | (rw [setRow_other _ _ _ _ (by omega)]; exact HP.out.r5))
            (try go_wp2_with fail)
            refine hK.out _ _ ?_ (fun hHeld => ?_)
            · exact HS.out _ (by repeat' first | rfl | (rw [setRow_other _ _ _ _ (by omega)])) (by repeat' first | rfl | (rw [setRow_other _ _ _ _ (by omega)]))
            clear hK K
            (try simp only [Act.put, List.setIfInBounds_toArray, List.set_cons_zero, List.set_cons_succ])
            refine wpAnyH_take (i := 5) (oi := { dst := some 6, op := Op.assign (Operand.tmp 52), type := 3, pos := "ref.go:64", after := #[{ on := 2, ground := Ground.data }, { on := 4, ground := Ground.chain }, { on := 0, ground := Ground.phase }, { on := 1, ground := Ground.phase }, { on := 2, ground := Ground.phase }, { on := 3, ground := Ground.phase }, { on := 4, ground := Ground.phase }], guard := none }) (v := ?_) rfl (by kernel_rfl) (by kernel_rfl) (by kernel_rfl) (fun _ _ _ h => h) (Or.inl ⟨by rfl, ?_⟩) (by assumption) ?_
            rotate_left
            · (intro w9 hS9; (try dsimp only at hS9); go_simp); all_goals (with_reducible rfl)
            (try simp only [Act.put, List.setIfInBounds_toArray, List.set_cons_zero, List.set_cons_succ])
            refine wpAnyH_take (i := 6) (oi := { dst := some 7, op := Op.assign (Operand.const (Value.int IntKind.i64 0)), type := 27, pos := "ref.go:64", after := #[{ on := 5, ground := Ground.chain }, { on := 0, ground := Ground.phase }, { on := 1, ground := Ground.phase }, { on := 2, ground := Ground.phase }, { on := 3, ground := Ground.phase }, { on := 4, ground := Ground.phase }, { on := 5, ground := Ground.phase }], guard := none }) (v := ?_) rfl (by kernel_rfl) (by kernel_rfl) (by kernel_rfl) (fun _ _ _ h => h) (Or.inl ⟨by rfl, ?_⟩) (by assumption) ?_
            rotate_left
            · (intro w9 hS9; (try dsimp only at hS9); go_simp); all_goals (with_reducible rfl)
            (try simp only [Act.put, List.setIfInBounds_toArray, List.set_cons_zero, List.set_cons_succ])
            refine wpAnyH_done (by kernel_rfl) (NoPanic.normal ?_) _
            go_wp2_with fail
            first
              | (have HZ := HP.out.fin1; obtain ⟨⟨z0, z1, z2, z3⟩, ⟨z4, z5, z6, z7⟩⟩ := (show (((wr.drew.setRow (w.heap.size + 1 + 1) #[.slice a1 0 c1, .slice a2 0 c2, .int .i64 (n : Int), .bool cl]).setRow (w.heap.size + 1 + 1 + 1) #[.slice a3 U2.length c3, .slice a4 N2.length c4, .int .i64 (m : Int), .bool false]).cell? ⟨w.heap.size + 1 + 1, 0, none⟩ = some (.slice a1 0 c1) ∧ ((wr.drew.setRow (w.heap.size + 1 + 1) #[.slice a1 0 c1, .slice a2 0 c2, .int .i64 (n : Int), .bool cl]).setRow (w.heap.size + 1 + 1 + 1) #[.slice a3 U2.length c3, .slice a4 N2.length c4, .int .i64 (m : Int), .bool false]).cell? ⟨w.heap.size + 1 + 1, 1, none⟩ = some (.slice a2 0 c2) ∧ ((wr.drew.setRow (w.heap.size + 1 + 1) #[.slice a1 0 c1, .slice a2 0 c2, .int .i64 (n : Int), .bool cl]).setRow (w.heap.size + 1 + 1 + 1) #[.slice a3 U2.length c3, .slice a4 N2.length c4, .int .i64 (m : Int), .bool false]).cell? ⟨w.heap.size + 1 + 1, 2, none⟩ = some (.int .i64 (n : Int)) ∧ ((wr.drew.setRow (w.heap.size + 1 + 1) #[.slice a1 0 c1, .slice a2 0 c2, .int .i64 (n : Int), .bool cl]).setRow (w.heap.size + 1 + 1 + 1) #[.slice a3 U2.length c3, .slice a4 N2.length c4, .int .i64 (m : Int), .bool false]).cell? ⟨w.heap.size + 1 + 1, 3, none⟩ = some (.bool cl)) ∧ (((wr.drew.setRow (w.heap.size + 1 + 1) #[.slice a1 0 c1, .slice a2 0 c2, .int .i64 (n : Int), .bool cl]).setRow (w.heap.size + 1 + 1 + 1) #[.slice a3 U2.length c3, .slice a4 N2.length c4, .int .i64 (m : Int), .bool false]).cell? ⟨w.heap.size + 1 + 1 + 1, 0, none⟩ = some (.slice a3 U2.length c3) ∧ ((wr.drew.setRow (w.heap.size + 1 + 1) #[.slice a1 0 c1, .slice a2 0 c2, .int .i64 (n : Int), .bool cl]).setRow (w.heap.size + 1 + 1 + 1) #[.slice a3 U2.length c3, .slice a4 N2.length c4, .int .i64 (m : Int), .bool false]).cell? ⟨w.heap.size + 1 + 1 + 1, 1, none⟩ = some (.slice a4 N2.length c4) ∧ ((wr.drew.setRow (w.heap.size + 1 + 1) #[.slice a1 0 c1, .slice a2 0 c2, .int .i64 (n : Int), .bool cl]).setRow (w.heap.size + 1 + 1 + 1) #[.slice a3 U2.length c3, .slice a4 N2.length c4, .int .i64 (m : Int), .bool false]).cell? ⟨w.heap.size + 1 + 1 + 1, 2, none⟩ = some (.int .i64 (m : Int)) ∧ ((wr.drew.setRow (w.heap.size + 1 + 1) #[.slice a1 0 c1, .slice a2 0 c2, .int .i64 (n : Int), .bool cl]).setRow (w.heap.size + 1 + 1 + 1) #[.slice a3 U2.length c3, .slice a4 N2.length c4, .int .i64 (m : Int), .bool false]).cell? ⟨w.heap.size + 1 + 1 + 1, 3, none⟩ = some (.bool false)) from ⟨HZ.cf, HZ.ct'⟩); exact bodyPost_ret (v := .tuple #[.agg #[.slice a1 0 c1, .slice a2 0 c2, .int .i64 (n : Int), .bool cl], .agg #[.slice a3 U2.length c3, .slice a4 N2.length c4, .int .i64 (m : Int), .bool false], .int .i64 (R.k : Int), .int .i64 0]) (by simp [results, Try.results21, go_sem, z0, z1, z2, z3, z4, z5, z6, z7]) rfl (by obtain ⟨q1, q2, q3, q4⟩ := HE.out; rw [← q1, ← q2, ← q3, ← q4]; exact ⟨_, _, rfl, HZ.f, HZ.t, HZ.below⟩))
              | (have HZ := HP.out.fin2; obtain ⟨⟨z0, z1, z2, z3⟩, ⟨z4, z5, z6, z7⟩⟩ := (show (((wr.drew.setRow (w.heap.size + 1 + 1 + 1) #[.slice a3 U2.length c3, .slice a4 N2.length c4, .int .i64 (m : Int), .bool false]).setRow (w.heap.size + 1 + 1) #[.slice a1 0 c1, .slice a2 0 c2, .int .i64 (n : Int), .bool cl]).cell? ⟨w.heap.size + 1 + 1, 0, none⟩ = some (.slice a1 0 c1) ∧ ((wr.drew.setRow (w.heap.size + 1 + 1 + 1) #[.slice a3 U2.length c3, .slice a4 N2.length c4, .int .i64 (m : Int), .bool false]).setRow (w.heap.size + 1 + 1) #[.slice a1 0 c1, .slice a2 0 c2, .int .i64 (n : Int), .bool cl]).cell? ⟨w.heap.size + 1 + 1, 1, none⟩ = some (.slice a2 0 c2) ∧ ((wr.drew.setRow (w.heap.size + 1 + 1 + 1) #[.slice a3 U2.length c3, .slice a4 N2.length c4, .int .i64 (m : Int), .bool false]).setRow (w.heap.size + 1 + 1) #[.slice a1 0 c1, .slice a2 0 c2, .int .i64 (n : Int), .bool cl]).cell? ⟨w.heap.size + 1 + 1, 2, none⟩ = some (.int .i64 (n : Int)) ∧ ((wr.drew.setRow (w.heap.size + 1 + 1 + 1) #[.slice a3 U2.length c3, .slice a4 N2.length c4, .int .i64 (m : Int), .bool false]).setRow (w.heap.size + 1 + 1) #[.slice a1 0 c1, .slice a2 0 c2, .int .i64 (n : Int), .bool cl]).cell? ⟨w.heap.size + 1 + 1, 3, none⟩ = some (.bool cl)) ∧ (((wr.drew.setRow (w.heap.size + 1 + 1 + 1) #[.slice a3 U2.length c3, .slice a4 N2.length c4, .int .i64 (m : Int), .bool false]).setRow (w.heap.size + 1 + 1) #[.slice a1 0 c1, .slice a2 0 c2, .int .i64 (n : Int), .bool cl]).cell? ⟨w.heap.size + 1 + 1 + 1, 0, none⟩ = some (.slice a3 U2.length c3) ∧ ((wr.drew.setRow (w.heap.size + 1 + 1 + 1) #[.slice a3 U2.length c3, .slice a4 N2.length c4, .int .i64 (m : Int), .bool false]).setRow (w.heap.size + 1 + 1) #[.slice a1 0 c1, .slice a2 0 c2, .int .i64 (n : Int), .bool cl]).cell? ⟨w.heap.size + 1 + 1 + 1, 1, none⟩ = some (.slice a4 N2.length c4) ∧ ((wr.drew.setRow (w.heap.size + 1 + 1 + 1) #[.slice a3 U2.length c3, .slice a4 N2.length c4, .int .i64 (m : Int), .bool false]).setRow (w.heap.size + 1 + 1) #[.slice a1 0 c1, .slice a2 0 c2, .int .i64 (n : Int), .bool cl]).cell? ⟨w.heap.size + 1 + 1 + 1, 2, none⟩ = some (.int .i64 (m : Int)) ∧ ((wr.drew.setRow (w.heap.size + 1 + 1 + 1) #[.slice a3 U2.length c3, .slice a4 N2.length c4, .int .i64 (m : Int), .bool false]).setRow (w.heap.size + 1 + 1) #[.slice a1 0 c1, .slice a2 0 c2, .int .i64 (n : Int), .bool cl]).cell? ⟨w.heap.size + 1 + 1 + 1, 3, none⟩ = some (.bool false)) from ⟨HZ.cf, HZ.ct'⟩); exact bodyPost_ret (v := .tuple #[.agg #[.slice a1 0 c1, .slice a2 0 c2, .int .i64 (n : Int), .bool cl], .agg #[.slice a3 U2.length c3, .slice a4 N2.length c4, .int .i64 (m : Int), .bool false], .int .i64 (R.k : Int), .int .i64 0]) (by simp [results, Try.results21, go_sem, z0, z1, z2, z3, z4, z5, z6, z7]) rfl (by obtain ⟨q1, q2, q3, q4⟩ := HE.out; rw [← q1, ← q2, ← q3, ← q4]; exact ⟨_, _, rfl, HZ.f, HZ.t, HZ.below⟩))
          exact AllReadyH.nil
        exact AllReadyH.nil
      · obtain ⟨x, N', rfl⟩ : ∃ x L, N = x :: L := by
          cases N with
          | nil => exact absurd rfl hN
          | cons x L => exact ⟨x, L, rfl⟩
        clear hN
        have hcs : (wr.cell? ⟨w.heap.size, 0, none⟩ = some (.slice a1 0 c1) ∧ wr.cell? ⟨w.heap.size, 1, none⟩ = some (.slice a2 (N'.length + 1) c2) ∧ wr.cell? ⟨w.heap.size, 2, none⟩ = some (.int .i64 (n : Int)) ∧ wr.cell? ⟨w.heap.size, 3, none⟩ = some (.bool cl)) ∧ (wr.cell? ⟨w.heap.size + 1, 0, none⟩ = some (.slice a3 U2.length c3) ∧ wr.cell? ⟨w.heap.size + 1, 1, none⟩ = some (.slice a4 N2.length c4) ∧ wr.cell? ⟨w.heap.size + 1, 2, none⟩ = some (.int .i64 (m : Int)) ∧ wr.cell? ⟨w.heap.size + 1, 3, none⟩ = some (.bool false)) := hP.cells
        obtain ⟨⟨f0, f1, f2, f3⟩, ⟨t0, t1, t2, t3⟩⟩ := hcs
        have d1 : decide (0 < (0 : Int)) = false := by simp
        have e0 : IntKind.i64.wrap ((N'.length : Int) + 1) = (N'.length : Int) + 1 := IntWalk.i64_in _ (by have := HB.out; simp at this; omega)
        have e0' : wrap64 ((N'.length : Int) + 1) = (N'.length : Int) + 1 := IntWalk.wrap64_in _ (by have := HB.out; simp at this; omega)
        have d0 : decide (0 < (N'.length : Int) + 1) = true := decide_eq_true (by omega)
        have c := refpop_any _ ([] : List Int) (x :: N') n cl wr (l ++ L4 w) hP.f
        rw [show popX ([] : List Int) (x :: N') = x from rfl, show popE ([] : List Int) (x :: N') cl = 0 from rfl, show ([] : List Int).tail = ([] : List Int) from rfl, show popN ([] : List Int) (x :: N') = N' from rfl] at c
        have C : Hid (Calls Try.prog 20 #[.agg #[.slice a1 0 c1, .slice a2 (N'.length + 1) c2, .int .i64 (n : Int), .bool cl]] wr fun e w' => ∃ v', e = .returned (.tuple #[v', .int .i64 x, .int .i64 0]) ∧ RefAt w' (l ++ L4 w) v' ([] : List Int) N' n cl ∧ Below wr.heap.size wr w') := c
        clear c
        by_cases hroom : N2.length < m
        · have HD : Hid (∀ W, PBox w W l a1 a2 a3 a4 c1 c2 c3 c4 n m cl false ([] : List Int) (x :: N') U2 N2 → Calls Try.prog 19 #[.agg #[.slice a3 U2.length c3, .slice a4 N2.length c4, .int .i64 (m : Int), .bool false], .int .i64 x, .bool false] W fun e w' => ∃ v', e = .returned (.tuple #[v', .int .i64 0]) ∧ RefAt w' (l ++ L4 w) v' U2 (N2 ++ [x]) m false ∧ Below W.heap.size W w') := fun W hW => by
            have c := refpush_any _ U2 N2 m false x false HM.out W (l ++ L4 w) hW.l4 hW.t
            rw [show pushE m U2 N2 false false = 0 by simp [pushE, hroom], show pushU m U2 false false x = U2 by simp [pushU, hroom], show pushN m N2 false false x = N2 ++ [x] by simp [pushN, hroom]] at c
            exact c
          have HS' : Hid (∃ P, pourU m N' (N2 ++ [x]) [] U2 = P ∧ P.U = R.U ∧ P.N = R.N ∧ P.U2 = R.U2 ∧ P.N2 = R.N2 ∧ k + 1 + P.k = R.k) := by
            rw [pourU, pourN, if_pos hroom] at hPe
            subst hPe
            exact ⟨_, rfl, p1, p2, p3, p4, by simp only at p5; rw [← p5, pourU]; omega⟩
          have HB' : Hid (([] : List Int).length + N'.length ≤ 512) := by show _ ≤ _; have := HB.out; simp at this ⊢; omega
          have hk : k < 512 := by have := HK.out; obtain ⟨P', -, -, -, -, -, e⟩ := HS'.out; omega
          have e9 : IntKind.i64.wrap ((k : Int) + 1) = ((k + 1 : Nat) : Int) := by rw [IntWalk.i64_in _ (by omega)]; omega
          have HK1 := Lib.hid hk
          obtain ⟨Q, hQ⟩ : ∃ Q, N2 ++ [x] = Q := ⟨_, rfl⟩
          rw [hQ] at HD HS'
          clear p1 p2 p3 p4 p5 hPe hP hroom hk hQ HB
          skip
          go_wp2_with (first
            | (go_at_call 20; (with_reducible refine C.out.mono ?_); rintro e w1 ⟨v1, rfl, hr, hb⟩
               obtain ⟨e1, g1, e2, g2, rfl, -, -⟩ := hr.form
               have HF1 := Lib.hid hr
               have HP1 := Lib.hid (HP.out.next hb)
               clear hr hb f0 f1 f2 f3 t0 t1 t2 t3 HP C)
            | (obtain ⟨w2, hw⟩ : ∃ w2, w1.alloc (.cells #[.slice e1 0 g1, .slice e2 N'.length g2, .int .i64 (n : Int), .bool cl] 39) = w2 := ⟨_, rfl⟩
               rewrite [hw]
               have hb : Below w1.heap.size w1 w2 := by rewrite [← hw]; exact (Below.refl _ _).alloc (Nat.le_refl _) _
               have HN2 : Hid (w2.heap[w1.heap.size]? = some (.cells #[.slice e1 0 g1, .slice e2 N'.length g2, .int .i64 (n : Int), .bool cl] 39 (0, 0))) := by rewrite [← hw]; exact heap_alloc_new _ _
               have HP2 := Lib.hid (HP1.out.next hb)
               have HF2 := Lib.hid (HF1.out.below hb)
               have HC2 : Hid (w.heap.size + 4 ≤ w1.heap.size) := by show _ ≤ _; have := lt_of_heap HP1.out.r5; omega
               generalize w1.heap.size = c10 at *
               obtain ⟨-, ⟨t0, t1, t2, t3⟩⟩ := HP2.out.cells
               clear hw hb HP1 HF1)
            | (go_at_call 19; (with_reducible refine (HD.out _ HP2.out).mono ?_); rintro e w3 ⟨v3, rfl, hr, hb⟩
               obtain ⟨e3, g3, e4, g4, rfl, -, -⟩ := hr.form
               have HT3 := Lib.hid hr
               have HF3 := Lib.hid (HF2.out.below hb)
               have HP3 := Lib.hid (HP2.out.next hb)
               have HN3 := Lib.hid (old_below hb HN2.out)
               clear hr hb t0 t1 t2 t3 HP2 HN2 HF2)
            | (obtain ⟨w4, hw⟩ : ∃ w4, w3.alloc (.cells #[.slice e3 U2.length g3, .slice e4 Q.length g4, .int .i64 (m : Int), .bool false] 39) = w4 := ⟨_, rfl⟩
               rewrite [hw]
               have hb : Below w3.heap.size w3 w4 := by rewrite [← hw]; exact (Below.refl _ _).alloc (Nat.le_refl _) _
               have HM4 : Hid (w4.heap[w3.heap.size]? = some (.cells #[.slice e3 U2.length g3, .slice e4 Q.length g4, .int .i64 (m : Int), .bool false] 39 (0, 0))) := by rewrite [← hw]; exact heap_alloc_new _ _
               have HP4 := Lib.hid (HP3.out.next hb)
               have HF4 := Lib.hid (HF3.out.below hb)
               have HT4 := Lib.hid (HT3.out.below hb)
               have HN4 := Lib.hid (old_below hb HN3.out)
               have HC4 : Hid (w.heap.size + 4 ≤ w3.heap.size) := by show _ ≤ _; have := lt_of_heap HP3.out.r5; omega
               generalize w3.heap.size = c13 at *
               obtain ⟨n0, n1, n2, n3⟩ := four_cells HN4.out
               clear hw hb HP3 HF3 HT3 HN3)
            | (refine wpList_store_row rfl 39 _ _ rfl w.heap.size #[.slice e1 0 g1, .slice e2 N'.length g2, .int .i64 (n : Int), .bool cl] rfl rfl 39 _ HP4.out.bf size39 rfl (one4 ..) ?_
               obtain ⟨w5, hw⟩ : ∃ w5, w4.setRow w.heap.size #[.slice e1 0 g1, .slice e2 N'.length g2, .int .i64 (n : Int), .bool cl] = w5 := ⟨_, rfl⟩
               rewrite [hw]
               have HM5 : Hid (w5.heap[c13]? = some (.cells #[.slice e3 U2.length g3, .slice e4 Q.length g4, .int .i64 (m : Int), .bool false] 39 (0, 0))) := by rewrite [← hw, setRow_other _ _ _ _ (by have := HC4.out; omega)]; exact HM4.out
               have HP5 : Hid (PBox w (w5.setRow (w.heap.size + 1) #[.slice e3 U2.length g3, .slice e4 Q.length g4, .int .i64 (m : Int), .bool false]) l e1 e2 e3 e4 g1 g2 g3 g4 n m cl false ([] : List Int) N' U2 Q) := by rewrite [← hw]; exact HP4.out.put HF4.out HT4.out
               have HX5 : Hid (w5.heap[w.heap.size + 1]? = some (.cells #[.slice a3 U2.length c3, .slice a4 N2.length c4, .int .i64 (m : Int), .bool false] 39 (0, 0))) := by rewrite [← hw, setRow_other _ _ _ _ (by omega)]; exact HP4.out.bt
               obtain ⟨m0, m1, m2, m3⟩ := four_cells HM5.out
               clear hw n0 n1 n2 n3 HP4 HF4 HT4 HN4 HM4)
            | (refine wpList_store_row rfl 39 _ _ rfl (w.heap.size + 1) #[.slice e3 U2.length g3, .slice e4 Q.length g4, .int .i64 (m : Int), .bool false] rfl rfl 39 _ HX5.out size39 rfl (one4 ..) ?_
               obtain ⟨w6, hw⟩ : ∃ w6, w5.setRow (w.heap.size + 1) #[.slice e3 U2.length g3, .slice e4 Q.length g4, .int .i64 (m : Int), .bool false] = w6 := ⟨_, rfl⟩
               rewrite [hw] at HP5 ⊢
               clear hw m0 m1 m2 m3))
          go_roundw
          case rel => exact ⟨k + 1, [], N', U2, Q, e1, e2, e3, e4, g1, g2, g3, g4, rfl, HB'.out, HP5.out, HS'.out⟩
          case measure => have := HK1.out; simp [intOf]; omega
        · have HD : Hid (∀ W, PBox w W l a1 a2 a3 a4 c1 c2 c3 c4 n m cl false ([] : List Int) (x :: N') U2 N2 → Calls Try.prog 19 #[.agg #[.slice a3 U2.length c3, .slice a4 N2.length c4, .int .i64 (m : Int), .bool false], .int .i64 x, .bool false] W fun e w' => ∃ v', e = .returned (.tuple #[v', .int .i64 5]) ∧ RefAt w' (l ++ L4 w) v' U2 N2 m false ∧ Below W.heap.size W w') := fun W hW => by
            have c := refpush_any _ U2 N2 m false x false HM.out W (l ++ L4 w) hW.l4 hW.t
            rw [show pushE m U2 N2 false false = 5 by simp [pushE, hroom], show pushU m U2 false false x = U2 by simp [pushU, hroom], show pushN m N2 false false x = N2 by simp [pushN, hroom]] at c
            exact c
          obtain rfl : P = ⟨[], x :: N', U2, N2, 0⟩ := by rw [← hPe]; rw [pourU, pourN, if_neg hroom]
          have e1' : k = R.k := by simpa using p5
          have HE : Hid (([] : List Int) = R.U ∧ (x :: N') = R.N ∧ U2 = R.U2 ∧ N2 = R.N2) := ⟨p1, p2, p3, p4⟩
          clear p1 p2 p3 p4 p5 hPe hP hroom HB
          subst e1'
          skip
          go_wp2_with (first
            | (go_at_call 20; (with_reducible refine C.out.mono ?_); rintro e w1 ⟨v1, rfl, hr, hb⟩
               obtain ⟨e1, g1, e2, g2, rfl, -, -⟩ := hr.form
               have HP1 := Lib.hid (HP.out.next hb)
               clear hr hb f0 f1 f2 f3 t0 t1 t2 t3 HP C)
            | (obtain ⟨w2, hw⟩ : ∃ w2, w1.alloc (.cells #[.slice e1 0 g1, .slice e2 N'.length g2, .int .i64 (n : Int), .bool cl] 39) = w2 := ⟨_, rfl⟩
               rewrite [hw]
               have hb : Below w1.heap.size w1 w2 := by rewrite [← hw]; exact (Below.refl _ _).alloc (Nat.le_refl _) _
               have HP2 := Lib.hid (HP1.out.next hb)
               generalize w1.heap.size = c10 at *
               obtain ⟨-, ⟨t0, t1, t2, t3⟩⟩ := HP2.out.cells
               clear hw hb HP1)
            | (go_at_call 19; (with_reducible refine (HD.out _ HP2.out).mono ?_); rintro e w3 ⟨v3, rfl, hr, hb⟩
               obtain ⟨e3, g3, e4, g4, rfl, -, -⟩ := hr.form
               have HP3 := Lib.hid (HP2.out.next hb)
               clear hr hb t0 t1 t2 t3 HP2)
            | (obtain ⟨w4, hw⟩ : ∃ w4, w3.alloc (.cells #[.slice e3 U2.length g3, .slice e4 N2.length g4, .int .i64 (m : Int), .bool false] 39) = w4 := ⟨_, rfl⟩
               rewrite [hw]
               have hb : Below w3.heap.size w3 w4 := by rewrite [← hw]; exact (Below.refl _ _).alloc (Nat.le_refl _) _
               have HP4 := Lib.hid (HP3.out.next hb)
               generalize w3.heap.size = c13 at *
               clear hw hb HP3))
          have HS : Hid (∀ W : World, W.heap[w.heap.size]? = w4.heap[w.heap.size]? → W.heap[w.heap.size + 1]? = w4.heap[w.heap.size + 1]? → (W.cell? ⟨w.heap.size, 0, none⟩ = some (.slice a1 0 c1) ∧ W.cell? ⟨w.heap.size, 1, none⟩ = some (.slice a2 (N'.length + 1) c2) ∧ W.cell? ⟨w.heap.size, 2, none⟩ = some (.int .i64 (n : Int)) ∧ W.cell? ⟨w.heap.size, 3, none⟩ = some (.bool cl)) ∧ (W.cell? ⟨w.heap.size + 1, 0, none⟩ = some (.slice a3 U2.length c3) ∧ W.cell? ⟨w.heap.size + 1, 1, none⟩ = some (.slice a4 N2.length c4) ∧ W.cell? ⟨w.heap.size + 1, 2, none⟩ = some (.int .i64 (m : Int)) ∧ W.cell? ⟨w.heap.size + 1, 3, none⟩ = some (.bool false))) := fun W h1 h2 => ⟨⟨by rw [cell_of_row _ _ _ _ _ _ (h1.trans HP4.out.bf)]; rfl, by rw [cell_of_row _ _ _ _ _ _ (h1.trans HP4.out.bf)]; rfl, by rw [cell_of_row _ _ _ _ _ _ (h1.trans HP4.out.bf)]; rfl, by rw [cell_of_row _ _ _ _ _ _ (h1.trans HP4.out.bf)]; rfl⟩, ⟨by rw [cell_of_row _ _ _ _ _ _ (h2.trans HP4.out.bt)]; rfl, by rw [cell_of_row _ _ _ _ _ _ (h2.trans HP4.out.bt)]; rfl, by rw [cell_of_row _ _ _ _ _ _ (h2.trans HP4.out.bt)]; rfl, by rw [cell_of_row _ _ _ _ _ _ (h2.trans HP4.out.bt)]; rfl⟩⟩
          refine wp_region_noPanic ?_
          refine wp_region_held_drew (S := fun W : World => (W.cell? ⟨w.heap.size, 0, none⟩ = some (.slice a1 0 c1) ∧ W.cell? ⟨w.heap.size, 1, none⟩ = some (.slice a2 (N'.length + 1) c2) ∧ W.cell? ⟨w.heap.size, 2, none⟩ = some (.int .i64 (n : Int)) ∧ W.cell? ⟨w.heap.size, 3, none⟩ = some (.bool cl)) ∧ (W.cell? ⟨w.heap.size + 1, 0, none⟩ = some (.slice a3 U2.length c3) ∧ W.cell? ⟨w.heap.size + 1, 1, none⟩ = some (.slice a4 N2.length c4) ∧ W.cell? ⟨w.heap.size + 1, 2, none⟩ = some (.int .i64 (m : Int)) ∧ W.cell? ⟨w.heap.size + 1, 3, none⟩ = some (.bool false))) (by kernel_rfl) ?_ (fun hHeld => ?_)
          · exact HS.out _ rfl rfl
          refine wpAnyH_take (i := 0) (oi := { dst := some 50, op := Op.load 39 (Operand.tmp 2), type := 39, pos := "ref.go:64", after := #[], guard := none }) (v := ?_) rfl (by kernel_rfl) (by kernel_rfl) (by kernel_rfl) (fun _ _ _ h => h) (Or.inl ⟨by rfl, ?_⟩) (by assumption) ?_
          rotate_left
          · (intro w9 hS9; (try dsimp only at hS9); go_simp); all_goals (with_reducible rfl)
          (try simp only [Act.put, List.setIfInBounds_toArray, List.set_cons_zero, List.set_cons_succ])
          refine wpAnyH_take (i := 1) (oi := { dst := some 51, op := Op.load 39 (Operand.tmp 3), type := 39, pos := "ref.go:64", after := #[{ on := 3, ground := Ground.gcOnly Departure.lateStores }], guard := none }) (v := ?_) rfl (by kernel_rfl) (by kernel_rfl) (by kernel_rfl) (fun _ _ _ h => h) (Or.inl ⟨by rfl, ?_⟩) (by assumption) ?_
          rotate_left
          · (intro w9 hS9; (try dsimp only at hS9); go_simp); all_goals (with_reducible rfl)
          (try simp only [Act.put, List.setIfInBounds_toArray, List.set_cons_zero, List.set_cons_succ])
          refine wpAnyH_take (i := 2) (oi := { dst := some 52, op := Op.move (Operand.tmp 8), type := 3, pos := "ref.go:64", after := #[{ on := 4, ground := Ground.gcOnly Departure.lateStores }], guard := none }) (v := ?_) rfl (by kernel_rfl) (by kernel_rfl) (by kernel_rfl) (fun _ _ _ h => h) (Or.inl ⟨by rfl, ?_⟩) (by assumption) ?_
          rotate_left
          · (intro w9 hS9; (try dsimp only at hS9); go_simp); all_goals (with_reducible rfl)
          (try simp only [Act.put, List.setIfInBounds_toArray, List.set_cons_zero, List.set_cons_succ])
          refine wpAnyH_ready (rs := [3]) (by kernel_rfl) (by simp) ?_
          refine AllReadyH.cons (o := { dst := none, op := Op.store 39 (Operand.tmp 4) (Operand.tmp 50), type := 0, pos := "ref.go:64", after := #[{ on := 0, ground := Ground.data }, { on := 0, ground := Ground.phase }, { on := 1, ground := Ground.textOnly Departure.lateStores }, { on := 2, ground := Ground.textOnly Departure.lateStores }], guard := none }) rfl (fun K hK => ?_) ?_
          · rw [if_pos (by rfl)]
            refine wp_store_row 39 _ _ rfl _ _ rfl rfl 39 z39 ?_ size39 rfl (one4 ..) ?_
            · (first | exact HP4.out.r4 | (rw [setRow_other _ _ _ _ (by omega)]; exact HP4.out.r4))
            (try go_wp2_with fail)
            refine hK.out _ _ ?_ (fun hHeld => ?_)
            · exact HS.out _ (by repeat' first | rfl | (rw [setRow_other _ _ _ _ (by omega)])) (by repeat' first | rfl | (rw [setRow_other _ _ _ _ (by omega)]))
            clear hK K
            (try simp only [Act.put, List.setIfInBounds_toArray, List.set_cons_zero, List.set_cons_succ])
            refine wpAnyH_ready (rs := [4]) (by kernel_rfl) (by simp) ?_
            refine AllReadyH.cons (o := { dst := none, op := Op.store 39 (Operand.tmp 5) (Operand.tmp 51), type := 0, pos := "ref.go:64", after := #[{ on := 1, ground := Ground.data }, { on := 3, ground := Ground.chain }, { on := 0, ground := Ground.phase }, { on := 1, ground := Ground.phase }, { on := 2, ground := Ground.textOnly Departure.lateStores }, { on := 3, ground := Ground.phase }], guard := none }) rfl (fun K hK => ?_) ?_
            · rw [if_pos (by rfl)]
              refine wp_store_row 39 _ _ rfl _ _ rfl rfl 39 z39 ?_ size39 rfl (one4 ..) ?_
              · (first | exact HP4.out.r5 | (rw [setRow_other _ _ _ _ (by omega)]; exact HP4.out.r5))
              (try go_wp2_with fail)
              refine hK.out _ _ ?_ (fun hHeld => ?_)
              · exact HS.out _ (by repeat' first | rfl | (rw [setRow_other _ _ _ _ (by omega)])) (by repeat' first | rfl | (rw [setRow_other _ _ _ _ (by omega)]))
              clear hK K
              (try simp only [Act.put, List.setIfInBounds_toArray, List.set_cons_zero, List.set_cons_succ])
              refine wpAnyH_take (i := 5) (oi := { dst := some 6, op := Op.assign (Operand.tmp 52), type := 3, pos := "ref.go:64", after := #[{ on := 2, ground := Ground.data }, { on := 4, ground := Ground.chain }, { on := 0, ground := Ground.phase }, { on := 1, ground := Ground.phase }, { on := 2, ground := Ground.phase }, { on := 3, ground := Ground.phase }, { on := 4, ground := Ground.phase }], guard := none }) (v := ?_) rfl (by kernel_rfl) (by kernel_rfl) (by kernel_rfl) (fun _ _ _ h => h) (Or.inl ⟨by rfl, ?_⟩) (by assumption) ?_
              rotate_left
              · (intro w9 hS9; (try dsimp only at hS9); go_simp); all_goals (with_reducible rfl)
              (try simp only [Act.put, List.setIfInBounds_toArray, List.set_cons_zero, List.set_cons_succ])
              refine wpAnyH_take (i := 6) (oi := { dst := some 7, op := Op.assign (Operand.const (Value.int IntKind.i64 0)), type := 27, pos := "ref.go:64", after := #[{ on := 5, ground := Ground.chain }, { on := 0, ground := Ground.phase }, { on := 1, ground := Ground.phase }, { on := 2, ground := Ground.phase }, { on := 3, ground := Ground.phase }, { on := 4, ground := Ground.phase }, { on := 5, ground := Ground.phase }], guard := none }) (v := ?_) rfl (by kernel_rfl) (by kernel_rfl) (by kernel_rfl) (fun _ _ _ h => h) (Or.inl ⟨by rfl, ?_⟩) (by assumption) ?_
              rotate_left
              · (intro w9 hS9; (try dsimp only at hS9); go_simp); all_goals (with_reducible rfl)
              (try simp only [Act.put, List.setIfInBounds_toArray, List.set_cons_zero, List.set_cons_succ])
              refine wpAnyH_done (by kernel_rfl) (NoPanic.normal ?_) _
              go_wp2_with fail
              first
                | (have HZ := HP4.out.fin1; obtain ⟨⟨z0, z1, z2, z3⟩, ⟨z4, z5, z6, z7⟩⟩ := (show (((w4.drew.setRow (w.heap.size + 1 + 1) #[.slice a1 0 c1, .slice a2 (N'.length + 1) c2, .int .i64 (n : Int), .bool cl]).setRow (w.heap.size + 1 + 1 + 1) #[.slice a3 U2.length c3, .slice a4 N2.length c4, .int .i64 (m : Int), .bool false]).cell? ⟨w.heap.size + 1 + 1, 0, none⟩ = some (.slice a1 0 c1) ∧ ((w4.drew.setRow (w.heap.size + 1 + 1) #[.slice a1 0 c1, .slice a2 (N'.length + 1) c2, .int .i64 (n : Int), .bool cl]).setRow (w.heap.size + 1 + 1 + 1) #[.slice a3 U2.length c3, .slice a4 N2.length c4, .int .i64 (m : Int), .bool false]).cell? ⟨w.heap.size + 1 + 1, 1, none⟩ = some (.slice a2 (N'.length + 1) c2) ∧ ((w4.drew.setRow (w.heap.size + 1 + 1) #[.slice a1 0 c1, .slice a2 (N'.length + 1) c2, .int .i64 (n : Int), .bool cl]).setRow (w.heap.size + 1 + 1 + 1) #[.slice a3 U2.length c3, .slice a4 N2.length c4, .int .i64 (m : Int), .bool false]).cell? ⟨w.heap.size + 1 + 1, 2, none⟩ = some (.int .i64 (n : Int)) ∧ ((w4.drew.setRow (w.heap.size + 1 + 1) #[.slice a1 0 c1, .slice a2 (N'.length + 1) c2, .int .i64 (n : Int), .bool cl]).setRow (w.heap.size + 1 + 1 + 1) #[.slice a3 U2.length c3, .slice a4 N2.length c4, .int .i64 (m : Int), .bool false]).cell? ⟨w.heap.size + 1 + 1, 3, none⟩ = some (.bool cl)) ∧ (((w4.drew.setRow (w.heap.size + 1 + 1) #[.slice a1 0 c1, .slice a2 (N'.length + 1) c2, .int .i64 (n : Int), .bool cl]).setRow (w.heap.size + 1 + 1 + 1) #[.slice a3 U2.length c3, .slice a4 N2.length c4, .int .i64 (m : Int), .bool false]).cell? ⟨w.heap.size + 1 + 1 + 1, 0, none⟩ = some (.slice a3 U2.length c3) ∧ ((w4.drew.setRow (w.heap.size + 1 + 1) #[.slice a1 0 c1, .slice a2 (N'.length + 1) c2, .int .i64 (n : Int), .bool cl]).setRow (w.heap.size + 1 + 1 + 1) #[.slice a3 U2.length c3, .slice a4 N2.length c4, .int .i64 (m : Int), .bool false]).cell? ⟨w.heap.size + 1 + 1 + 1, 1, none⟩ = some (.slice a4 N2.length c4) ∧ ((w4.drew.setRow (w.heap.size + 1 + 1) #[.slice a1 0 c1, .slice a2 (N'.length + 1) c2, .int .i64 (n : Int), .bool cl]).setRow (w.heap.size + 1 + 1 + 1) #[.slice a3 U2.length c3, .slice a4 N2.length c4, .int .i64 (m : Int), .bool false]).cell? ⟨w.heap.size + 1 + 1 + 1, 2, none⟩ = some (.int .i64 (m : Int)) ∧ ((w4.drew.setRow (w.heap.size + 1 + 1) #[.slice a1 0 c1, .slice a2 (N'.length + 1) c2, .int .i64 (n : Int), .bool cl]).setRow (w.heap.size + 1 + 1 + 1) #[.slice a3 U2.length c3, .slice a4 N2.length c4, .int .i64 (m : Int), .bool false]).cell? ⟨w.heap.size + 1 + 1 + 1, 3, none⟩ = some (.bool false)) from ⟨HZ.cf, HZ.ct'⟩); exact bodyPost_ret (v := .tuple #[.agg #[.slice a1 0 c1, .slice a2 (N'.length + 1) c2, .int .i64 (n : Int), .bool cl], .agg #[.slice a3 U2.length c3, .slice a4 N2.length c4, .int .i64 (m : Int), .bool false], .int .i64 (R.k : Int), .int .i64 0]) (by simp [results, Try.results21, go_sem, z0, z1, z2, z3, z4, z5, z6, z7]) rfl (by obtain ⟨q1, q2, q3, q4⟩ := HE.out; rw [← q1, ← q2, ← q3, ← q4]; exact ⟨_, _, rfl, HZ.f, HZ.t, HZ.below⟩))
                | (have HZ := HP4.out.fin2; obtain ⟨⟨z0, z1, z2, z3⟩, ⟨z4, z5, z6, z7⟩⟩ := (show (((w4.drew.setRow (w.heap.size + 1 + 1 + 1) #[.slice a3 U2.length c3, .slice a4 N2.length c4, .int .i64 (m : Int), .bool false]).setRow (w.heap.size + 1 + 1) #[.slice a1 0 c1, .slice a2 (N'.length + 1) c2, .int .i64 (n : Int), .bool cl]).cell? ⟨w.heap.size + 1 + 1, 0, none⟩ = some (.slice a1 0 c1) ∧ ((w4.drew.setRow (w.heap.size + 1 + 1 + 1) #[.slice a3 U2.length c3, .slice a4 N2.length c4, .int .i64 (m : Int), .bool false]).setRow (w.heap.size + 1 + 1) #[.slice a1 0 c1, .slice a2 (N'.length + 1) c2, .int .i64 (n : Int), .bool cl]).cell? ⟨w.heap.size + 1 + 1, 1, none⟩ = some (.slice a2 (N'.length + 1) c2) ∧ ((w4.drew.setRow (w.heap.size + 1 + 1 + 1) #[.slice a3 U2.length c3, .slice a4 N2.length c4, .int .i64 (m : Int), .bool false]).setRow (w.heap.size + 1 + 1) #[.slice a1 0 c1, .slice a2 (N'.length + 1) c2, .int .i64 (n : Int), .bool cl]).cell? ⟨w.heap.size + 1 + 1, 2, none⟩ = some (.int .i64 (n : Int)) ∧ ((w4.drew.setRow (w.heap.size + 1 + 1 + 1) #[.slice a3 U2.length c3, .slice a4 N2.length c4, .int .i64 (m : Int), .bool false]).setRow (w.heap.size + 1 + 1) #[.slice a1 0 c1, .slice a2 (N'.length + 1) c2, .int .i64 (n : Int), .bool cl]).cell? ⟨w.heap.size + 1 + 1, 3, none⟩ = some (.bool cl)) ∧ (((w4.drew.setRow (w.heap.size + 1 + 1 + 1) #[.slice a3 U2.length c3, .slice a4 N2.length c4, .int .i64 (m : Int), .bool false]).setRow (w.heap.size + 1 + 1) #[.slice a1 0 c1, .slice a2 (N'.length + 1) c2, .int .i64 (n : Int), .bool cl]).cell? ⟨w.heap.size + 1 + 1 + 1, 0, none⟩ = some (.slice a3 U2.length c3) ∧ ((w4.drew.setRow (w.heap.size + 1 + 1 + 1) #[.slice a3 U2.length c3, .slice a4 N2.length c4, .int .i64 (m : Int), .bool false]).setRow (w.heap.size + 1 + 1) #[.slice a1 0 c1, .slice a2 (N'.length + 1) c2, .int .i64 (n : Int), .bool cl]).cell? ⟨w.heap.size + 1 + 1 + 1, 1, none⟩ = some (.slice a4 N2.length c4) ∧ ((w4.drew.setRow (w.heap.size + 1 + 1 + 1) #[.slice a3 U2.length c3, .slice a4 N2.length c4, .int .i64 (m : Int), .bool false]).setRow (w.heap.size + 1 + 1) #[.slice a1 0 c1, .slice a2 (N'.length + 1) c2, .int .i64 (n : Int), .bool cl]).cell? ⟨w.heap.size + 1 + 1 + 1, 2, none⟩ = some (.int .i64 (m : Int)) ∧ ((w4.drew.setRow (w.heap.size + 1 + 1 + 1) #[.slice a3 U2.length c3, .slice a4 N2.length c4, .int .i64 (m : Int), .bool false]).setRow (w.heap.size + 1 + 1) #[.slice a1 0 c1, .slice a2 (N'.length + 1) c2, .int .i64 (n : Int), .bool cl]).cell? ⟨w.heap.size + 1 + 1 + 1, 3, none⟩ = some (.bool false)) from ⟨HZ.cf, HZ.ct'⟩); exact bodyPost_ret (v := .tuple #[.agg #[.slice a1 0 c1, .slice a2 (N'.length + 1) c2, .int .i64 (n : Int), .bool cl], .agg #[.slice a3 U2.length c3, .slice a4 N2.length c4, .int .i64 (m : Int), .bool false], .int .i64 (R.k : Int), .int .i64 0]) (by simp [results, Try.results21, go_sem, z0, z1, z2, z3, z4, z5, z6, z7]) rfl (by obtain ⟨q1, q2, q3, q4⟩ := HE.out; rw [← q1, ← q2, ← q3, ← q4]; exact ⟨_, _, rfl, HZ.f, HZ.t, HZ.below⟩))
            exact AllReadyH.nil
          exact AllReadyH.nil
    · obtain ⟨x, U', rfl⟩ : ∃ x L, U = x :: L := by
        cases U with
        | nil => exact absurd rfl hU
        | cons x L => exact ⟨x, L, rfl⟩
      clear hU
      have hcs : (wr.cell? ⟨w.heap.size, 0, none⟩ = some (.slice a1 (U'.length + 1) c1) ∧ wr.cell? ⟨w.heap.size, 1, none⟩ = some (.slice a2 N.length c2) ∧ wr.cell? ⟨w.heap.size, 2, none⟩ = some (.int .i64 (n : Int)) ∧ wr.cell? ⟨w.heap.size, 3, none⟩ = some (.bool cl)) ∧ (wr.cell? ⟨w.heap.size + 1, 0, none⟩ = some (.slice a3 U2.length c3) ∧ wr.cell? ⟨w.heap.size + 1, 1, none⟩ = some (.slice a4 N2.length c4) ∧ wr.cell? ⟨w.heap.size + 1, 2, none⟩ = some (.int .i64 (m : Int)) ∧ wr.cell? ⟨w.heap.size + 1, 3, none⟩ = some (.bool false)) := hP.cells
      obtain ⟨⟨f0, f1, f2, f3⟩, ⟨t0, t1, t2, t3⟩⟩ := hcs
      have d1 : decide (0 < (U'.length : Int) + 1) = true := decide_eq_true (by omega)
      have e0 : IntKind.i64.wrap ((U'.length : Int) + 1 + (N.length : Int)) = (U'.length : Int) + 1 + (N.length : Int) := IntWalk.i64_in _ (by have := HB.out; simp at this; omega)
      have e0' : wrap64 ((U'.length : Int) + 1 + (N.length : Int)) = (U'.length : Int) + 1 + (N.length : Int) := IntWalk.wrap64_in _ (by have := HB.out; simp at this; omega)
      have d0 : decide (0 < (U'.length : Int) + 1 + (N.length : Int)) = true := decide_eq_true (by omega)
      have c := refpop_any _ (x :: U') N n cl wr (l ++ L4 w) hP.f
      rw [show popX (x :: U') N = x from rfl, show popE (x :: U') N cl = 0 from rfl, show (x :: U').tail = U' from rfl, show popN (x :: U') N = N from rfl] at c
      have C : Hid (Calls Try.prog 20 #[.agg #[.slice a1 (U'.length + 1) c1, .slice a2 N.length c2, .int .i64 (n : Int), .bool cl]] wr fun e w' => ∃ v', e = .returned (.tuple #[v', .int .i64 x, .int .i64 0]) ∧ RefAt w' (l ++ L4 w) v' U' N n cl ∧ Below wr.heap.size wr w') := c
      clear c
      by_cases hroom : U2.length < m
      · have HD : Hid (∀ W, PBox w W l a1 a2 a3 a4 c1 c2 c3 c4 n m cl false (x :: U') N U2 N2 → Calls Try.prog 19 #[.agg #[.slice a3 U2.length c3, .slice a4 N2.length c4, .int .i64 (m : Int), .bool false], .int .i64 x, .bool true] W fun e w' => ∃ v', e = .returned (.tuple #[v', .int .i64 0]) ∧ RefAt w' (l ++ L4 w) v' (U2 ++ [x]) N2 m false ∧ Below W.heap.size W w') := fun W hW => by
          have c := refpush_any _ U2 N2 m false x true HM.out W (l ++ L4 w) hW.l4 hW.t
          rw [show pushE m U2 N2 false true = 0 by simp [pushE, hroom], show pushU m U2 false true x = U2 ++ [x] by simp [pushU, hroom], show pushN m N2 false true x = N2 by simp [pushN, hroom]] at c
          exact c
        have HS' : Hid (∃ P, pourU m N N2 U' (U2 ++ [x]) = P ∧ P.U = R.U ∧ P.N = R.N ∧ P.U2 = R.U2 ∧ P.N2 = R.N2 ∧ k + 1 + P.k = R.k) := by
          rw [pourU, if_pos hroom] at hPe
          subst hPe
          exact ⟨_, rfl, p1, p2, p3, p4, by simp only at p5; rw [← p5]; omega⟩
        have HB' : Hid (U'.length + N.length ≤ 512) := by show _ ≤ _; have := HB.out; simp at this ⊢; omega
        have hk : k < 512 := by have := HK.out; obtain ⟨P', -, -, -, -, -, e⟩ := HS'.out; omega
        have e9 : IntKind.i64.wrap ((k : Int) + 1) = ((k + 1 : Nat) : Int) := by rw [IntWalk.i64_in _ (by omega)]; omega
        have HK1 := Lib.hid hk
        obtain ⟨Q, hQ⟩ : ∃ Q, U2 ++ [x] = Q := ⟨_, rfl⟩
        rw [hQ] at HD HS'
        clear p1 p2 p3 p4 p5 hPe hP hroom hk hQ HB
        skip
        go_wp2_with (first
          | (go_at_call 20; (with_reducible refine C.out.mono ?_); rintro e w1 ⟨v1, rfl, hr, hb⟩
             obtain ⟨e1, g1, e2, g2, rfl, -, -⟩ := hr.form
             have HF1 := Lib.hid hr
             have HP1 := Lib.hid (HP.out.next hb)
             clear hr hb f0 f1 f2 f3 t0 t1 t2 t3 HP C)
          | (obtain ⟨w2, hw⟩ : ∃ w2, w1.alloc (.cells #[.slice e1 U'.length g1, .slice e2 N.length g2, .int .i64 (n : Int), .bool cl] 39) = w2 := ⟨_, rfl⟩
             rewrite [hw]
             have hb : Below w1.heap.size w1 w2 := by rewrite [← hw]; exact (Below.refl _ _).alloc (Nat.le_refl _) _
             have HN2 : Hid (w2.heap[w1.heap.size]? = some (.cells #[.slice e1 U'.length g1, .slice e2 N.length g2, .int .i64 (n : Int), .bool cl] 39 (0, 0))) := by rewrite [← hw]; exact heap_alloc_new _ _
             have HP2 := Lib.hid (HP1.out.next hb)
             have HF2 := Lib.hid (HF1.out.below hb)
             have HC2 : Hid (w.heap.size + 4 ≤ w1.heap.size) := by show _ ≤ _; have := lt_of_heap HP1.out.r5; omega
             generalize w1.heap.size = c10 at *
             obtain ⟨-, ⟨t0, t1, t2, t3⟩⟩ := HP2.out.cells
             clear hw hb HP1 HF1)
          | (go_at_call 19; (with_reducible refine (HD.out _ HP2.out).mono ?_); rintro e w3 ⟨v3, rfl, hr, hb⟩
             obtain ⟨e3, g3, e4, g4, rfl, -, -⟩ := hr.form
             have HT3 := Lib.hid hr
             have HF3 := Lib.hid (HF2.out.below hb)
             have HP3 := Lib.hid (HP2.out.next hb)
             have HN3 := Lib.hid (old_below hb HN2.out)
             clear hr hb t0 t1 t2 t3 HP2 HN2 HF2)
          | (obtain ⟨w4, hw⟩ : ∃ w4, w3.alloc (.cells #[.slice e3 Q.length g3, .slice e4 N2.length g4, .int .i64 (m : Int), .bool false] 39) = w4 := ⟨_, rfl⟩
             rewrite [hw]
             have hb : Below w3.heap.size w3 w4 := by rewrite [← hw]; exact (Below.refl _ _).alloc (Nat.le_refl _) _
             have HM4 : Hid (w4.heap[w3.heap.size]? = some (.cells #[.slice e3 Q.length g3, .slice e4 N2.length g4, .int .i64 (m : Int), .bool false] 39 (0, 0))) := by rewrite [← hw]; exact heap_alloc_new _ _
             have HP4 := Lib.hid (HP3.out.next hb)
             have HF4 := Lib.hid (HF3.out.below hb)
             have HT4 := Lib.hid (HT3.out.below hb)
             have HN4 := Lib.hid (old_below hb HN3.out)
             have HC4 : Hid (w.heap.size + 4 ≤ w3.heap.size) := by show _ ≤ _; have := lt_of_heap HP3.out.r5; omega
             generalize w3.heap.size = c13 at *
             obtain ⟨n0, n1, n2, n3⟩ := four_cells HN4.out
             clear hw hb HP3 HF3 HT3 HN3)
          | (refine wpList_store_row rfl 39 _ _ rfl w.heap.size #[.slice e1 U'.length g1, .slice e2 N.length g2, .int .i64 (n : Int), .bool cl] rfl rfl 39 _ HP4.out.bf size39 rfl (one4 ..) ?_
             obtain ⟨w5, hw⟩ : ∃ w5, w4.setRow w.heap.size #[.slice e1 U'.length g1, .slice e2 N.length g2, .int .i64 (n : Int), .bool cl] = w5 := ⟨_, rfl⟩
             rewrite [hw]
             have HM5 : Hid (w5.heap[c13]? = some (.cells #[.slice e3 Q.length g3, .slice e4 N2.length g4, .int .i64 (m : Int), .bool false] 39 (0, 0))) := by rewrite [← hw, setRow_other _ _ _ _ (by have := HC4.out; omega)]; exact HM4.out
             have HP5 : Hid (PBox w (w5.setRow (w.heap.size + 1) #[.slice e3 Q.length g3, .slice e4 N2.length g4, .int .i64 (m : Int), .bool false]) l e1 e2 e3 e4 g1 g2 g3 g4 n m cl false U' N Q N2) := by rewrite [← hw]; exact HP4.out.put HF4.out HT4.out
             have HX5 : Hid (w5.heap[w.heap.size + 1]? = some (.cells #[.slice a3 U2.length c3, .slice a4 N2.length c4, .int .i64 (m : Int), .bool false] 39 (0, 0))) := by rewrite [← hw, setRow_other _ _ _ _ (by omega)]; exact HP4.out.bt
             obtain ⟨m0, m1, m2, m3⟩ := four_cells HM5.out
             clear hw n0 n1 n2 n3 HP4 HF4 HT4 HN4 HM4)
          | (refine wpList_store_row rfl 39 _ _ rfl (w.heap.size + 1) #[.slice e3 Q.length g3, .slice e4 N2.length g4, .int .i64 (m : Int), .bool false] rfl rfl 39 _ HX5.out size39 rfl (one4 ..) ?_
             obtain ⟨w6, hw⟩ : ∃ w6, w5.setRow (w.heap.size + 1) #[.slice e3 Q.length g3, .slice e4 N2.length g4, .int .i64 (m : Int), .bool false] = w6 := ⟨_, rfl⟩
             rewrite [hw] at HP5 ⊢
             clear hw m0 m1 m2 m3))
        go_roundw
        case rel => exact ⟨k + 1, U', N, Q, N2, e1, e2, e3, e4, g1, g2, g3, g4, rfl, HB'.out, HP5.out, HS'.out⟩
        case measure => have := HK1.out; simp [intOf]; omega
      · have HD : Hid (∀ W, PBox w W l a1 a2 a3 a4 c1 c2 c3 c4 n m cl false (x :: U') N U2 N2 → Calls Try.prog 19 #[.agg #[.slice a3 U2.length c3, .slice a4 N2.length c4, .int .i64 (m : Int), .bool false], .int .i64 x, .bool true] W fun e w' => ∃ v', e = .returned (.tuple #[v', .int .i64 5]) ∧ RefAt w' (l ++ L4 w) v' U2 N2 m false ∧ Below W.heap.size W w') := fun W hW => by
          have c := refpush_any _ U2 N2 m false x true HM.out W (l ++ L4 w) hW.l4 hW.t
          rw [show pushE m U2 N2 false true = 5 by simp [pushE, hroom], show pushU m U2 false true x = U2 by simp [pushU, hroom], show pushN m N2 false true x = N2 by simp [pushN, hroom]] at c
          exact c
        obtain rfl : P = ⟨x :: U', N, U2, N2, 0⟩ := by rw [← hPe]; rw [pourU, if_neg hroom]
        have e1' : k = R.k := by simpa using p5
        have HE : Hid ((x :: U') = R.U ∧ N = R.N ∧ U2 = R.U2 ∧ N2 = R.N2) := ⟨p1, p2, p3, p4⟩
        clear p1 p2 p3 p4 p5 hPe hP hroom HB
        subst e1'
        skip
        go_wp2_with (first
          | (go_at_call 20; (with_reducible refine C.out.mono ?_); rintro e w1 ⟨v1, rfl, hr, hb⟩
             obtain ⟨e1, g1, e2, g2, rfl, -, -⟩ := hr.form
             have HP1 := Lib.hid (HP.out.next hb)
             clear hr hb f0 f1 f2 f3 t0 t1 t2 t3 HP C)
          | (obtain ⟨w2, hw⟩ : ∃ w2, w1.alloc (.cells #[.slice e1 U'.length g1, .slice e2 N.length g2, .int .i64 (n : Int), .bool cl] 39) = w2 := ⟨_, rfl⟩
             rewrite [hw]
             have hb : Below w1.heap.size w1 w2 := by rewrite [← hw]; exact (Below.refl _ _).alloc (Nat.le_refl _) _
             have HP2 := Lib.hid (HP1.out.next hb)
             generalize w1.heap.size = c10 at *
             obtain ⟨-, ⟨t0, t1, t2, t3⟩⟩ := HP2.out.cells
             clear hw hb HP1)
          | (go_at_call 19; (with_reducible refine (HD.out _ HP2.out).mono ?_); rintro e w3 ⟨v3, rfl, hr, hb⟩
             obtain ⟨e3, g3, e4, g4, rfl, -, -⟩ := hr.form
             have HP3 := Lib.hid (HP2.out.next hb)
             clear hr hb t0 t1 t2 t3 HP2)
          | (obtain ⟨w4, hw⟩ : ∃ w4, w3.alloc (.cells #[.slice e3 U2.length g3, .slice e4 N2.length g4, .int .i64 (m : Int), .bool false] 39) = w4 := ⟨_, rfl⟩
             rewrite [hw]
             have hb : Below w3.heap.size w3 w4 := by rewrite [← hw]; exact (Below.refl _ _).alloc (Nat.le_refl _) _
             have HP4 := Lib.hid (HP3.out.next hb)
             generalize w3.heap.size = c13 at *
             clear hw hb HP3))
        have HS : Hid (∀ W : World, W.heap[w.heap.size]? = w4.heap[w.heap.size]? → W.heap[w.heap.size + 1]? = w4.heap[w.heap.size + 1]? → (W.cell? ⟨w.heap.size, 0, none⟩ = some (.slice a1 (U'.length + 1) c1) ∧ W.cell? ⟨w.heap.size, 1, none⟩ = some (.slice a2 N.length c2) ∧ W.cell? ⟨w.heap.size, 2, none⟩ = some (.int .i64 (n : Int)) ∧ W.cell? ⟨w.heap.size, 3, none⟩ = some (.bool cl)) ∧ (W.cell? ⟨w.heap.size + 1, 0, none⟩ = some (.slice a3 U2.length c3) ∧ W.cell? ⟨w.heap.size + 1, 1, none⟩ = some (.slice a4 N2.length c4) ∧ W.cell? ⟨w.heap.size + 1, 2, none⟩ = some (.int .i64 (m : Int)) ∧ W.cell? ⟨w.heap.size + 1, 3, none⟩ = some (.bool false))) := fun W h1 h2 => ⟨⟨by rw [cell_of_row _ _ _ _ _ _ (h1.trans HP4.out.bf)]; rfl, by rw [cell_of_row _ _ _ _ _ _ (h1.trans HP4.out.bf)]; rfl, by rw [cell_of_row _ _ _ _ _ _ (h1.trans HP4.out.bf)]; rfl, by rw [cell_of_row _ _ _ _ _ _ (h1.trans HP4.out.bf)]; rfl⟩, ⟨by rw [cell_of_row _ _ _ _ _ _ (h2.trans HP4.out.bt)]; rfl, by rw [cell_of_row _ _ _ _ _ _ (h2.trans HP4.out.bt)]; rfl, by rw [cell_of_row _ _ _ _ _ _ (h2.trans HP4.out.bt)]; rfl, by rw [cell_of_row _ _ _ _ _ _ (h2.trans HP4.out.bt)]; rfl⟩⟩
        refine wp_region_noPanic ?_
        refine wp_region_held_drew (S := fun W : World => (W.cell? ⟨w.heap.size, 0, none⟩ = some (.slice a1 (U'.length + 1) c1) ∧ W.cell? ⟨w.heap.size, 1, none⟩ = some (.slice a2 N.length c2) ∧ W.cell? ⟨w.heap.size, 2, none⟩ = some (.int .i64 (n : Int)) ∧ W.cell? ⟨w.heap.size, 3, none⟩ = some (.bool cl)) ∧ (W.cell? ⟨w.heap.size + 1, 0, none⟩ = some (.slice a3 U2.length c3) ∧ W.cell? ⟨w.heap.size + 1, 1, none⟩ = some (.slice a4 N2.length c4) ∧ W.cell? ⟨w.heap.size + 1, 2, none⟩ = some (.int .i64 (m : Int)) ∧ W.cell? ⟨w.heap.size + 1, 3, none⟩ = some (.bool false))) (by kernel_rfl) ?_ (fun hHeld => ?_)
        · exact HS.out _ rfl rfl
        refine wpAnyH_take (i := 0) (oi := { dst := some 50, op := Op.load 39 (Operand.tmp 2), type := 39, pos := "ref.go:64", after := #[], guard := none }) (v := ?_) rfl (by kernel_rfl) (by kernel_rfl) (by kernel_rfl) (fun _ _ _ h => h) (Or.inl ⟨by rfl, ?_⟩) (by assumption) ?_
        rotate_left
        · (intro w9 hS9; (try dsimp only at hS9); go_simp); all_goals (with_reducible rfl)
        (try simp only [Act.put, List.setIfInBounds_toArray, List.set_cons_zero, List.set_cons_succ])
        refine wpAnyH_take (i := 1) (oi := { dst := some 51, op := Op.load 39 (Operand.tmp 3), type := 39, pos := "ref.go:64", after := #[{ on := 3, ground := Ground.gcOnly Departure.lateStores }], guard := none }) (v := ?_) rfl (by kernel_rfl) (by kernel_rfl) (by kernel_rfl) (fun _ _ _ h => h) (Or.inl ⟨by rfl, ?_⟩) (by assumption) ?_
        rotate_left
        · (intro w9 hS9; (try dsimp only at hS9); go_simp); all_goals (with_reducible rfl)
        (try simp only [Act.put, List.setIfInBounds_toArray, List.set_cons_zero, List.set_cons_succ])
        refine wpAnyH_take (i := 2) (oi := { dst := some 52, op := Op.move (Operand.tmp 8), type := 3, pos := "ref.go:64", after := #[{ on := 4, ground := Ground.gcOnly Departure.lateStores }], guard := none }) (v := ?_) rfl (by kernel_rfl) (by kernel_rfl) (by kernel_rfl) (fun _ _ _ h => h) (Or.inl ⟨by rfl, ?_⟩) (by assumption) ?_
        rotate_left
        · (intro w9 hS9; (try dsimp only at hS9); go_simp); all_goals (with_reducible rfl)
        (try simp only [Act.put, List.setIfInBounds_toArray, List.set_cons_zero, List.set_cons_succ])
        refine wpAnyH_ready (rs := [3]) (by kernel_rfl) (by simp) ?_
        refine AllReadyH.cons (o := { dst := none, op := Op.store 39 (Operand.tmp 4) (Operand.tmp 50), type := 0, pos := "ref.go:64", after := #[{ on := 0, ground := Ground.data }, { on := 0, ground := Ground.phase }, { on := 1, ground := Ground.textOnly Departure.lateStores }, { on := 2, ground := Ground.textOnly Departure.lateStores }], guard := none }) rfl (fun K hK => ?_) ?_
        · rw [if_pos (by rfl)]
          refine wp_store_row 39 _ _ rfl _ _ rfl rfl 39 z39 ?_ size39 rfl (one4 ..) ?_
          · (first | exact HP4.out.r4 | (rw [setRow_other _ _ _ _ (by omega)]; exact HP4.out.r4))
          (try go_wp2_with fail)
          refine hK.out _ _ ?_ (fun hHeld => ?_)
          · exact HS.out _ (by repeat' first | rfl | (rw [setRow_other _ _ _ _ (by omega)])) (by repeat' first | rfl | (rw [setRow_other _ _ _ _ (by omega)]))
          clear hK K
          (try simp only [Act.put, List.setIfInBounds_toArray, List.set_cons_zero, List.set_cons_succ])
          refine wpAnyH_ready (rs := [4]) (by kernel_rfl) (by simp) ?_
          refine AllReadyH.cons (o := { dst := none, op := Op.store 39 (Operand.tmp 5) (Operand.tmp 51), type := 0, pos := "ref.go:64", after := #[{ on := 1, ground := Ground.data }, { on := 3, ground := Ground.chain }, { on := 0, ground := Ground.phase }, { on := 1, ground := Ground.phase }, { on := 2, ground := Ground.textOnly Departure.lateStores }, { on := 3, ground := Ground.phase }], guard := none }) rfl (fun K hK => ?_) ?_
          · rw [if_pos (by rfl)]
            refine wp_store_row 39 _ _ rfl _ _ rfl rfl 39 z39 ?_ size39 rfl (one4 ..) ?_
            · (first | exact HP4.out.r5 | (rw [setRow_other _ _ _ _ (by omega)]; exact HP4.out.r5))
            (try go_wp2_with fail)
            refine hK.out _ _ ?_ (fun hHeld => ?_)
            · exact HS.out _ (by repeat' first | rfl | (rw [setRow_other _ _ _ _ (by omega)])) (by repeat' first | rfl | (rw [setRow_other _ _ _ _ (by omega)]))
            clear hK K
            (try simp only [Act.put, List.setIfInBounds_toArray, List.set_cons_zero, List.set_cons_succ])
            refine wpAnyH_take (i := 5) (oi := { dst := some 6, op := Op.assign (Operand.tmp 52), type := 3, pos := "ref.go:64", after := #[{ on := 2, ground := Ground.data }, { on := 4, ground := Ground.chain }, { on := 0, ground := Ground.phase }, { on := 1, ground := Ground.phase }, { on := 2, ground := Ground.phase }, { on := 3, ground := Ground.phase }, { on := 4, ground := Ground.phase }], guard := none }) (v := ?_) rfl (by kernel_rfl) (by kernel_rfl) (by kernel_rfl) (fun _ _ _ h => h) (Or.inl ⟨by rfl, ?_⟩) (by assumption) ?_
            rotate_left
            · (intro w9 hS9; (try dsimp only at hS9); go_simp); all_goals (with_reducible rfl)
            (try simp only [Act.put, List.setIfInBounds_toArray, List.set_cons_zero, List.set_cons_succ])
            refine wpAnyH_take (i := 6) (oi := { dst := some 7, op := Op.assign (Operand.const (Value.int IntKind.i64 0)), type := 27, pos := "ref.go:64", after := #[{ on := 5, ground := Ground.chain }, { on := 0, ground := Ground.phase }, { on := 1, ground := Ground.phase }, { on := 2, ground := Ground.phase }, { on := 3, ground := Ground.phase }, { on := 4, ground := Ground.phase }, { on := 5, ground := Ground.phase }], guard := none }) (v := ?_) rfl (by kernel_rfl) (by kernel_rfl) (by kernel_rfl) (fun _ _ _ h => h) (Or.inl ⟨by rfl, ?_⟩) (by assumption) ?_
            rotate_left
            · (intro w9 hS9; (try dsimp only at hS9); go_simp); all_goals (with_reducible rfl)
            (try simp only [Act.put, List.setIfInBounds_toArray, List.set_cons_zero, List.set_cons_succ])
            refine wpAnyH_done (by kernel_rfl) (NoPanic.normal ?_) _
            go_wp2_with fail
            first
              | (have HZ := HP4.out.fin1; obtain ⟨⟨z0, z1, z2, z3⟩, ⟨z4, z5, z6, z7⟩⟩ := (show (((w4.drew.setRow (w.heap.size + 1 + 1) #[.slice a1 (U'.length + 1) c1, .slice a2 N.length c2, .int .i64 (n : Int), .bool cl]).setRow (w.heap.size + 1 + 1 + 1) #[.slice a3 U2.length c3, .slice a4 N2.length c4, .int .i64 (m : Int), .bool false]).cell? ⟨w.heap.size + 1 + 1, 0, none⟩ = some (.slice a1 (U'.length + 1) c1) ∧ ((w4.drew.setRow (w.heap.size + 1 + 1) #[.slice a1 (U'.length + 1) c1, .slice a2 N.length c2, .int .i64 (n : Int), .bool cl]).setRow (w.heap.size + 1 + 1 + 1) #[.slice a3 U2.length c3, .slice a4 N2.length c4, .int .i64 (m : Int), .bool false]).cell? ⟨w.heap.size + 1 + 1, 1, none⟩ = some (.slice a2 N.length c2) ∧ ((w4.drew.setRow (w.heap.size + 1 + 1) #[.slice a1 (U'.length + 1) c1, .slice a2 N.length c2, .int .i64 (n : Int), .bool cl]).setRow (w.heap.size + 1 + 1 + 1) #[.slice a3 U2.length c3, .slice a4 N2.length c4, .int .i64 (m : Int), .bool false]).cell? ⟨w.heap.size + 1 + 1, 2, none⟩ = some (.int .i64 (n : Int)) ∧ ((w4.drew.setRow (w.heap.size + 1 + 1) #[.slice a1 (U'.length + 1) c1, .slice a2 N.length c2, .int .i64 (n : Int), .bool cl]).setRow (w.heap.size + 1 + 1 + 1) #[.slice a3 U2.length c3, .slice a4 N2.length c4, .int .i64 (m : Int), .bool false]).cell? ⟨w.heap.size + 1 + 1, 3, none⟩ = some (.bool cl)) ∧ (((w4.drew.setRow (w.heap.size + 1 + 1) #[.slice a1 (U'.length + 1) c1, .slice a2 N.length c2, .int .i64 (n : Int), .bool cl]).setRow (w.heap.size + 1 + 1 + 1) #[.slice a3 U2.length c3, .slice a4 N2.length c4, .int .i64 (m : Int), .bool false]).cell? ⟨w.heap.size + 1 + 1 + 1, 0, none⟩ = some (.slice a3 U2.length c3) ∧ ((w4.drew.setRow (w.heap.size + 1 + 1) #[.slice a1 (U'.length + 1) c1, .slice a2 N.length c2, .int .i64 (n : Int), .bool cl]).setRow (w.heap.size + 1 + 1 + 1) #[.slice a3 U2.length c3, .slice a4 N2.length c4, .int .i64 (m : Int), .bool false]).cell? ⟨w.heap.size + 1 + 1 + 1, 1, none⟩ = some (.slice a4 N2.length c4) ∧ ((w4.drew.setRow (w.heap.size + 1 + 1) #[.slice a1 (U'.length + 1) c1, .slice a2 N.length c2, .int .i64 (n : Int), .bool cl]).setRow (w.heap.size + 1 + 1 + 1) #[.slice a3 U2.length c3, .slice a4 N2.length c4, .int .i64 (m : Int), .bool false]).cell? ⟨w.heap.size + 1 + 1 + 1, 2, none⟩ = some (.int .i64 (m : Int)) ∧ ((w4.drew.setRow (w.heap.size + 1 + 1) #[.slice a1 (U'.length + 1) c1, .slice a2 N.length c2, .int .i64 (n : Int), .bool cl]).setRow (w.heap.size + 1 + 1 + 1) #[.slice a3 U2.length c3, .slice a4 N2.length c4, .int .i64 (m : Int), .bool false]).cell? ⟨w.heap.size + 1 + 1 + 1, 3, none⟩ = some (.bool false)) from ⟨HZ.cf, HZ.ct'⟩); exact bodyPost_ret (v := .tuple #[.agg #[.slice a1 (U'.length + 1) c1, .slice a2 N.length c2, .int .i64 (n : Int), .bool cl], .agg #[.slice a3 U2.length c3, .slice a4 N2.length c4, .int .i64 (m : Int), .bool false], .int .i64 (R.k : Int), .int .i64 0]) (by simp [results, Try.results21, go_sem, z0, z1, z2, z3, z4, z5, z6, z7]) rfl (by obtain ⟨q1, q2, q3, q4⟩ := HE.out; rw [← q1, ← q2, ← q3, ← q4]; exact ⟨_, _, rfl, HZ.f, HZ.t, HZ.below⟩))
              | (have HZ := HP4.out.fin2; obtain ⟨⟨z0, z1, z2, z3⟩, ⟨z4, z5, z6, z7⟩⟩ := (show (((w4.drew.setRow (w.heap.size + 1 + 1 + 1) #[.slice a3 U2.length c3, .slice a4 N2.length c4, .int .i64 (m : Int), .bool false]).setRow (w.heap.size + 1 + 1) #[.slice a1 (U'.length + 1) c1, .slice a2 N.length c2, .int .i64 (n : Int), .bool cl]).cell? ⟨w.heap.size + 1 + 1, 0, none⟩ = some (.slice a1 (U'.length + 1) c1) ∧ ((w4.drew.setRow (w.heap.size + 1 + 1 + 1) #[.slice a3 U2.length c3, .slice a4 N2.length c4, .int .i64 (m : Int), .bool false]).setRow (w.heap.size + 1 + 1) #[.slice a1 (U'.length + 1) c1, .slice a2 N.length c2, .int .i64 (n : Int), .bool cl]).cell? ⟨w.heap.size + 1 + 1, 1, none⟩ = some (.slice a2 N.length c2) ∧ ((w4.drew.setRow (w.heap.size + 1 + 1 + 1) #[.slice a3 U2.length c3, .slice a4 N2.length c4, .int .i64 (m : Int), .bool false]).setRow (w.heap.size + 1 + 1) #[.slice a1 (U'.length + 1) c1, .slice a2 N.length c2, .int .i64 (n : Int), .bool cl]).cell? ⟨w.heap.size + 1 + 1, 2, none⟩ = some (.int .i64 (n : Int)) ∧ ((w4.drew.setRow (w.heap.size + 1 + 1 + 1) #[.slice a3 U2.length c3, .slice a4 N2.length c4, .int .i64 (m : Int), .bool false]).setRow (w.heap.size + 1 + 1) #[.slice a1 (U'.length + 1) c1, .slice a2 N.length c2, .int .i64 (n : Int), .bool cl]).cell? ⟨w.heap.size + 1 + 1, 3, none⟩ = some (.bool cl)) ∧ (((w4.drew.setRow (w.heap.size + 1 + 1 + 1) #[.slice a3 U2.length c3, .slice a4 N2.length c4, .int .i64 (m : Int), .bool false]).setRow (w.heap.size + 1 + 1) #[.slice a1 (U'.length + 1) c1, .slice a2 N.length c2, .int .i64 (n : Int), .bool cl]).cell? ⟨w.heap.size + 1 + 1 + 1, 0, none⟩ = some (.slice a3 U2.length c3) ∧ ((w4.drew.setRow (w.heap.size + 1 + 1 + 1) #[.slice a3 U2.length c3, .slice a4 N2.length c4, .int .i64 (m : Int), .bool false]).setRow (w.heap.size + 1 + 1) #[.slice a1 (U'.length + 1) c1, .slice a2 N.length c2, .int .i64 (n : Int), .bool cl]).cell? ⟨w.heap.size + 1 + 1 + 1, 1, none⟩ = some (.slice a4 N2.length c4) ∧ ((w4.drew.setRow (w.heap.size + 1 + 1 + 1) #[.slice a3 U2.length c3, .slice a4 N2.length c4, .int .i64 (m : Int), .bool false]).setRow (w.heap.size + 1 + 1) #[.slice a1 (U'.length + 1) c1, .slice a2 N.length c2, .int .i64 (n : Int), .bool cl]).cell? ⟨w.heap.size + 1 + 1 + 1, 2, none⟩ = some (.int .i64 (m : Int)) ∧ ((w4.drew.setRow (w.heap.size + 1 + 1 + 1) #[.slice a3 U2.length c3, .slice a4 N2.length c4, .int .i64 (m : Int), .bool false]).setRow (w.heap.size + 1 + 1) #[.slice a1 (U'.length + 1) c1, .slice a2 N.length c2, .int .i64 (n : Int), .bool cl]).cell? ⟨w.heap.size + 1 + 1 + 1, 3, none⟩ = some (.bool false)) from ⟨HZ.cf, HZ.ct'⟩); exact bodyPost_ret (v := .tuple #[.agg #[.slice a1 (U'.length + 1) c1, .slice a2 N.length c2, .int .i64 (n : Int), .bool cl], .agg #[.slice a3 U2.length c3, .slice a4 N2.length c4, .int .i64 (m : Int), .bool false], .int .i64 (R.k : Int), .int .i64 0]) (by simp [results, Try.results21, go_sem, z0, z1, z2, z3, z4, z5, z6, z7]) rfl (by obtain ⟨q1, q2, q3, q4⟩ := HE.out; rw [← q1, ← q2, ← q3, ← q4]; exact ⟨_, _, rfl, HZ.f, HZ.t, HZ.below⟩))
          exact AllReadyH.nil
        exact AllReadyH.nil

end Go.Proofs.Ytlomjckmclefeaa

