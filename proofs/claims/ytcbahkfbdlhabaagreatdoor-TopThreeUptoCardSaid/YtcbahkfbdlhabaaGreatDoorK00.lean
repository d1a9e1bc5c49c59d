/- A part of the proof that the law TopThree returns true for all arguments of bulk at most 1048576 (no other condition). Here: Boxes; numbers of 128 bits; the first bits of a key. Dimensions: Width, Right, Depth, Len. Keys of addresses: Top, bits, ofBits, Root. -/
import Derived.Test.YtcbahkfbdlhabaaGreatDoorRows
import Derived.WalkKit
import Derived.WalkSpells
import Derived.WalkLawsBesides
import Derived.Lib.Hide
import Derived.Laws.Rows
import Derived.Laws.Bits64b
import Derived.Deep.RegionHeld3
import Derived.BigQuiet
import Derived.KernelRfl
namespace Go.Proofs.YtcbahkfbdlhabaaGreatDoor
set_option linter.unusedVariables false
set_option linter.unusedSimpArgs false
set_option linter.unusedVariables false
set_option linter.unusedSimpArgs false
theorem zA {α : Type _} (l : List α) (i : Nat) (a : α) : l.toArray.setIfInBounds i a = (l.set i a).toArray := List.setIfInBounds_toArray l i a
theorem zB {α : Type _} {x : α} {xs : List α} {a : α} : (x :: xs).set 0 a = a :: xs := rfl
theorem zC {α : Type _} {x : α} {xs : List α} {i : Nat} {a : α} : (x :: xs).set (i + 1) a = x :: xs.set i a := rfl
theorem zD {α : Type _} {a : α} {l : List α} {i : Nat} : List.drop (i + 1) (a :: l) = List.drop i l := rfl
theorem zE {α : Type _} {a : α} {l : List α} {i : Nat} : List.take (i + 1) (a :: l) = a :: List.take i l := rfl
theorem zF {α : Type _} {a : α} {l : List α} : (a :: l)[0]? = some a := rfl
theorem zG {α : Type _} {a : α} {i : Nat} {l : List α} : (a :: l)[i + 1]? = l[i]? := rfl
theorem zH {α : Type _} {xs : List α} {i : Nat} : xs.toArray[i]? = xs[i]? := List.getElem?_toArray
theorem zI {α : Type _} {l : List α} : List.drop 0 l = l := rfl
theorem zJ {α : Type _} {l : List α} : List.take 0 l = [] := rfl
theorem zK {α : Type _} {xs : Array α} {i : Nat} {d : α} : xs.getD i d = xs[i]?.getD d := Array.getD_eq_getD_getElem?
theorem zL {α : Type _} {a b : α} : (some a).getD b = a := rfl
abbrev zW {P : Program} {ops : Array Oper} {Q : Exit → Act → World → Prop} {d : Option Tmp} {ty : TypeId} {po : String} {af : Array Edge} {g : Option (Tmp × Bool)} {r : List Oper} {a : Act} {w : World} (op : Op) : Prop := wpList P ops Q (Oper.mk d op ty po af g :: r) a w
abbrev zX {P : Program} {ops : Array Oper} {Q : Exit → Act → World → Prop} {d : Option Tmp} {ty : TypeId} {po : String} {af : Array Edge} {r : List Oper} {a : Act} {w : World} (op : Op) : Prop := wpList P ops Q (Oper.mk d op ty po af none :: r) a w
abbrev zY {P : Program} {ops : Array Oper} {Q : Exit → Act → World → Prop} {d : Option Tmp} {ty : TypeId} {po : String} {af : Array Edge} {g : Tmp × Bool} {r : List Oper} {a : Act} {w : World} (op : Op) : Prop := wpList P ops Q (Oper.mk d op ty po af (some g) :: r) a w
theorem zz {α : Type _} : (∀ (l : List α) (i : Nat) (a : α), l.toArray.setIfInBounds i a = (l.set i a).toArray) ∧ (∀ {x : α} {xs : List α} {i : Nat} {a : α}, (x :: xs).set (i + 1) a = x :: xs.set i a) ∧ (∀ {x : α} {xs : List α} {a : α}, (x :: xs).set 0 a = a :: xs) ∧ (∀ {a : α} {l : List α} {i : Nat}, List.drop (i + 1) (a :: l) = List.drop i l) ∧ (∀ {l : List α}, List.drop 0 l = l) ∧ (∀ {a : α} {l : List α} {i : Nat}, List.take (i + 1) (a :: l) = a :: List.take i l) ∧ (∀ {l : List α}, List.take 0 l = []) := ⟨zA, zC, zB, zD, zI, zE, zJ⟩
theorem zy {α : Type _} : (∀ {xs : List α} {i : Nat}, xs.toArray[i]? = xs[i]?) ∧ (∀ {a : α} {l : List α}, (a :: l)[0]? = some a) ∧ (∀ {a : α} {i : Nat} {l : List α}, (a :: l)[i + 1]? = l[i]?) := ⟨zH, zF, zG⟩
theorem zx {α : Type _} : (∀ {xs : Array α} {i : Nat} {d : α}, xs.getD i d = xs[i]?.getD d) ∧ (∀ {xs : List α} {i : Nat}, xs.toArray[i]? = xs[i]?) ∧ (∀ {a : α} {l : List α}, (a :: l)[0]? = some a) ∧ (∀ {a : α} {i : Nat} {l : List α}, (a :: l)[i + 1]? = l[i]?) ∧ (∀ {a b : α}, (some a).getD b = a) := ⟨zK, zH, zF, zG, zL⟩
theorem zw : (∀ {p : Prop} [h : Decidable p], (decide p = true) = p) ∧ (∀ {p : Prop} {h : Decidable p}, decide p = false ↔ ¬p) ∧ (∀ {a b : Int}, ¬a < b ↔ b ≤ a) ∧ (∀ {a b : Int}, ¬a ≤ b ↔ b < a) := ⟨decide_eq_true_eq, decide_eq_false_iff_not, Int.not_lt, Int.not_le⟩
set_option linter.unusedVariables false
set_option linter.unusedSimpArgs false
open Go.RowKit

/-- Blocks and what they hold; below the old end nothing has turned. -/
def Bx (w W : World) : List (Nat × TypeId × Array Value) → Prop
  | [] => Below w.heap.size w W
  | (b, t, c) :: r => W.heap[b]? = some (.cells c t (0, 0)) ∧ Bx w W r
theorem Bx.below {w W : World} : ∀ {l : List (Nat × TypeId × Array Value)}, Bx w W l → Below w.heap.size w W
  | [], h => h
  | _ :: _, h => Bx.below h.2
theorem old_below0 {w w1 : World} {b : Nat} {c : Obj} (hb : Below w.heap.size w w1) (h : w.heap[b]? = some c) : w1.heap[b]? = some c := by
  rw [hb.block b (Array.getElem?_eq_some_iff.mp h).1]; exact h
theorem Bx.next {w W V : World} (hb : Below W.heap.size W V) : ∀ {l : List (Nat × TypeId × Array Value)}, Bx w W l → Bx w V l
  | [], h => Below.trans h (hb.mono (Below.size h))
  | _ :: _, h => ⟨old_below0 hb h.1, Bx.next hb h.2⟩
theorem Bx.nil (w : World) : Bx w w [] := Below.refl _ _
theorem Bx.new {w W : World} {l : List (Nat × TypeId × Array Value)} (h : Bx w W l) (t : TypeId) (c : Array Value) : Bx w (W.alloc (.cells c t)) ((W.heap.size, t, c) :: l) :=
  ⟨heap_alloc_new _ _, h.next ((Below.refl _ _).alloc (Nat.le_refl _) _)⟩
theorem Bx.drew {w W : World} {l : List (Nat × TypeId × Array Value)} (h : Bx w W l) : Bx w W.drew l := h.next ((Below.refl _ _).drew)
theorem Bx.keep {w W : World} (g : Nat) (cs : Array Value) (hg : w.heap.size ≤ g) : ∀ {l : List (Nat × TypeId × Array Value)}, Bx w W l → (∀ x ∈ l, x.1 ≠ g) → Bx w (W.setRow g cs) l
  | [], h, _ => Below.trans h ⟨rfl, rfl, rfl, by simp [World.setRow], fun k hk => setRow_other W g k cs (by omega)⟩
  | x :: _, h, hn => ⟨by rw [setRow_other _ _ _ _ (hn x (by simp))]; exact h.1, Bx.keep g cs hg h.2 (fun y hy => hn y (by simp [hy]))⟩
/-- The last box is filled. -/
theorem Bx.set {w W : World} {g : Nat} {t : TypeId} {old cs : Array Value} {l : List (Nat × TypeId × Array Value)} (h : Bx w W ((g, t, old) :: l)) (hg : w.heap.size ≤ g) (hn : ∀ x ∈ l, x.1 ≠ g) : Bx w (W.setRow g cs) ((g, t, cs) :: l) :=
  ⟨setRow_heap _ _ _ _ _ _ h.1, Bx.keep g cs hg h.2 hn⟩
theorem cells1 {w : World} {b : Nat} {v0 : Value} {t : TypeId} {fr : Nat × Nat} (h : w.heap[b]? = some (.cells #[v0] t fr)) : w.cell? ⟨b, 0, none⟩ = some v0 :=
  by rw [cell_of_row _ _ _ _ _ _ h]; rfl
theorem cells2 {w : World} {b : Nat} {v0 v1 : Value} {t : TypeId} {fr : Nat × Nat} (h : w.heap[b]? = some (.cells #[v0, v1] t fr)) : w.cell? ⟨b, 0, none⟩ = some v0 ∧ w.cell? ⟨b, 1, none⟩ = some v1 :=
  ⟨by rw [cell_of_row _ _ _ _ _ _ h]; rfl, by rw [cell_of_row _ _ _ _ _ _ h]; rfl⟩
theorem cells3 {w : World} {b : Nat} {v0 v1 v2 : Value} {t : TypeId} {fr : Nat × Nat} (h : w.heap[b]? = some (.cells #[v0, v1, v2] t fr)) : w.cell? ⟨b, 0, none⟩ = some v0 ∧ w.cell? ⟨b, 1, none⟩ = some v1 ∧ w.cell? ⟨b, 2, none⟩ = some v2 :=
  ⟨by rw [cell_of_row _ _ _ _ _ _ h]; rfl, by rw [cell_of_row _ _ _ _ _ _ h]; rfl, by rw [cell_of_row _ _ _ _ _ _ h]; rfl⟩
theorem cells5 {w : World} {b : Nat} {v0 v1 v2 v3 v4 : Value} {t : TypeId} {fr : Nat × Nat} (h : w.heap[b]? = some (.cells #[v0, v1, v2, v3, v4] t fr)) : w.cell? ⟨b, 0, none⟩ = some v0 ∧ w.cell? ⟨b, 1, none⟩ = some v1 ∧ w.cell? ⟨b, 2, none⟩ = some v2 ∧ w.cell? ⟨b, 3, none⟩ = some v3 ∧ w.cell? ⟨b, 4, none⟩ = some v4 :=
  ⟨by rw [cell_of_row _ _ _ _ _ _ h]; rfl, by rw [cell_of_row _ _ _ _ _ _ h]; rfl, by rw [cell_of_row _ _ _ _ _ _ h]; rfl, by rw [cell_of_row _ _ _ _ _ _ h]; rfl, by rw [cell_of_row _ _ _ _ _ _ h]; rfl⟩
theorem cells7 {w : World} {b : Nat} {v0 v1 v2 v3 v4 v5 v6 : Value} {t : TypeId} {fr : Nat × Nat} (h : w.heap[b]? = some (.cells #[v0, v1, v2, v3, v4, v5, v6] t fr)) : w.cell? ⟨b, 0, none⟩ = some v0 ∧ w.cell? ⟨b, 1, none⟩ = some v1 ∧ w.cell? ⟨b, 2, none⟩ = some v2 ∧ w.cell? ⟨b, 3, none⟩ = some v3 ∧ w.cell? ⟨b, 4, none⟩ = some v4 ∧ w.cell? ⟨b, 5, none⟩ = some v5 ∧ w.cell? ⟨b, 6, none⟩ = some v6 :=
  ⟨by rw [cell_of_row _ _ _ _ _ _ h]; rfl, by rw [cell_of_row _ _ _ _ _ _ h]; rfl, by rw [cell_of_row _ _ _ _ _ _ h]; rfl, by rw [cell_of_row _ _ _ _ _ _ h]; rfl, by rw [cell_of_row _ _ _ _ _ _ h]; rfl, by rw [cell_of_row _ _ _ _ _ _ h]; rfl, by rw [cell_of_row _ _ _ _ _ _ h]; rfl⟩
theorem cells12 {w : World} {b : Nat} {v0 v1 v2 v3 v4 v5 v6 v7 v8 v9 v10 v11 : Value} {t : TypeId} {fr : Nat × Nat} (h : w.heap[b]? = some (.cells #[v0, v1, v2, v3, v4, v5, v6, v7, v8, v9, v10, v11] t fr)) : w.cell? ⟨b, 0, none⟩ = some v0 ∧ w.cell? ⟨b, 1, none⟩ = some v1 ∧ w.cell? ⟨b, 2, none⟩ = some v2 ∧ w.cell? ⟨b, 3, none⟩ = some v3 ∧ w.cell? ⟨b, 4, none⟩ = some v4 ∧ w.cell? ⟨b, 5, none⟩ = some v5 ∧ w.cell? ⟨b, 6, none⟩ = some v6 ∧ w.cell? ⟨b, 7, none⟩ = some v7 ∧ w.cell? ⟨b, 8, none⟩ = some v8 ∧ w.cell? ⟨b, 9, none⟩ = some v9 ∧ w.cell? ⟨b, 10, none⟩ = some v10 ∧ w.cell? ⟨b, 11, none⟩ = some v11 :=
  ⟨by rw [cell_of_row _ _ _ _ _ _ h]; rfl, by rw [cell_of_row _ _ _ _ _ _ h]; rfl, by rw [cell_of_row _ _ _ _ _ _ h]; rfl, by rw [cell_of_row _ _ _ _ _ _ h]; rfl, by rw [cell_of_row _ _ _ _ _ _ h]; rfl, by rw [cell_of_row _ _ _ _ _ _ h]; rfl, by rw [cell_of_row _ _ _ _ _ _ h]; rfl, by rw [cell_of_row _ _ _ _ _ _ h]; rfl, by rw [cell_of_row _ _ _ _ _ _ h]; rfl, by rw [cell_of_row _ _ _ _ _ _ h]; rfl, by rw [cell_of_row _ _ _ _ _ _ h]; rfl, by rw [cell_of_row _ _ _ _ _ _ h]; rfl⟩
/-- A call that gives v and leaves all that was there. -/
abbrev Gives (f : FuncId) (args : Array Value) (v : Value) : Prop := ∀ w, Calls Tryz.prog f args w fun e w' => e = .returned v ∧ Below w.heap.size w w'
/-- 2^64, behind a name: a great numeral in the context stops a walk. -/
def M : Nat := 18446744073709551616

theorem M_eq : M = 18446744073709551616 := rfl

/-- A number of 128 bits as Go has it, by its halves. -/
abbrev wv (h l : Nat) : Value := .agg #[.int .u64 (h : Int), .int .u64 (l : Int)]

/-- 2^128. -/
def MM : Nat := 340282366920938463463374607431768211456

theorem MM_eq : MM = 340282366920938463463374607431768211456 := rfl

/-- A number below 2^128 as Go has it. -/
def W (n : Nat) : Value := wv (n / M) (n % M)

theorem wv_W (h l : Nat) (hl : l < M) : wv h l = W (h * M + l) := by
  have e1 : (h * M + l) / M = h := by rw [M_eq] at *; omega
  have e2 : (h * M + l) % M = l := by rw [M_eq] at *; omega
  rw [W, e1, e2]

theorem size_alloc (w : World) (c : Obj) : (w.alloc c).heap.size = w.heap.size + 1 := by
  show (w.heap.push c).size = _
  simp

theorem M_pow : M = 2 ^ 64 := by decide

theorem MM_pow : MM = 2 ^ 128 := by decide

theorem shift_split (K J h l : Nat) (hK : 0 < K) (hJ : 0 < J) (hl : l < K * J) :
    (h * (K * J) + l) * K % ((K * J) * (K * J)) = (K * (h % J) + l / J) * (K * J) + K * (l % J) ∧ K * (h % J) + l / J < K * J ∧ K * (l % J) < K * J := by
  have ha : l / J < K := by rw [Nat.div_lt_iff_lt_mul hJ]; exact hl
  have hb : l % J < J := Nat.mod_lt _ hJ
  have hd : h % J < J := Nat.mod_lt _ hJ
  have el : J * (l / J) + l % J = l := Nat.div_add_mod l J
  have eh : J * (h / J) + h % J = h := Nat.div_add_mod h J
  have h1 : K * (h % J) + K ≤ K * J := by
    have := Nat.mul_le_mul_left K (show h % J + 1 ≤ J from hd)
    rwa [Nat.mul_add, Nat.mul_one] at this
  have h2 : K * (l % J) + K ≤ K * J := by
    have := Nat.mul_le_mul_left K (show l % J + 1 ≤ J from hb)
    rwa [Nat.mul_add, Nat.mul_one] at this
  refine ⟨?_, by omega, by omega⟩
  generalize l / J = a at *
  generalize l % J = b at *
  generalize h / J = c at *
  generalize h % J = d at *
  subst el eh
  have e : ((J * c + d) * (K * J) + (J * a + b)) * K = (K * J) * (K * J) * c + ((K * d + a) * (K * J) + K * b) := by
    simp only [Nat.add_mul, Nat.mul_add, Nat.mul_assoc, Nat.mul_comm, Nat.mul_left_comm, Nat.add_assoc]
  rw [e, Nat.mul_add_mod]
  refine Nat.mod_eq_of_lt ?_
  have h3 : (K * d + a + 1) * (K * J) ≤ (K * J) * (K * J) := Nat.mul_le_mul_right _ (by omega)
  rw [Nat.add_mul, Nat.one_mul] at h3
  omega

theorem M_split (k j : Nat) (hk : j + k = 64) : 2 ^ k * 2 ^ j = M := by rw [← Nat.pow_add, Nat.add_comm, hk, M_pow]

theorem MM_MM : M * M = MM := by decide

theorem left_low (h l k j : Nat) (hk : j + k = 64) (hl : l < M) : (h * M + l) * 2 ^ k % MM = (2 ^ k * (h % 2 ^ j) + l / 2 ^ j) * M + 2 ^ k * (l % 2 ^ j) ∧ 2 ^ k * (h % 2 ^ j) + l / 2 ^ j < M ∧ 2 ^ k * (l % 2 ^ j) < M := by
  have := shift_split (2 ^ k) (2 ^ j) h l (Nat.two_pow_pos _) (Nat.two_pow_pos _) (by rw [M_split k j hk]; exact hl)
  rwa [M_split k j hk, MM_MM] at this

theorem left_high (h l j : Nat) : (h * M + l) * 2 ^ (j + 64) % MM = (l * 2 ^ j % M) * M := by
  rw [Nat.pow_add, ← M_pow, ← Nat.mul_assoc, ← MM_MM, Nat.mul_mod_mul_right, Nat.add_mul, Nat.mul_assoc, Nat.mul_comm M, ← Nat.mul_assoc, Nat.add_comm, Nat.add_mul_mod_self_right]

/-- A shift up of one word, as the model has it. -/
theorem wrap_mod (a : Nat) : IntKind.u64.wrap (a : Int) = ((a % 18446744073709551616 : Nat) : Int) := by rw [IntKind.wrap_u64]; omega
theorem word_up (x k j : Nat) (hk : j + k = 64) : IntKind.u64.wrap ((x : Int) * 2 ^ min k 64) = ((2 ^ k * (x % 2 ^ j) : Nat) : Int) := by
  have e : ((x : Int) * 2 ^ min k 64) = ((x * 2 ^ k : Nat) : Int) := by rw [Nat.min_eq_left (by omega)]; simp
  rw [e, wrap_mod]
  congr 1
  rw [show (18446744073709551616 : Nat) = 2 ^ k * 2 ^ j from (M_split k j hk).symm, Nat.mul_comm x, Nat.mul_mod_mul_left]

theorem word_down (x k : Nat) (hk : k ≤ 64) : (x : Int) / 2 ^ min k 64 = ((x / 2 ^ k : Nat) : Int) := by
  rw [Nat.min_eq_left hk]; simp

theorem word_or (x y k : Nat) (hy : y < 2 ^ k) (hx : 2 ^ k * x + y < M) : bits .or .u64 ((2 ^ k * x : Nat) : Int) (y : Int) = ((2 ^ k * x + y : Nat) : Int) := by
  rw [M_eq] at hx
  rw [bits_or_u64_nat _ _ (by omega) (by omega), Nat.two_pow_add_eq_or_of_lt hy]

set_option maxHeartbeats 1000000 in
theorem left_high_walk (ah al k j x : Nat) (hj : j + 64 = k) (h2 : k < 128) (he : IntKind.u64.wrap ((al : Int) * 2 ^ min j 64) = (x : Int)) (w : World) :
    Calls Tryz.prog 74 #[wv ah al, .int .i64 k] w fun e w' => e = .returned (wv x 0) ∧ Below w.heap.size w w' := by
  have d1 : decide ((k : Int) < 1) = false := by simp; omega
  have d2 : decide ((k : Int) ≥ 128) = false := by simp; omega
  have d3 : decide ((k : Int) ≥ 64) = true := by simp; omega
  have e1 : IntKind.i64.wrap ((k : Int) - 64) = (j : Int) := by rw [IntKind.wrap_i64]; omega
  have z : ¬ (j : Int) < 0 := by omega
  clear h2 hj
  go_enter Tryz.func74, Tryz.ntmps74
  go_wp2_with fail
  refine bodyPost_ret (v := wv x 0) (by simp [results, Tryz.results74, go_sem]) rfl ⟨rfl, ?_⟩
  exact ((Below.refl _ _).alloc (Nat.le_refl _) _).alloc (by simp) _

set_option maxHeartbeats 1000000 in
theorem left_low_walk (ah al k j p q r s : Nat) (hj : j + k = 64) (hk1 : 1 ≤ k) (hk2 : k < 64) (h1 : IntKind.u64.wrap ((ah : Int) * 2 ^ min k 64) = (p : Int)) (h2 : (al : Int) / 2 ^ min j 64 = (q : Int)) (h3 : bits .or .u64 (p : Int) (q : Int) = (r : Int)) (h4 : IntKind.u64.wrap ((al : Int) * 2 ^ min k 64) = (s : Int)) (w : World) :
    Calls Tryz.prog 74 #[wv ah al, .int .i64 k] w fun e w' => e = .returned (wv r s) ∧ Below w.heap.size w w' := by
  have d1 : decide ((k : Int) < 1) = false := by simp; omega
  have d2 : decide ((k : Int) ≥ 128) = false := by simp; omega
  have d3 : decide ((k : Int) ≥ 64) = false := by simp; omega
  have e1 : IntKind.i64.wrap (64 - (k : Int)) = (j : Int) := by rw [IntKind.wrap_i64]; omega
  have z : ¬ (j : Int) < 0 := by omega
  have z2 : ¬ (k : Int) < 0 := by omega
  clear hk1 hk2 hj
  go_enter Tryz.func74, Tryz.ntmps74
  go_wp2_with fail
  go_region
  go_wp2_with fail
  refine bodyPost_ret (v := wv r s) (by simp [results, Tryz.results74, go_sem]) rfl ⟨rfl, ?_⟩
  exact (((Below.refl _ _).alloc (Nat.le_refl _) _).alloc (by simp) _).drew

set_option maxHeartbeats 1000000 in
theorem left_none_walk (ah al : Nat) (k : Int) (hk : k < 1) (w : World) :
    Calls Tryz.prog 74 #[wv ah al, .int .i64 k] w fun e w' => e = .returned (wv ah al) ∧ Below w.heap.size w w' := by
  have d1 : decide (k < 1) = true := by simpa using hk
  clear hk
  go_enter Tryz.func74, Tryz.ntmps74
  go_wp2_with fail
  refine bodyPost_ret (v := wv ah al) (by simp [results, Tryz.results74, go_sem]) rfl ⟨rfl, ?_⟩
  exact ((Below.refl _ _).alloc (Nat.le_refl _) _).alloc (by simp) _

set_option maxHeartbeats 1000000 in
theorem left_all_walk (ah al : Nat) (k : Int) (hk : 128 ≤ k) (w : World) :
    Calls Tryz.prog 74 #[wv ah al, .int .i64 k] w fun e w' => e = .returned (wv 0 0) ∧ Below w.heap.size w w' := by
  have d1 : decide (k < 1) = false := by simp; omega
  have d2 : decide (k ≥ 128) = true := by simpa using hk
  clear hk
  go_enter Tryz.func74, Tryz.ntmps74
  go_wp2_with fail
  refine bodyPost_ret (v := wv 0 0) (by simp [results, Tryz.results74, go_sem]) rfl ⟨rfl, ?_⟩
  exact ((Below.refl _ _).alloc (Nat.le_refl _) _).alloc (by simp) _

theorem W_halves (h l : Nat) (hl : l < M) (n : Nat) (hn : n = h * M + l) : W n = wv h l := by rw [hn, ← wv_W h l hl]

theorem W_of (n : Nat) : W n = wv (n / M) (n % M) := rfl

theorem left_any (n : Nat) (hn : n < MM) (k : Int) (w : World) :
    Calls Tryz.prog 74 #[W n, .int .i64 k] w fun e w' => e = .returned (W (n * 2 ^ k.toNat % MM)) ∧ Below w.heap.size w w' := by
  have hl : n % M < M := Nat.mod_lt _ (by rw [M_eq]; omega)
  have en : n = n / M * M + n % M := (Nat.div_add_mod' n M).symm
  by_cases c1 : k < 1
  · rw [show k.toNat = 0 by omega, Nat.pow_zero, Nat.mul_one, Nat.mod_eq_of_lt hn]
    exact left_none_walk _ _ k c1 w
  · by_cases c2 : 128 ≤ k
    · have e : n * 2 ^ k.toNat % MM = 0 := by
        obtain ⟨d, hd⟩ : ∃ d, k.toNat = d + 128 := ⟨k.toNat - 128, by omega⟩
        rw [hd, Nat.pow_add, ← MM_pow, ← Nat.mul_assoc, Nat.mul_mod_left]
      rw [e]
      exact left_all_walk _ _ k c2 w
    · obtain ⟨m, rfl⟩ : ∃ m : Nat, k = m := ⟨k.toNat, by omega⟩
      rw [Int.toNat_natCast]
      by_cases c3 : 64 ≤ m
      · obtain ⟨j, rfl⟩ : ∃ j, m = j + 64 := ⟨m - 64, by omega⟩
        have h := left_high_walk (n / M) (n % M) (j + 64) j (2 ^ j * (n % M % 2 ^ (64 - j))) rfl (by omega) (word_up _ _ (64 - j) (by omega)) w
        have e : W (n * 2 ^ (j + 64) % MM) = wv (2 ^ j * (n % M % 2 ^ (64 - j))) 0 := by
          refine W_halves _ _ (by rw [M_eq]; omega) _ ?_
          rw [Nat.add_zero]
          conv => lhs; rw [en]
          rw [left_high]
          congr 1
          rw [← M_split j (64 - j) (by omega), Nat.mul_comm, Nat.mul_mod_mul_left]
        rw [e]; exact h
      · obtain ⟨a1, a2, a3⟩ := left_low (n / M) (n % M) m (64 - m) (by omega) hl
        have h := left_low_walk (n / M) (n % M) m (64 - m) _ _ _ _ (by omega) (by omega) (by omega) (word_up _ _ (64 - m) (by omega)) (word_down _ _ (by omega))
          (word_or _ _ m (by rw [Nat.div_lt_iff_lt_mul (Nat.two_pow_pos _), M_split m (64 - m) (by omega)]; exact hl) a2) (word_up _ _ (64 - m) (by omega)) w
        have e : W (n * 2 ^ m % MM) = wv (2 ^ m * (n / M % 2 ^ (64 - m)) + n % M / 2 ^ (64 - m)) (2 ^ m * (n % M % 2 ^ (64 - m))) := by
          refine W_halves _ _ a3 _ ?_
          rw [← a1, ← en]
        rw [e]; exact h

set_option maxHeartbeats 1000000 in
theorem and_walk (ah al bh bl p q : Nat) (h1 : bits .and .u64 (ah : Int) bh = (p : Int)) (h2 : bits .and .u64 (al : Int) bl = (q : Int)) (w : World) :
    Calls Tryz.prog 67 #[wv ah al, wv bh bl] w fun e w' => e = .returned (wv p q) ∧ Below w.heap.size w w' := by
  go_enter Tryz.func67, Tryz.ntmps67
  go_wp2_with fail
  refine bodyPost_ret (v := wv p q) (by simp [results, Tryz.results67, go_sem]) rfl ⟨rfl, ?_⟩
  exact (((Below.refl _ _).alloc (Nat.le_refl _) _).alloc (by simp) _).alloc (by simp; omega) _

theorem low_lt (n : Nat) : n % M < 18446744073709551616 := by rw [M_eq]; omega

theorem high_lt (n : Nat) (hn : n < MM) : n / M < 18446744073709551616 := by rw [M_eq]; rw [MM_eq] at hn; omega

theorem and_any (n m : Nat) (hn : n < MM) (hm : m < MM) (w : World) :
    Calls Tryz.prog 67 #[W n, W m] w fun e w' => e = .returned (W (n &&& m)) ∧ Below w.heap.size w w' := by
  have h := and_walk (n / M) (n % M) (m / M) (m % M) _ _ (bits_and_u64_nat _ _ (high_lt n hn) (high_lt m hm)) (bits_and_u64_nat _ _ (low_lt n) (low_lt m)) w
  rw [W_of (n &&& m), M_pow, Nat.and_div_two_pow, Nat.and_mod_two_pow, ← M_pow]
  exact h

/-- The first m bits of 128. -/
def maskN (m : Nat) : Nat := MM - 2 ^ (128 - m)

theorem maskN_lt (m : Nat) : maskN m < MM := by
  have := Nat.two_pow_pos (128 - m)
  have h : 0 < MM := by rw [MM_eq]; omega
  unfold maskN; omega

theorem mask_shift (m : Nat) (h1 : 1 ≤ m) (h2 : m ≤ 128) : (MM - 1) * 2 ^ (128 - m) % MM = maskN m := by
  have hp := Nat.two_pow_pos (128 - m)
  have hle : 2 ^ (128 - m) < MM := by rw [MM_pow]; exact Nat.pow_lt_pow_right (by omega) (by omega)
  unfold maskN
  generalize 2 ^ (128 - m) = x at *
  have e : (MM - 1) * x = MM - x + MM * (x - 1) := by
    obtain ⟨y, rfl⟩ : ∃ y, x = y + 1 := ⟨x - 1, by omega⟩
    obtain ⟨z, hz⟩ : ∃ z, MM = z + 1 := ⟨MM - 1, by omega⟩
    rw [hz, Nat.add_sub_cancel, Nat.add_sub_cancel, Nat.mul_add, Nat.add_mul, Nat.mul_one, Nat.one_mul]
    omega
  rw [e, Nat.add_mul_mod_self_left, Nat.mod_eq_of_lt (by omega)]

theorem below_next {a w w1 : World} (h : Below a.heap.size a w) (hb : Below w.heap.size w w1) : Below a.heap.size a w1 := h.trans (hb.mono h.size)

theorem two_cells {w : World} {b : Nat} {p q : Value} {t : TypeId} {fr : Nat × Nat} (h : w.heap[b]? = some (.cells #[p, q] t fr)) :
    w.cell? ⟨b, 0, none⟩ = some p ∧ w.cell? ⟨b, 1, none⟩ = some q := by
  constructor <;> (unfold World.cell?; simp only [h]; rfl)

theorem old_below {w w1 : World} {b : Nat} {c : Obj} (hb : Below w.heap.size w w1) (h : w.heap[b]? = some c) : w1.heap[b]? = some c := by
  rw [hb.block b (Array.getElem?_eq_some_iff.mp h).1]; exact h

theorem pair_set {w : World} {b : Nat} {p q : Value} {t : TypeId} (h : w.heap[b]? = some (.cells #[p, q] t)) (x y : Value) :
    ((w.setCell ⟨b, 0, none⟩ x).setCell ⟨b, 1, none⟩ y).heap[b]? = some (.cells #[x, y] t) :=
  heap_setCell_same _ _ _ _ _ _ (heap_setCell_same _ _ _ _ _ _ h)

set_option maxHeartbeats 1000000 in
theorem mask_walk (m : Int) (h1 : 1 ≤ m) (p q : Nat) (hc1 : 128 < m → ∀ w, Calls Tryz.prog 74 #[.agg #[.int .u64 18446744073709551615, .int .u64 18446744073709551615], .int .i64 0] w fun e w' => e = .returned (wv p q) ∧ Below w.heap.size w w')
    (hc2 : m ≤ 128 → ∀ w, Calls Tryz.prog 74 #[.agg #[.int .u64 18446744073709551615, .int .u64 18446744073709551615], .int .i64 (wrap64 (128 - m))] w fun e w' => e = .returned (wv p q) ∧ Below w.heap.size w w') (w : World) :
    Calls Tryz.prog 68 #[.int .i64 m] w fun e w' => e = .returned (wv p q) ∧ Below w.heap.size w w' := by
  by_cases hm : m ≤ 128
  · have HC1 := Lib.hid (hc2 hm)
    have d1 : decide (m ≤ 0) = false := by simp; omega
    clear hc1 hc2 h1
    go_enter Tryz.func68, Tryz.ntmps68
    go_wp2_with (first
     | (go_at_call 74; refine (HC1.out _).mono ?_; rintro e w1 ⟨rfl, hb1⟩
        have hr := old_below hb1 (heap_alloc2_old w (.cells #[.int .u64 0, .int .u64 0] 111) (.cells #[.int .u64 18446744073709551615, .int .u64 18446744073709551615] 111))
        obtain ⟨c0, c1⟩ := two_cells hr
        have f0 := frozen_of_row _ _ 0 _ _ hr
        have f1 := frozen_of_row _ _ 1 _ _ hr
        have HP := Lib.hid (pair_set hr (.int .u64 p) (.int .u64 q))
        have hB : Below w.heap.size w w1 := (((Below.refl _ _).alloc (Nat.le_refl _) _).alloc (by simp) _).trans (hb1.mono (by simp; omega))
        have HB := Lib.hid ((hB.setCell (p := ⟨w.heap.size, 0, none⟩) (by simp) (.int .u64 p)).setCell (p := ⟨w.heap.size, 1, none⟩) (by simp) (.int .u64 q))
        clear hb1 hB hr)
     | fail)
    obtain ⟨r0, r1⟩ := two_cells HP.out
    have hB := HB.out
    generalize (w1.setCell ⟨w.heap.size, 0, none⟩ (.int .u64 p)).setCell ⟨w.heap.size, 1, none⟩ (.int .u64 q) = W1 at *
    exact bodyPost_ret (v := wv p q) (by simp [results, Tryz.results68, go_sem, r0, r1]) rfl ⟨rfl, hB⟩
  · have HC1 := Lib.hid (hc1 (by omega))
    have d1 : decide (m ≤ 0) = false := by simp; omega
    clear hc1 hc2 h1
    go_enter Tryz.func68, Tryz.ntmps68
    go_wp2_with (first
     | (go_at_call 74; refine (HC1.out _).mono ?_; rintro e w1 ⟨rfl, hb1⟩
        have hr := old_below hb1 (heap_alloc2_old w (.cells #[.int .u64 0, .int .u64 0] 111) (.cells #[.int .u64 18446744073709551615, .int .u64 18446744073709551615] 111))
        obtain ⟨c0, c1⟩ := two_cells hr
        have f0 := frozen_of_row _ _ 0 _ _ hr
        have f1 := frozen_of_row _ _ 1 _ _ hr
        have HP := Lib.hid (pair_set hr (.int .u64 p) (.int .u64 q))
        have hB : Below w.heap.size w w1 := (((Below.refl _ _).alloc (Nat.le_refl _) _).alloc (by simp) _).trans (hb1.mono (by simp; omega))
        have HB := Lib.hid ((hB.setCell (p := ⟨w.heap.size, 0, none⟩) (by simp) (.int .u64 p)).setCell (p := ⟨w.heap.size, 1, none⟩) (by simp) (.int .u64 q))
        clear hb1 hB hr)
     | fail)
    obtain ⟨r0, r1⟩ := two_cells HP.out
    have hB := HB.out
    generalize (w1.setCell ⟨w.heap.size, 0, none⟩ (.int .u64 p)).setCell ⟨w.heap.size, 1, none⟩ (.int .u64 q) = W1 at *
    exact bodyPost_ret (v := wv p q) (by simp [results, Tryz.results68, go_sem, r0, r1]) rfl ⟨rfl, hB⟩

set_option maxHeartbeats 1000000 in
theorem mask_none (m : Int) (h1 : m ≤ 0) (w : World) :
    Calls Tryz.prog 68 #[.int .i64 m] w fun e w' => e = .returned (wv 0 0) ∧ Below w.heap.size w w' := by
  have d1 : decide (m ≤ 0) = true := by simp; omega
  clear h1
  go_enter Tryz.func68, Tryz.ntmps68
  go_wp2_with fail
  refine bodyPost_ret (v := wv 0 0) (by simp [results, Tryz.results68, go_sem]) rfl ⟨rfl, ?_⟩
  exact ((Below.refl _ _).alloc (Nat.le_refl _) _).alloc (by simp) _

theorem ones : W (MM - 1) = .agg #[.int .u64 18446744073709551615, .int .u64 18446744073709551615] := by
  rw [W, MM_eq, M_eq]; rfl

set_option maxHeartbeats 1000000 in
theorem mask_any (m : Int) (w : World) :
    Calls Tryz.prog 68 #[.int .i64 m] w fun e w' => e = .returned (W (maskN (min m.toNat 128))) ∧ Below w.heap.size w w' := by
  by_cases h : m ≤ 0
  · have e : maskN (min m.toNat 128) = 0 := by rw [show m.toNat = 0 by omega]; decide
    rw [e]; exact mask_none m h w
  · have hlt : MM - 1 < MM := by rw [MM_eq]; omega
    refine mask_walk m (by omega) _ _ (fun hm w => ?_) (fun hm w => ?_) w
    · have hc := left_any (MM - 1) hlt 0 w
      rw [show min m.toNat 128 = 128 by omega, ← mask_shift 128 (by omega) (by omega), ← W_of]
      rw [ones, show (0 : Int).toNat = 128 - 128 from rfl] at hc; exact hc
    · have hc := left_any (MM - 1) hlt (128 - m) w
      have ew : wrap64 (128 - m) = 128 - m := by
        unfold wrap64
        omega
      rw [← mask_shift (min m.toNat 128) (by omega) (by omega), ← W_of, ew, show 128 - min m.toNat 128 = (128 - m).toNat by omega]
      rw [ones] at hc; exact hc

/-! A drawn region that reads and calls, walked once, in the order of the text: C is what stays. -/
section
variable {P : Program} {ops : Array Oper} {C : World → Prop} {Q : Act → Prop} {a : Act} {o : Oper} {rest : List Oper}
/-- An operation that yields v in every world of C. -/
theorem qv {K : Act → Prop} {v : Value} (h : ∀ w, C w → (execOp a.eval o).run P w = .ok (.value v) w) (hk : K (a.put o.dst v)) : o.quiet P a C K :=
  ⟨v, fun w hw => by unfold Oper.quietAt; rw [h w hw]; exact ⟨rfl, rfl⟩, hk⟩
/-- A call that gives v and leaves what stays. -/
theorem qg {K : Act → Prop} {v : Value} {f : FuncId} {args : Array Value} (hC : ∀ w w', C w → Below w.heap.size w w' → C w') (hg : ∀ w, Calls P f args w fun e w' => e = .returned v ∧ Below w.heap.size w w')
    (h : ∀ w, C w → (execOp a.eval o).run P w = .ok (.enter f args) w) (hk : K (a.put o.dst v)) : o.quiet P a C K :=
  ⟨v, fun w hw => by unfold Oper.quietAt; rw [h w hw]; exact ⟨rfl, (hg w).mono fun e w' he => ⟨he.1, hC _ _ hw he.2⟩⟩, hk⟩
end

/-- A drawn region beside boxes that stay. -/
theorem wp_region_Bx {id : Nat} {ops : Array Oper} {Q : Exit → Act → World → Prop} {a : Act} {w W : World} {l : List (Nat × TypeId × Array Value)} (hB : Region.lexB .any ops = true) (hx : Bx w W l)
    (h : wpQuiet Tryz.prog ops (fun V => Bx w V l) (fun a' => ∀ w', Bx w w' l → Q .normal a' w') ops.toList a) : (Code.region id ops true).wp Tryz.prog Q a W :=
  wp_region_quiet (C := fun V => Bx w V l) (by kernel_rfl) hB hx.drew h
theorem Bx.stay {w : World} {l : List (Nat × TypeId × Array Value)} : ∀ V V', Bx w V l → Below V.heap.size V V' → Bx w V' l := fun _ _ h hb => h.next hb

/-- A block of n cells that is to be filled. -/
def Rx (W : World) (r : Nat) (t : TypeId) (n : Nat) : Prop := ∃ old : Array Value, W.heap[r]? = some (.cells old t (0, 0)) ∧ old.size = n
theorem Rx.next {W V : World} {r t n : Nat} (hb : Below W.heap.size W V) (h : Rx W r t n) : Rx V r t n := by
  obtain ⟨old, h, hn⟩ := h
  exact ⟨old, old_below0 hb h, hn⟩
theorem Rx.drew {W : World} {r t n : Nat} (h : Rx W r t n) : Rx W.drew r t n := h
theorem Rx.cell {W : World} {r t n : Nat} (h : Rx W r t n) (i : Nat) (hi : i < n) : ∃ v, W.cell? ⟨r, i, none⟩ = some v ∧ W.frozen? ⟨r, i, none⟩ = false := by
  obtain ⟨old, h, hn⟩ := h
  exact ⟨old[i]'(by omega), by rw [cell_of_row _ _ _ _ _ _ h]; exact Array.getElem?_eq_getElem (by omega), frozen_of_row _ _ _ _ _ h⟩
theorem Rx.set {W : World} {r t n : Nat} (h : Rx W r t n) (i : Nat) (v : Value) : Rx (W.setCell ⟨r, i, none⟩ v) r t n := by
  obtain ⟨old, h, hn⟩ := h
  exact ⟨_, heap_setCell_same _ _ _ _ _ _ h, by simpa using hn⟩
theorem Bx.cell {w W : World} (r i : Nat) (v : Value) (hg : w.heap.size ≤ r) : ∀ {l : List (Nat × TypeId × Array Value)}, Bx w W l → (∀ x ∈ l, x.1 ≠ r) → Bx w (W.setCell ⟨r, i, none⟩ v) l
  | [], h, _ => Below.setCell h hg v
  | x :: _, h, hn => ⟨by rw [heap_setCell_other _ _ _ _ (hn x (by simp))]; exact h.1, Bx.cell r i v hg h.2 (fun y hy => hn y (by simp [hy]))⟩
theorem Rx.set2 {W : World} {r : Nat} {t : TypeId} (h : Rx W r t 2) (a0 a1 : Value) : ((W.setCell ⟨r, 0, none⟩ a0).setCell ⟨r, 1, none⟩ a1).heap[r]? = some (.cells #[a0, a1] t (0, 0)) := by
  obtain ⟨old, h, hn⟩ := h
  match old, hn with
  | ⟨[o0, o1]⟩, _ => exact heap_setCell_same _ _ _ _ _ _ (heap_setCell_same _ _ _ _ _ _ (h))
theorem Rx.set5 {W : World} {r : Nat} {t : TypeId} (h : Rx W r t 5) (a0 a1 a2 a3 a4 : Value) : (((((W.setCell ⟨r, 0, none⟩ a0).setCell ⟨r, 1, none⟩ a1).setCell ⟨r, 2, none⟩ a2).setCell ⟨r, 3, none⟩ a3).setCell ⟨r, 4, none⟩ a4).heap[r]? = some (.cells #[a0, a1, a2, a3, a4] t (0, 0)) := by
  obtain ⟨old, h, hn⟩ := h
  match old, hn with
  | ⟨[o0, o1, o2, o3, o4]⟩, _ => exact heap_setCell_same _ _ _ _ _ _ (heap_setCell_same _ _ _ _ _ _ (heap_setCell_same _ _ _ _ _ _ (heap_setCell_same _ _ _ _ _ _ (heap_setCell_same _ _ _ _ _ _ (h)))))

theorem size111 : (Tryz.prog.info? 111).map (·.size) = some 2 := by kernel_rfl
theorem size31 : (Tryz.prog.info? 31).map (·.size) = some 5 := by kernel_rfl
theorem one2 (a b : Int) : (#[Value.int .u64 a, .int .u64 b] : Array Value).all (·.oneCell') = true := by
  simp
  exact ⟨rfl, rfl⟩
theorem one5 (a b : Int) (c d : Int) (s : ByteArray) : (#[Value.int .i64 a, .int .i64 b, .int .u64 c, .int .u64 d, .string s] : Array Value).all (·.oneCell') = true := by
  simp
  exact ⟨rfl, rfl, rfl, rfl, rfl⟩

end Go.Proofs.YtcbahkfbdlhabaaGreatDoor
namespace Go.Proofs.YtcbahkfbdlhabaaGreatDoor
set_option linter.unusedVariables false
set_option linter.unusedSimpArgs false
open Go.RowKit

def widthI (k : Int) : Int := if k = 1 then 32 else if k = 2 then 128 else if k = 3 then 8 else 0
theorem widthI_le (k : Int) : 0 ≤ widthI k ∧ widthI k ≤ 128 := by
  unfold widthI
  repeat' split
  all_goals decide
set_option maxRecDepth 100000 in
theorem width_any (k : Int) (w : World) : Calls Tryz.prog 44 #[.int .i64 k] w fun e w' => e = .returned (.int .i64 (widthI k)) ∧ w = w' := by
  rcases (show k = 1 ∨ k = 2 ∨ k = 3 ∨ ((k == 1) = false ∧ (k == 2) = false ∧ (k == 3) = false) by simp only [beq_eq_false_iff_ne]; omega) with rfl | rfl | rfl | ⟨k1, k2, k3⟩
  · go_enter Tryz.func44, Tryz.ntmps44
    go_wp2_with fail
    go_ret
    exact ⟨rfl, rfl⟩
  · go_enter Tryz.func44, Tryz.ntmps44
    go_wp2_with fail
    go_ret
    exact ⟨rfl, rfl⟩
  · go_enter Tryz.func44, Tryz.ntmps44
    go_wp2_with fail
    go_ret
    exact ⟨rfl, rfl⟩
  · have e : widthI k = 0 := by simp only [beq_eq_false_iff_ne] at k1 k2 k3; unfold widthI; rw [if_neg k1, if_neg k2, if_neg k3]
    rw [e]
    clear e
    go_enter Tryz.func44, Tryz.ntmps44
    go_wp2_with fail
    go_ret
    exact ⟨rfl, rfl⟩
theorem width_gives (k : Int) : Gives 44 #[.int .i64 k] (.int .i64 (widthI k)) := fun w => (width_any k w).mono (fun e w' h => ⟨h.1, by rw [← h.2]; exact Below.refl _ _⟩)
def dimR (k s t : Int) : Bool := (s == 1 || s == 2) && decide (1 ≤ t) && decide (t ≤ widthI k)
abbrev dv (k s t : Int) : Value := .agg #[.int .i64 k, .int .i64 s, .int .i64 t]
set_option maxRecDepth 100000 in
theorem dimRight_1 (k s t : Int) (h1 : (s == 1) = true) (h2 : decide (1 ≤ t) = true) (w : World) : Calls Tryz.prog 31 #[.agg #[.int .i64 k, .int .i64 s, .int .i64 t]] w fun e w' => e = .returned (.bool (decide (t ≤ widthI k))) ∧ Below w.heap.size w w' := by
  go_enter Tryz.func31, Tryz.ntmps31
  go_wp2_with (first
    | (obtain ⟨v0, hw⟩ : ∃ v0, w.alloc (.cells #[.int .i64 k, .int .i64 s, .int .i64 t] 23) = v0 := ⟨_, rfl⟩
       rewrite [hw]
       have hX := Bx.new (Bx.nil w) 23 #[.int .i64 k, .int .i64 s, .int .i64 t]
       (try simp only [World.size_alloc] at hX)
       rewrite [hw] at hX
       have HX0 : Hid (Bx w v0 [(w.heap.size, 23, #[.int .i64 k, .int .i64 s, .int .i64 t])]) := hX
       clear hw hX
       obtain ⟨r0_0, r0_1, r0_2⟩ := cells3 HX0.out.1))
  clear r0_0 r0_1 r0_2
  refine wp_region_Bx (by kernel_rfl) HX0.out ?_
  dsimp only
  repeat (first
    | go_big_quiet_skip
    | (go_big_quiet_want
       (first | (refine qv (v := ?_) ?_ ?_; rotate_left; · (intro w9 hS9; obtain ⟨k0_0, k0_1, k0_2⟩ := cells3 hS9.1; go_simp); all_goals (with_reducible rfl)) | (refine qg Bx.stay (width_gives k) ?_ ?_; · (intro w9 hS9; obtain ⟨k0_0, k0_1, k0_2⟩ := cells3 hS9.1; go_simp)))
       (try simp only [Act.put, zA, zB, zC])
       go_big_quiet_on))
  refine wpQuiet_nil ?_
  intro wq hq
  go_wp2_with fail
  go_ret
  exact ⟨rfl, Bx.below hq⟩
set_option maxRecDepth 100000 in
theorem dimRight_2 (k s t : Int) (h1 : (s == 1) = false) (h1' : (s == 2) = true) (h2 : decide (1 ≤ t) = true) (w : World) : Calls Tryz.prog 31 #[.agg #[.int .i64 k, .int .i64 s, .int .i64 t]] w fun e w' => e = .returned (.bool (decide (t ≤ widthI k))) ∧ Below w.heap.size w w' := by
  go_enter Tryz.func31, Tryz.ntmps31
  go_wp2_with (first
    | (obtain ⟨v0, hw⟩ : ∃ v0, w.alloc (.cells #[.int .i64 k, .int .i64 s, .int .i64 t] 23) = v0 := ⟨_, rfl⟩
       rewrite [hw]
       have hX := Bx.new (Bx.nil w) 23 #[.int .i64 k, .int .i64 s, .int .i64 t]
       (try simp only [World.size_alloc] at hX)
       rewrite [hw] at hX
       have HX0 : Hid (Bx w v0 [(w.heap.size, 23, #[.int .i64 k, .int .i64 s, .int .i64 t])]) := hX
       clear hw hX
       obtain ⟨r0_0, r0_1, r0_2⟩ := cells3 HX0.out.1))
  clear r0_0 r0_1 r0_2
  refine wp_region_Bx (by kernel_rfl) HX0.out ?_
  dsimp only
  repeat (first
    | go_big_quiet_skip
    | (go_big_quiet_want
       (first | (refine qv (v := ?_) ?_ ?_; rotate_left; · (intro w9 hS9; obtain ⟨k0_0, k0_1, k0_2⟩ := cells3 hS9.1; go_simp); all_goals (with_reducible rfl)) | (refine qg Bx.stay (width_gives k) ?_ ?_; · (intro w9 hS9; obtain ⟨k0_0, k0_1, k0_2⟩ := cells3 hS9.1; go_simp)))
       (try simp only [Act.put, zA, zB, zC])
       go_big_quiet_on))
  refine wpQuiet_nil ?_
  intro wq hq
  go_wp2_with fail
  go_ret
  exact ⟨rfl, Bx.below hq⟩
set_option maxRecDepth 100000 in
theorem dimRight_3 (k s t : Int) (h1 : (s == 1) = true) (h2 : decide (1 ≤ t) = false) (w : World) : Calls Tryz.prog 31 #[.agg #[.int .i64 k, .int .i64 s, .int .i64 t]] w fun e w' => e = .returned (.bool false) ∧ Below w.heap.size w w' := by
  go_enter Tryz.func31, Tryz.ntmps31
  go_wp2_with (first
    | (obtain ⟨v0, hw⟩ : ∃ v0, w.alloc (.cells #[.int .i64 k, .int .i64 s, .int .i64 t] 23) = v0 := ⟨_, rfl⟩
       rewrite [hw]
       have hX := Bx.new (Bx.nil w) 23 #[.int .i64 k, .int .i64 s, .int .i64 t]
       (try simp only [World.size_alloc] at hX)
       rewrite [hw] at hX
       have HX0 : Hid (Bx w v0 [(w.heap.size, 23, #[.int .i64 k, .int .i64 s, .int .i64 t])]) := hX
       clear hw hX
       obtain ⟨r0_0, r0_1, r0_2⟩ := cells3 HX0.out.1))
  clear r0_0 r0_1 r0_2
  refine wp_region_Bx (by kernel_rfl) HX0.out ?_
  dsimp only
  repeat (first
    | go_big_quiet_skip
    | (go_big_quiet_want
       (refine qv (v := ?_) ?_ ?_; rotate_left; · (intro w9 hS9; obtain ⟨k0_0, k0_1, k0_2⟩ := cells3 hS9.1; go_simp); all_goals (with_reducible rfl))
       (try simp only [Act.put, zA, zB, zC])
       go_big_quiet_on))
  refine wpQuiet_nil ?_
  intro wq hq
  go_wp2_with fail
  go_ret
  exact ⟨rfl, Bx.below hq⟩
set_option maxRecDepth 100000 in
theorem dimRight_4 (k s t : Int) (h1 : (s == 1) = false) (h1' : (s == 2) = true) (h2 : decide (1 ≤ t) = false) (w : World) : Calls Tryz.prog 31 #[.agg #[.int .i64 k, .int .i64 s, .int .i64 t]] w fun e w' => e = .returned (.bool false) ∧ Below w.heap.size w w' := by
  go_enter Tryz.func31, Tryz.ntmps31
  go_wp2_with (first
    | (obtain ⟨v0, hw⟩ : ∃ v0, w.alloc (.cells #[.int .i64 k, .int .i64 s, .int .i64 t] 23) = v0 := ⟨_, rfl⟩
       rewrite [hw]
       have hX := Bx.new (Bx.nil w) 23 #[.int .i64 k, .int .i64 s, .int .i64 t]
       (try simp only [World.size_alloc] at hX)
       rewrite [hw] at hX
       have HX0 : Hid (Bx w v0 [(w.heap.size, 23, #[.int .i64 k, .int .i64 s, .int .i64 t])]) := hX
       clear hw hX
       obtain ⟨r0_0, r0_1, r0_2⟩ := cells3 HX0.out.1))
  clear r0_0 r0_1 r0_2
  refine wp_region_Bx (by kernel_rfl) HX0.out ?_
  dsimp only
  repeat (first
    | go_big_quiet_skip
    | (go_big_quiet_want
       (refine qv (v := ?_) ?_ ?_; rotate_left; · (intro w9 hS9; obtain ⟨k0_0, k0_1, k0_2⟩ := cells3 hS9.1; go_simp); all_goals (with_reducible rfl))
       (try simp only [Act.put, zA, zB, zC])
       go_big_quiet_on))
  refine wpQuiet_nil ?_
  intro wq hq
  go_wp2_with fail
  go_ret
  exact ⟨rfl, Bx.below hq⟩
set_option maxRecDepth 100000 in
theorem dimRight_5 (k s t : Int) (h1 : (s == 1) = false) (h1' : (s == 2) = false) (w : World) : Calls Tryz.prog 31 #[.agg #[.int .i64 k, .int .i64 s, .int .i64 t]] w fun e w' => e = .returned (.bool false) ∧ Below w.heap.size w w' := by
  go_enter Tryz.func31, Tryz.ntmps31
  go_wp2_with (first
    | (obtain ⟨v0, hw⟩ : ∃ v0, w.alloc (.cells #[.int .i64 k, .int .i64 s, .int .i64 t] 23) = v0 := ⟨_, rfl⟩
       rewrite [hw]
       have hX := Bx.new (Bx.nil w) 23 #[.int .i64 k, .int .i64 s, .int .i64 t]
       (try simp only [World.size_alloc] at hX)
       rewrite [hw] at hX
       have HX0 : Hid (Bx w v0 [(w.heap.size, 23, #[.int .i64 k, .int .i64 s, .int .i64 t])]) := hX
       clear hw hX
       obtain ⟨r0_0, r0_1, r0_2⟩ := cells3 HX0.out.1))
  clear r0_0 r0_1 r0_2
  refine wp_region_Bx (by kernel_rfl) HX0.out ?_
  dsimp only
  repeat (first
    | go_big_quiet_skip
    | (go_big_quiet_want
       (refine qv (v := ?_) ?_ ?_; rotate_left; · (intro w9 hS9; obtain ⟨k0_0, k0_1, k0_2⟩ := cells3 hS9.1; go_simp); all_goals (with_reducible rfl))
       (try simp only [Act.put, zA, zB, zC])
       go_big_quiet_on))
  refine wpQuiet_nil ?_
  intro wq hq
  go_wp2_with fail
  go_ret
  exact ⟨rfl, Bx.below hq⟩
theorem dimRight_gives (k s t : Int) : Gives 31 #[dv k s t] (.bool (dimR k s t)) := fun w => by
  unfold dimR
  cases h1 : (s == 1) <;> cases h1' : (s == 2) <;> cases h2 : decide (1 ≤ t)
  all_goals simp only [Bool.true_and, Bool.false_and, Bool.or_true, Bool.or_false, Bool.true_or, Bool.or_self]
  · exact dimRight_5 k s t h1 h1' w
  · exact dimRight_5 k s t h1 h1' w
  · exact dimRight_4 k s t h1 h1' h2 w
  · exact dimRight_2 k s t h1 h1' h2 w
  · exact dimRight_3 k s t h1 h2 w
  · exact dimRight_1 k s t h1 h2 w
  · exact dimRight_3 k s t h1 h2 w
  · exact dimRight_1 k s t h1 h2 w
theorem dimR_step {k s t : Int} (h : dimR k s t = true) : 1 ≤ t ∧ t ≤ widthI k := by
  unfold dimR at h
  simp only [Bool.and_eq_true, decide_eq_true_eq] at h
  exact ⟨h.1.2, h.2⟩
def depthI (k s t : Int) : Int := if dimR k s t then (widthI k + t - 1) / t else 0
theorem depthI_le (k s t : Int) : 0 ≤ depthI k s t ∧ depthI k s t ≤ 128 := by
  unfold depthI
  split
  · have h := dimR_step (by assumption)
    have := widthI_le k
    refine ⟨Int.ediv_nonneg (by omega) (by omega), ?_⟩
    have : (widthI k + t - 1) / t < 129 := Int.ediv_lt_of_lt_mul (by omega) (by
      have : 1 * (widthI k + t - 1 + 1) ≤ 129 * t := by
        have h2 : widthI k + t ≤ 128 + t := by omega
        have h3 : 128 * 1 ≤ 128 * t := Int.mul_le_mul_of_nonneg_left (by omega) (by omega)
        omega
      omega)
    omega
  · omega
set_option maxRecDepth 100000 in
theorem depth_bad (k s t : Int) (h : dimR k s t = false) (w : World) : Calls Tryz.prog 42 #[.agg #[.int .i64 k, .int .i64 s, .int .i64 t]] w fun e w' => e = .returned (.int .i64 0) ∧ Below w.heap.size w w' := by
  have HR := h
  go_enter Tryz.func42, Tryz.ntmps42
  go_wp2_with (first
    | (obtain ⟨v0, hw⟩ : ∃ v0, w.alloc (.cells #[.int .i64 k, .int .i64 s, .int .i64 t] 23) = v0 := ⟨_, rfl⟩
       rewrite [hw]
       have hX := Bx.new (Bx.nil w) 23 #[.int .i64 k, .int .i64 s, .int .i64 t]
       (try simp only [World.size_alloc] at hX)
       rewrite [hw] at hX
       have HX0 : Hid (Bx w v0 [(w.heap.size, 23, #[.int .i64 k, .int .i64 s, .int .i64 t])]) := hX
       clear hw hX
       obtain ⟨r0_0, r0_1, r0_2⟩ := cells3 HX0.out.1)
    | (go_at_call 31; (with_reducible refine ((dimRight_gives k s t) _).mono ?_); rintro e v1 ⟨rfl, hb⟩
       have HX1 := Lib.hid (Bx.next hb HX0.out)
       clear hb r0_0 r0_1 r0_2
       obtain ⟨r0_0, r0_1, r0_2⟩ := cells3 HX1.out.1))
  go_ret
  exact ⟨rfl, Bx.below HX1.out⟩
set_option maxRecDepth 100000 in
theorem depth_ok (k s t wd : Int) (h : dimR k s t = true) (hw : widthI k = wd) (w : World) : Calls Tryz.prog 42 #[.agg #[.int .i64 k, .int .i64 s, .int .i64 t]] w fun e w' => e = .returned (.int .i64 ((wd + t - 1) / t)) ∧ Below w.heap.size w w' := by
  have HR := h
  have h2 := dimR_step h
  have h3 := widthI_le k
  rw [hw] at h2 h3
  have HW : Gives 44 #[.int .i64 k] (.int .i64 wd) := by rw [← hw]; exact width_gives k
  have e1 : IntKind.i64.wrap (wd + t) = wd + t := IntWalk.i64_in _ (by omega)
  have e1' : wrap64 (wd + t) = wd + t := IntWalk.wrap64_in _ (by omega)
  have e2 : IntKind.i64.wrap (wd + t - 1) = wd + t - 1 := IntWalk.i64_in _ (by omega)
  have e2' : wrap64 (wd + t - 1) = wd + t - 1 := IntWalk.wrap64_in _ (by omega)
  have z : t ≠ 0 := by omega
  have z' : (t == 0) = false := by simpa using z
  have q : Int.tdiv (wd + t - 1) t = (wd + t - 1) / t := Int.tdiv_eq_ediv_of_nonneg (by omega)
  have q0 : 0 ≤ (wd + t - 1) / t := Int.ediv_nonneg (by omega) (by omega)
  have q1 : (wd + t - 1) / t ≤ wd + t - 1 := Int.ediv_le_self _ (by omega)
  have e3 : IntKind.i64.wrap ((wd + t - 1) / t) = (wd + t - 1) / t := IntWalk.i64_in _ (by omega)
  have e3' : wrap64 ((wd + t - 1) / t) = (wd + t - 1) / t := IntWalk.wrap64_in _ (by omega)
  clear h2 h3 hw q0 q1
  go_enter Tryz.func42, Tryz.ntmps42
  go_wp2_with (first
    | (obtain ⟨v0, hw⟩ : ∃ v0, w.alloc (.cells #[.int .i64 k, .int .i64 s, .int .i64 t] 23) = v0 := ⟨_, rfl⟩
       rewrite [hw]
       have hX := Bx.new (Bx.nil w) 23 #[.int .i64 k, .int .i64 s, .int .i64 t]
       (try simp only [World.size_alloc] at hX)
       rewrite [hw] at hX
       have HX0 : Hid (Bx w v0 [(w.heap.size, 23, #[.int .i64 k, .int .i64 s, .int .i64 t])]) := hX
       clear hw hX
       obtain ⟨r0_0, r0_1, r0_2⟩ := cells3 HX0.out.1)
    | (go_at_call 31; (with_reducible refine ((dimRight_gives k s t) _).mono ?_); rintro e v1 ⟨rfl, hb⟩
       have HX1 := Lib.hid (Bx.next hb HX0.out)
       clear hb r0_0 r0_1 r0_2
       obtain ⟨r0_0, r0_1, r0_2⟩ := cells3 HX1.out.1)
    | (go_at_call 44; (with_reducible refine ((HW) _).mono ?_); rintro e v2 ⟨rfl, hb⟩
       have HX2 := Lib.hid (Bx.next hb HX1.out)
       clear hb r0_0 r0_1 r0_2
       obtain ⟨r0_0, r0_1, r0_2⟩ := cells3 HX2.out.1))
  go_ret
  exact ⟨rfl, Bx.below HX2.out⟩
theorem depth_gives (k s t : Int) : Gives 42 #[dv k s t] (.int .i64 (depthI k s t)) := fun w => by
  cases h : dimR k s t
  · rw [show depthI k s t = 0 by unfold depthI; rw [if_neg (by rw [h]; simp)]]
    exact depth_bad k s t h w
  · rw [show depthI k s t = (widthI k + t - 1) / t by unfold depthI; rw [if_pos h]]
    exact depth_ok k s t _ h rfl w
def lenI (k s t l : Int) : Int := if dimR k s t = false ∨ l < 0 ∨ depthI k s t < l then -1 else max 0 (widthI k - l * t)
set_option maxRecDepth 100000 in
theorem len_bad (k s t l : Int) (h : dimR k s t = false) (w : World) : Calls Tryz.prog 35 #[.agg #[.int .i64 k, .int .i64 s, .int .i64 t], .int .i64 l] w fun e w' => e = .returned (.int .i64 (-1)) ∧ Below w.heap.size w w' := by
  go_enter Tryz.func35, Tryz.ntmps35
  go_wp2_with (first
    | (obtain ⟨v0, hw⟩ : ∃ v0, w.alloc (.cells #[.int .i64 k, .int .i64 s, .int .i64 t] 23) = v0 := ⟨_, rfl⟩
       rewrite [hw]
       have hX := Bx.new (Bx.nil w) 23 #[.int .i64 k, .int .i64 s, .int .i64 t]
       (try simp only [World.size_alloc] at hX)
       rewrite [hw] at hX
       have HX0 : Hid (Bx w v0 [(w.heap.size, 23, #[.int .i64 k, .int .i64 s, .int .i64 t])]) := hX
       clear hw hX
       obtain ⟨r0_0, r0_1, r0_2⟩ := cells3 HX0.out.1)
    | (go_at_call 31; (with_reducible refine ((dimRight_gives k s t) _).mono ?_); rintro e v1 ⟨rfl, hb⟩
       have HX1 := Lib.hid (Bx.next hb HX0.out)
       clear hb r0_0 r0_1 r0_2
       obtain ⟨r0_0, r0_1, r0_2⟩ := cells3 HX1.out.1))
  go_ret
  exact ⟨rfl, Bx.below HX1.out⟩
set_option maxRecDepth 100000 in
theorem len_neg (k s t l : Int) (h : dimR k s t = true) (h2 : decide (l < 0) = true) (w : World) : Calls Tryz.prog 35 #[.agg #[.int .i64 k, .int .i64 s, .int .i64 t], .int .i64 l] w fun e w' => e = .returned (.int .i64 (-1)) ∧ Below w.heap.size w w' := by
  go_enter Tryz.func35, Tryz.ntmps35
  go_wp2_with (first
    | (obtain ⟨v0, hw⟩ : ∃ v0, w.alloc (.cells #[.int .i64 k, .int .i64 s, .int .i64 t] 23) = v0 := ⟨_, rfl⟩
       rewrite [hw]
       have hX := Bx.new (Bx.nil w) 23 #[.int .i64 k, .int .i64 s, .int .i64 t]
       (try simp only [World.size_alloc] at hX)
       rewrite [hw] at hX
       have HX0 : Hid (Bx w v0 [(w.heap.size, 23, #[.int .i64 k, .int .i64 s, .int .i64 t])]) := hX
       clear hw hX
       obtain ⟨r0_0, r0_1, r0_2⟩ := cells3 HX0.out.1)
    | (go_at_call 31; (with_reducible refine ((dimRight_gives k s t) _).mono ?_); rintro e v1 ⟨rfl, hb⟩
       have HX1 := Lib.hid (Bx.next hb HX0.out)
       clear hb r0_0 r0_1 r0_2
       obtain ⟨r0_0, r0_1, r0_2⟩ := cells3 HX1.out.1))
  go_ret
  exact ⟨rfl, Bx.below HX1.out⟩
set_option maxRecDepth 100000 in
theorem len_over (k s t l dp : Int) (h : dimR k s t = true) (hd : depthI k s t = dp) (h2 : decide (l < 0) = false) (h3 : decide (dp < l) = true) (w : World) : Calls Tryz.prog 35 #[.agg #[.int .i64 k, .int .i64 s, .int .i64 t], .int .i64 l] w fun e w' => e = .returned (.int .i64 (-1)) ∧ Below w.heap.size w w' := by
  have HD : Gives 42 #[dv k s t] (.int .i64 dp) := by rw [← hd]; exact depth_gives k s t
  clear hd
  go_enter Tryz.func35, Tryz.ntmps35
  go_wp2_with (first
    | (obtain ⟨v0, hw⟩ : ∃ v0, w.alloc (.cells #[.int .i64 k, .int .i64 s, .int .i64 t] 23) = v0 := ⟨_, rfl⟩
       rewrite [hw]
       have hX := Bx.new (Bx.nil w) 23 #[.int .i64 k, .int .i64 s, .int .i64 t]
       (try simp only [World.size_alloc] at hX)
       rewrite [hw] at hX
       have HX0 : Hid (Bx w v0 [(w.heap.size, 23, #[.int .i64 k, .int .i64 s, .int .i64 t])]) := hX
       clear hw hX
       obtain ⟨r0_0, r0_1, r0_2⟩ := cells3 HX0.out.1)
    | (go_at_call 31; (with_reducible refine ((dimRight_gives k s t) _).mono ?_); rintro e v1 ⟨rfl, hb⟩
       have HX1 := Lib.hid (Bx.next hb HX0.out)
       clear hb r0_0 r0_1 r0_2
       obtain ⟨r0_0, r0_1, r0_2⟩ := cells3 HX1.out.1)
    | (go_at_call 42; (with_reducible refine ((HD) _).mono ?_); rintro e v2 ⟨rfl, hb⟩
       have HX2 := Lib.hid (Bx.next hb HX1.out)
       clear hb r0_0 r0_1 r0_2
       obtain ⟨r0_0, r0_1, r0_2⟩ := cells3 HX2.out.1))
  go_ret
  exact ⟨rfl, Bx.below HX2.out⟩
set_option maxRecDepth 100000 in
theorem len_ok (k s t l dp wd mx : Int) (h : dimR k s t = true) (hd : depthI k s t = dp) (hw : widthI k = wd) (h2 : decide (l < 0) = false) (h3 : decide (dp < l) = false) (hm : (if l * t < wd then wd - l * t else 0) = mx) (w : World) : Calls Tryz.prog 35 #[.agg #[.int .i64 k, .int .i64 s, .int .i64 t], .int .i64 l] w fun e w' => e = .returned (.int .i64 mx) ∧ Below w.heap.size w w' := by
  have b1 := dimR_step h
  have b2 := widthI_le k
  have b3 := depthI_le k s t
  rw [hw] at b1 b2
  rw [hd] at b3
  have b4 : 0 ≤ l := by simpa using h2
  have b5 : l ≤ dp := by simpa using h3
  have m1 : 0 ≤ l * t := Int.mul_nonneg b4 (by omega)
  have m2 : l * t ≤ 128 * 128 := Int.mul_le_mul (by omega) (by omega) (by omega) (by omega)
  have HD : Gives 42 #[dv k s t] (.int .i64 dp) := by rw [← hd]; exact depth_gives k s t
  have HW : Gives 44 #[.int .i64 k] (.int .i64 wd) := by rw [← hw]; exact width_gives k
  have e1 : IntKind.i64.wrap (l * t) = l * t := IntWalk.i64_in _ (by omega)
  have e1' : wrap64 (l * t) = l * t := IntWalk.wrap64_in _ (by omega)
  have e2 : IntKind.i64.wrap (wd - l * t) = wd - l * t := IntWalk.i64_in _ (by omega)
  have e2' : wrap64 (wd - l * t) = wd - l * t := IntWalk.wrap64_in _ (by omega)
  clear hd hw b1 b2 b3 b4 b5 m1 m2
  go_enter Tryz.func35, Tryz.ntmps35
  go_wp2_with (first
    | (obtain ⟨v0, hw⟩ : ∃ v0, w.alloc (.cells #[.int .i64 k, .int .i64 s, .int .i64 t] 23) = v0 := ⟨_, rfl⟩
       rewrite [hw]
       have hX := Bx.new (Bx.nil w) 23 #[.int .i64 k, .int .i64 s, .int .i64 t]
       (try simp only [World.size_alloc] at hX)
       rewrite [hw] at hX
       have HX0 : Hid (Bx w v0 [(w.heap.size, 23, #[.int .i64 k, .int .i64 s, .int .i64 t])]) := hX
       clear hw hX
       obtain ⟨r0_0, r0_1, r0_2⟩ := cells3 HX0.out.1)
    | (go_at_call 31; (with_reducible refine ((dimRight_gives k s t) _).mono ?_); rintro e v1 ⟨rfl, hb⟩
       have HX1 := Lib.hid (Bx.next hb HX0.out)
       clear hb r0_0 r0_1 r0_2
       obtain ⟨r0_0, r0_1, r0_2⟩ := cells3 HX1.out.1)
    | (go_at_call 42; (with_reducible refine ((HD) _).mono ?_); rintro e v2 ⟨rfl, hb⟩
       have HX2 := Lib.hid (Bx.next hb HX1.out)
       clear hb r0_0 r0_1 r0_2
       obtain ⟨r0_0, r0_1, r0_2⟩ := cells3 HX2.out.1))
  clear r0_0 r0_1 r0_2
  refine wp_region_Bx (by kernel_rfl) HX2.out ?_
  dsimp only
  repeat (first
    | go_big_quiet_skip
    | (go_big_quiet_want
       (first | (refine qv (v := ?_) ?_ ?_; rotate_left; · (intro w9 hS9; obtain ⟨k0_0, k0_1, k0_2⟩ := cells3 hS9.1; go_simp); all_goals (with_reducible rfl)) | (refine qg Bx.stay (HW) ?_ ?_; · (intro w9 hS9; obtain ⟨k0_0, k0_1, k0_2⟩ := cells3 hS9.1; go_simp)))
       (try simp only [Act.put, zA, zB, zC])
       go_big_quiet_on))
  refine wpQuiet_nil ?_
  intro wq hq
  go_wp2_with fail
  go_ret
  exact ⟨rfl, Bx.below hq⟩
theorem len_gives (k s t l : Int) : Gives 35 #[dv k s t, .int .i64 l] (.int .i64 (lenI k s t l)) := fun w => by
  unfold lenI
  cases h : dimR k s t
  · rw [if_pos (Or.inl rfl)]; exact len_bad k s t l h w
  · by_cases h2 : l < 0
    · rw [if_pos (Or.inr (Or.inl h2))]; exact len_neg k s t l h (decide_eq_true h2) w
    · by_cases h3 : depthI k s t < l
      · rw [if_pos (Or.inr (Or.inr h3))]; exact len_over k s t l _ h rfl (decide_eq_false h2) (decide_eq_true h3) w
      · rw [if_neg (by simp; omega)]; exact len_ok k s t l _ _ _ h rfl rfl (decide_eq_false h2) (decide_eq_false h3) (by split <;> omega) w

end Go.Proofs.YtcbahkfbdlhabaaGreatDoor
namespace Go.Proofs.YtcbahkfbdlhabaaGreatDoor
set_option linter.unusedVariables false
set_option linter.unusedSimpArgs false
open Go.RowKit

set_option maxRecDepth 100000 in
theorem top_walk (ah al mh ml r s : Nat) (k : Int) (hm : Gives 68 #[.int .i64 k] (wv mh ml)) (ha : Gives 67 #[wv ah al, wv mh ml] (wv r s)) (w : World) : Calls Tryz.prog 58 #[.agg #[.int .u64 (ah : Int), .int .u64 (al : Int)], .int .i64 k] w fun e w' => e = .returned (wv r s) ∧ Below w.heap.size w w' := by
  have HM := hm
  have HA := ha
  go_enter Tryz.func58, Tryz.ntmps58
  go_wp2_with fail
  obtain ⟨v0, hw⟩ : ∃ v0, (w.alloc (.cells #[.int .u64 (ah : Int), .int .u64 (al : Int)] 111)).alloc (.cells #[.int .u64 0, .int .u64 0] 111) = v0 := ⟨_, rfl⟩
  rewrite [hw]
  have hX := Bx.new (Bx.new (Bx.nil w) 111 #[.int .u64 (ah : Int), .int .u64 (al : Int)]) 111 #[.int .u64 0, .int .u64 0]
  (try simp only [World.size_alloc] at hX)
  rewrite [hw] at hX
  have HX0 : Hid (Bx w v0 [(w.heap.size + 1, 111, #[.int .u64 0, .int .u64 0]), (w.heap.size, 111, #[.int .u64 (ah : Int), .int .u64 (al : Int)])]) := hX
  clear hw hX
  have HNk : ∀ W, Bx w W [(w.heap.size, 111, #[.int .u64 (ah : Int), .int .u64 (al : Int)])] → Rx W (w.heap.size + 1) 111 2 → (Bx w W [(w.heap.size, 111, #[.int .u64 (ah : Int), .int .u64 (al : Int)])] ∧ Rx W (w.heap.size + 1) 111 2 ∧ (W.cell? ⟨w.heap.size, 0, none⟩ = some (.int .u64 (ah : Int)) ∧ W.cell? ⟨w.heap.size, 1, none⟩ = some (.int .u64 (al : Int)))) := fun W h hr => ⟨h, hr, cells2 h.1⟩
  have HN : Hid (∀ W V, (Bx w W [(w.heap.size, 111, #[.int .u64 (ah : Int), .int .u64 (al : Int)])] ∧ Rx W (w.heap.size + 1) 111 2 ∧ (W.cell? ⟨w.heap.size, 0, none⟩ = some (.int .u64 (ah : Int)) ∧ W.cell? ⟨w.heap.size, 1, none⟩ = some (.int .u64 (al : Int)))) → Below W.heap.size W V → (Bx w V [(w.heap.size, 111, #[.int .u64 (ah : Int), .int .u64 (al : Int)])] ∧ Rx V (w.heap.size + 1) 111 2 ∧ (V.cell? ⟨w.heap.size, 0, none⟩ = some (.int .u64 (ah : Int)) ∧ V.cell? ⟨w.heap.size, 1, none⟩ = some (.int .u64 (al : Int))))) := fun W V h hb => HNk _ (Bx.next hb h.1) (Rx.next hb h.2.1)
  have HC : Hid (∀ W i v, (Bx w W [(w.heap.size, 111, #[.int .u64 (ah : Int), .int .u64 (al : Int)])] ∧ Rx W (w.heap.size + 1) 111 2 ∧ (W.cell? ⟨w.heap.size, 0, none⟩ = some (.int .u64 (ah : Int)) ∧ W.cell? ⟨w.heap.size, 1, none⟩ = some (.int .u64 (al : Int)))) → (Bx w (W.setCell ⟨w.heap.size + 1, i, none⟩ v) [(w.heap.size, 111, #[.int .u64 (ah : Int), .int .u64 (al : Int)])] ∧ Rx (W.setCell ⟨w.heap.size + 1, i, none⟩ v) (w.heap.size + 1) 111 2 ∧ ((W.setCell ⟨w.heap.size + 1, i, none⟩ v).cell? ⟨w.heap.size, 0, none⟩ = some (.int .u64 (ah : Int)) ∧ (W.setCell ⟨w.heap.size + 1, i, none⟩ v).cell? ⟨w.heap.size, 1, none⟩ = some (.int .u64 (al : Int))))) := fun W i v h => HNk _ (Bx.cell _ i v (by omega) h.1 (fun y hy => by simp at hy; (try subst hy); simp; try omega)) (Rx.set h.2.1 i v)
  have HS0 : Hid (Bx w v0.drew [(w.heap.size, 111, #[.int .u64 (ah : Int), .int .u64 (al : Int)])] ∧ Rx v0.drew (w.heap.size + 1) 111 2 ∧ (v0.drew.cell? ⟨w.heap.size, 0, none⟩ = some (.int .u64 (ah : Int)) ∧ v0.drew.cell? ⟨w.heap.size, 1, none⟩ = some (.int .u64 (al : Int)))) := HNk _ HX0.out.2.drew ⟨_, HX0.out.1, rfl⟩
  clear HNk
  go_region_held3 (fun W => Bx w W [(w.heap.size, 111, #[.int .u64 (ah : Int), .int .u64 (al : Int)])] ∧ Rx W (w.heap.size + 1) 111 2 ∧ (W.cell? ⟨w.heap.size, 0, none⟩ = some (.int .u64 (ah : Int)) ∧ W.cell? ⟨w.heap.size, 1, none⟩ = some (.int .u64 (al : Int)))) (first | exact HS0.out | assumption | exact HC.out _ _ _ (HC.out _ _ _ (by assumption))) (first | (with_reducible refine ((HM) _).mono ?_; rintro e w1 ⟨rfl, hb1⟩; have hS1 := HN.out _ _ (by assumption) hb1; clear hb1; obtain ⟨y0, z0, x0⟩ := hS1.2.1.cell 0 (by decide); obtain ⟨y1, z1, x1⟩ := hS1.2.1.cell 1 (by decide)) | (with_reducible refine ((HA) _).mono ?_; rintro e w1 ⟨rfl, hb1⟩; have hS1 := HN.out _ _ (by assumption) hb1; clear hb1; obtain ⟨y0, z0, x0⟩ := hS1.2.1.cell 0 (by decide); obtain ⟨y1, z1, x1⟩ := hS1.2.1.cell 1 (by decide)))
  obtain ⟨q0, q1⟩ := cells2 (Rx.set2 hS1.2.1 (.int .u64 (r : Int)) (.int .u64 (s : Int)))
  have HB := Lib.hid (Bx.below (And.left (HC.out _ 1 (.int .u64 (s : Int)) (HC.out _ 0 (.int .u64 (r : Int)) hS1))))
  go_wp2_with fail
  generalize (w1.setCell ⟨w.heap.size + 1, 0, none⟩ (.int .u64 (r : Int))).setCell ⟨w.heap.size + 1, 1, none⟩ (.int .u64 (s : Int)) = W1 at *
  exact bodyPost_ret (v := .agg #[.int .u64 (r : Int), .int .u64 (s : Int)]) (by simp [results, Tryz.results58, go_sem, q0, q1]) rfl ⟨rfl, HB.out⟩
theorem top_gives (n : Nat) (hn : n < MM) (k : Int) : Gives 58 #[W n, .int .i64 k] (W (n &&& maskN (min k.toNat 128))) := fun w =>
  top_walk (n / M) (n % M) _ _ _ _ k (fun w => mask_any k w) (fun w => and_any n _ hn (maskN_lt _) w) w
abbrev kv (k l : Int) (hi lo : Int) (p : ByteArray) : Value := .agg #[.int .i64 k, .int .i64 l, .int .u64 hi, .int .u64 lo, .string p]
set_option maxRecDepth 100000 in
theorem bits_gives0 (k l hi lo : Int) (p : ByteArray) (w : World) : Calls Tryz.prog 47 #[.agg #[.int .i64 k, .int .i64 l, .int .u64 hi, .int .u64 lo, .string p]] w fun e w' => e = .returned (.agg #[.int .u64 hi, .int .u64 lo]) ∧ Below w.heap.size w w' := by
  go_enter Tryz.func47, Tryz.ntmps47
  go_wp2_with fail
  refine bodyPost_ret (v := .agg #[.int .u64 hi, .int .u64 lo]) (by simp [results, Tryz.results47, go_sem]) rfl ⟨rfl, ?_⟩
  exact ((Below.refl _ _).alloc (Nat.le_refl _) _).alloc (by simp) _
set_option maxRecDepth 100000 in
theorem ofBits_walk (k l : Int) (ah al r s : Nat) (ht : Gives 58 #[wv ah al, .int .i64 l] (wv r s)) (w : World) : Calls Tryz.prog 49 #[.int .i64 k, .int .i64 l, .agg #[.int .u64 (ah : Int), .int .u64 (al : Int)]] w fun e w' => e = .returned (kv k l (r : Int) (s : Int) ⟨#[]⟩) ∧ Below w.heap.size w w' := by
  have HT := ht
  go_enter Tryz.func49, Tryz.ntmps49
  go_wp2_with (first
    | (obtain ⟨v0, hw⟩ : ∃ v0, (w.alloc (.cells #[.int .u64 (ah : Int), .int .u64 (al : Int)] 111)).alloc (.cells #[.int .i64 0, .int .i64 0, .int .u64 0, .int .u64 0, .string ⟨#[]⟩] 31) = v0 := ⟨_, rfl⟩
       rewrite [hw]
       have hX := Bx.new (Bx.new (Bx.nil w) 111 #[.int .u64 (ah : Int), .int .u64 (al : Int)]) 31 #[.int .i64 0, .int .i64 0, .int .u64 0, .int .u64 0, .string ⟨#[]⟩]
       (try simp only [World.size_alloc] at hX)
       rewrite [hw] at hX
       have HX0 : Hid (Bx w v0 [(w.heap.size + 1, 31, #[.int .i64 0, .int .i64 0, .int .u64 0, .int .u64 0, .string ⟨#[]⟩]), (w.heap.size, 111, #[.int .u64 (ah : Int), .int .u64 (al : Int)])]) := hX
       clear hw hX
       obtain ⟨r0_0, r0_1, r0_2, r0_3, r0_4⟩ := cells5 HX0.out.1
       obtain ⟨r1_0, r1_1⟩ := cells2 HX0.out.2.1)
    | (go_at_call 58; (with_reducible refine ((HT) _).mono ?_); rintro e v1 ⟨rfl, hb⟩
       have HX1 := Lib.hid (Bx.next hb HX0.out)
       clear hb r0_0 r0_1 r0_2 r0_3 r0_4 r1_0 r1_1
       obtain ⟨r0_0, r0_1, r0_2, r0_3, r0_4⟩ := cells5 HX1.out.1
       obtain ⟨r1_0, r1_1⟩ := cells2 HX1.out.2.1)
    | (obtain ⟨v2, hw⟩ : ∃ v2, v1.alloc (.cells #[.int .u64 (r : Int), .int .u64 (s : Int)] 111) = v2 := ⟨_, rfl⟩
       rewrite [hw]
       have hb : Below v1.heap.size v1 v2 := by rewrite [← hw]; exact (Below.refl _ _).alloc (Nat.le_refl _) _
       have hn : v2.heap[v1.heap.size]? = some (.cells #[.int .u64 (r : Int), .int .u64 (s : Int)] 111 (0, 0)) := by rewrite [← hw]; exact heap_alloc_new _ _
       have HX2 := Lib.hid (Bx.next hb HX1.out)
       obtain ⟨t0, t1⟩ := cells2 hn
       clear hw hb hn r0_0 r0_1 r0_2 r0_3 r0_4 r1_0 r1_1
       obtain ⟨r0_0, r0_1, r0_2, r0_3, r0_4⟩ := cells5 HX2.out.1
       obtain ⟨r1_0, r1_1⟩ := cells2 HX2.out.2.1)
    | (refine wpList_store_row rfl 31 _ _ rfl (w.heap.size + 1) #[.int .i64 k, .int .i64 l, .int .u64 (r : Int), .int .u64 (s : Int), .string ⟨#[]⟩] rfl rfl 31 #[.int .i64 0, .int .i64 0, .int .u64 0, .int .u64 0, .string ⟨#[]⟩] HX2.out.1 size31 rfl (one5 ..) ?_
       have HB := Lib.hid (Bx.below (Bx.keep (l := []) (w.heap.size + 1) #[.int .i64 k, .int .i64 l, .int .u64 (r : Int), .int .u64 (s : Int), .string ⟨#[]⟩] (by omega) HX2.out.below (fun _ hy => by simp at hy)))
       obtain ⟨q0, q1, q2, q3, q4⟩ := cells5 (setRow_heap _ _ #[.int .i64 0, .int .i64 0, .int .u64 0, .int .u64 0, .string ⟨#[]⟩] #[.int .i64 k, .int .i64 l, .int .u64 (r : Int), .int .u64 (s : Int), .string ⟨#[]⟩] 31 (0, 0) HX2.out.1)
       generalize v2.setRow (w.heap.size + 1) #[.int .i64 k, .int .i64 l, .int .u64 (r : Int), .int .u64 (s : Int), .string ⟨#[]⟩] = W1 at *))
  exact bodyPost_ret (v := .agg #[.int .i64 k, .int .i64 l, .int .u64 (r : Int), .int .u64 (s : Int), .string ⟨#[]⟩]) (by simp [results, Tryz.results49, go_sem, q0, q1, q2, q3, q4]) rfl ⟨rfl, HB.out⟩
/-- The first l bits of n. -/
def topN (n : Nat) (l : Int) : Nat := n &&& maskN (min l.toNat 128)
theorem ofBits_gives (k l : Int) (n : Nat) (hn : n < MM) : Gives 49 #[.int .i64 k, .int .i64 l, W n] (kv k l ((topN n l / M : Nat) : Int) ((topN n l % M : Nat) : Int) ⟨#[]⟩) := fun w =>
  ofBits_walk k l (n / M) (n % M) _ _ (top_gives n hn l) w
set_option maxRecDepth 100000 in
theorem root_bad (k : Int) (h : (widthI k == 0) = true) (w : World) : Calls Tryz.prog 43 #[.int .i64 k] w fun e w' => e = .returned (kv 0 0 0 0 ⟨#[]⟩) ∧ Below w.heap.size w w' := by
  go_enter Tryz.func43, Tryz.ntmps43
  go_wp2_with (first
    | (obtain ⟨v0, hw⟩ : ∃ v0, w.alloc (.cells #[.int .i64 0, .int .i64 0, .int .u64 0, .int .u64 0, .string ⟨#[]⟩] 31) = v0 := ⟨_, rfl⟩
       rewrite [hw]
       have hX := Bx.new (Bx.nil w) 31 #[.int .i64 0, .int .i64 0, .int .u64 0, .int .u64 0, .string ⟨#[]⟩]
       (try simp only [World.size_alloc] at hX)
       rewrite [hw] at hX
       have HX0 : Hid (Bx w v0 [(w.heap.size, 31, #[.int .i64 0, .int .i64 0, .int .u64 0, .int .u64 0, .string ⟨#[]⟩])]) := hX
       clear hw hX
       obtain ⟨r0_0, r0_1, r0_2, r0_3, r0_4⟩ := cells5 HX0.out.1)
    | (go_at_call 44; (with_reducible refine ((width_gives k) _).mono ?_); rintro e v1 ⟨rfl, hb⟩
       have HX1 := Lib.hid (Bx.next hb HX0.out)
       clear hb r0_0 r0_1 r0_2 r0_3 r0_4
       obtain ⟨r0_0, r0_1, r0_2, r0_3, r0_4⟩ := cells5 HX1.out.1)
    | (refine wpList_store_row rfl 31 _ _ rfl (w.heap.size) #[.int .i64 0, .int .i64 0, .int .u64 0, .int .u64 0, .string ⟨#[]⟩] rfl rfl 31 #[.int .i64 0, .int .i64 0, .int .u64 0, .int .u64 0, .string ⟨#[]⟩] HX1.out.1 size31 rfl (one5 ..) ?_
       have HB := Lib.hid (Bx.below (Bx.keep (l := []) (w.heap.size) #[.int .i64 0, .int .i64 0, .int .u64 0, .int .u64 0, .string ⟨#[]⟩] (by omega) HX1.out.below (fun _ hy => by simp at hy)))
       obtain ⟨q0, q1, q2, q3, q4⟩ := cells5 (setRow_heap _ _ #[.int .i64 0, .int .i64 0, .int .u64 0, .int .u64 0, .string ⟨#[]⟩] #[.int .i64 0, .int .i64 0, .int .u64 0, .int .u64 0, .string ⟨#[]⟩] 31 (0, 0) HX1.out.1)
       generalize v1.setRow (w.heap.size) #[.int .i64 0, .int .i64 0, .int .u64 0, .int .u64 0, .string ⟨#[]⟩] = W1 at *))
  exact bodyPost_ret (v := .agg #[.int .i64 0, .int .i64 0, .int .u64 0, .int .u64 0, .string ⟨#[]⟩]) (by simp [results, Tryz.results43, go_sem, q0, q1, q2, q3, q4]) rfl ⟨rfl, HB.out⟩
set_option maxRecDepth 100000 in
theorem root_ok (k : Int) (h : (widthI k == 0) = false) (w : World) : Calls Tryz.prog 43 #[.int .i64 k] w fun e w' => e = .returned (kv k 0 0 0 ⟨#[]⟩) ∧ Below w.heap.size w w' := by
  go_enter Tryz.func43, Tryz.ntmps43
  go_wp2_with (first
    | (obtain ⟨v0, hw⟩ : ∃ v0, w.alloc (.cells #[.int .i64 0, .int .i64 0, .int .u64 0, .int .u64 0, .string ⟨#[]⟩] 31) = v0 := ⟨_, rfl⟩
       rewrite [hw]
       have hX := Bx.new (Bx.nil w) 31 #[.int .i64 0, .int .i64 0, .int .u64 0, .int .u64 0, .string ⟨#[]⟩]
       (try simp only [World.size_alloc] at hX)
       rewrite [hw] at hX
       have HX0 : Hid (Bx w v0 [(w.heap.size, 31, #[.int .i64 0, .int .i64 0, .int .u64 0, .int .u64 0, .string ⟨#[]⟩])]) := hX
       clear hw hX
       obtain ⟨r0_0, r0_1, r0_2, r0_3, r0_4⟩ := cells5 HX0.out.1)
    | (go_at_call 44; (with_reducible refine ((width_gives k) _).mono ?_); rintro e v1 ⟨rfl, hb⟩
       have HX1 := Lib.hid (Bx.next hb HX0.out)
       clear hb r0_0 r0_1 r0_2 r0_3 r0_4
       obtain ⟨r0_0, r0_1, r0_2, r0_3, r0_4⟩ := cells5 HX1.out.1)
    | (refine wpList_store_row rfl 31 _ _ rfl (w.heap.size) #[.int .i64 k, .int .i64 0, .int .u64 0, .int .u64 0, .string ⟨#[]⟩] rfl rfl 31 #[.int .i64 0, .int .i64 0, .int .u64 0, .int .u64 0, .string ⟨#[]⟩] HX1.out.1 size31 rfl (one5 ..) ?_
       have HB := Lib.hid (Bx.below (Bx.keep (l := []) (w.heap.size) #[.int .i64 k, .int .i64 0, .int .u64 0, .int .u64 0, .string ⟨#[]⟩] (by omega) HX1.out.below (fun _ hy => by simp at hy)))
       obtain ⟨q0, q1, q2, q3, q4⟩ := cells5 (setRow_heap _ _ #[.int .i64 0, .int .i64 0, .int .u64 0, .int .u64 0, .string ⟨#[]⟩] #[.int .i64 k, .int .i64 0, .int .u64 0, .int .u64 0, .string ⟨#[]⟩] 31 (0, 0) HX1.out.1)
       generalize v1.setRow (w.heap.size) #[.int .i64 k, .int .i64 0, .int .u64 0, .int .u64 0, .string ⟨#[]⟩] = W1 at *))
  exact bodyPost_ret (v := .agg #[.int .i64 k, .int .i64 0, .int .u64 0, .int .u64 0, .string ⟨#[]⟩]) (by simp [results, Tryz.results43, go_sem, q0, q1, q2, q3, q4]) rfl ⟨rfl, HB.out⟩

end Go.Proofs.YtcbahkfbdlhabaaGreatDoor
