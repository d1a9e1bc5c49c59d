import Derived.Test.YtcaeaepnobbjlaaNb
namespace Go.Proofs.Ytcaeaepnobbjlaa
set_option linter.unusedVariables false
set_option linter.unusedSimpArgs false
open Go.RowKit

theorem own_keep {base : Nat} {w w' : World} {v : Value} {n : Nat} {xs : List Value} (h : w.ownsRow base 5 1 v n xs) (hk : ∀ g o, base ≤ g → v.ownBlock = some g → w.heap[g]? = some o → w'.heap[g]? = some o) : w'.ownsRow base 5 1 v n xs := by
  refine ⟨h.1, ?_⟩
  rcases h.2 with h0 | ⟨g, cap, cur, hv, hb, hrow, rest⟩
  · exact Or.inl h0
  · exact Or.inr ⟨g, cap, cur, hv, hb, hk g _ hb (by rw [hv]; rfl) hrow, rest⟩
theorem own_below' {base : Nat} {w w' : World} {v : Value} {n : Nat} {xs : List Value} (h : w.ownsRow base 5 1 v n xs) (hb : Below w.heap.size w w') : w'.ownsRow base 5 1 v n xs :=
  own_keep h fun g o _ _ hg => old_below hb hg
theorem own_alloc' {base : Nat} {w : World} {v : Value} {n : Nat} {xs : List Value} (h : w.ownsRow base 5 1 v n xs) (o : Obj) : (w.alloc o).ownsRow base 5 1 v n xs :=
  own_keep h fun g o' _ _ hg => old_alloc o hg
theorem own_lt {base : Nat} {w : World} {v : Value} {n : Nat} {xs : List Value} (h : w.ownsRow base 5 1 v n xs) (k : Nat) (hk : v.ownBlock = some k) : base ≤ k ∧ k < w.heap.size := by
  rcases h.2 with ⟨rfl, _⟩ | ⟨g, cap, cur, rfl, hb, hrow, _⟩
  · cases hk
  · have e : g = k := by simpa [Value.ownBlock] using hk
    subst e
    exact ⟨hb, (Array.getElem?_eq_some_iff.1 hrow).1⟩
theorem own_nil (w : World) (base : Nat) : w.ownsRow base 5 1 (.slice none 0 0) 0 [] := ⟨rfl, Or.inl ⟨rfl, rfl⟩⟩
theorem Boxes.grown {w W W' : World} {bs : List (Nat × Nat × Nat × Nat)} {row : Option Nat} (h : Boxes w W bs) (hg : W.grownBy W' row) (hr : ∀ k, row = some k → w.heap.size ≤ k ∧ ∀ x ∈ bs, x.1 ≠ k) : Boxes w W' bs := by
  refine ⟨h.below.grown hg h.below.size (fun k hk => (hr k hk).1), fun x hx => ?_⟩
  have hx2 := h.all x hx
  rw [hg.block x.1 (Array.getElem?_eq_some_iff.1 hx2).1 (fun e => (hr x.1 e.symm).2 x hx rfl)]
  exact hx2
theorem sliceAt_one (w : World) (x : BitVec 8) : SliceAt (w.alloc (.cells #[b8v x] 5)) (.slice (some ⟨w.heap.size, 0, none⟩) 1 1) [x] :=
  sliceAt_row [x] 1 (heap_alloc_new w (.cells #[b8v x] 5)) (by simp)

/-- A digit. -/
def dig (n : Nat) : BitVec 8 := BitVec.ofNat 8 (48 + n % 10)
theorem dig_nat (n : Nat) : (dig n).toNat = 48 + n % 10 := by rw [dig, BitVec.toNat_ofNat]; omega
/-- A number's digits, the last one first. -/
def revN (n : Nat) : List (BitVec 8) := if h : n / 10 = 0 then [dig n] else dig n :: revN (n / 10)
termination_by n
decreasing_by omega
theorem revN_last (n : Nat) (h : n / 10 = 0) : revN n = [dig n] := by rw [revN, dif_pos h]
theorem revN_more (n : Nat) (h : n / 10 ≠ 0) : revN n = dig n :: revN (n / 10) := by rw [revN, dif_neg h]
theorem revN_pos (n : Nat) : 1 ≤ (revN n).length := by
  by_cases h : n / 10 = 0
  · rw [revN_last n h]; simp
  · rw [revN_more n h]; simp
theorem revN_len : ∀ (k n : Nat), n < 10 ^ (k + 1) → (revN n).length ≤ k + 1
  | 0, n, h => by rw [revN_last n (by omega)]; simp
  | k + 1, n, h => by
    by_cases h0 : n / 10 = 0
    · rw [revN_last n h0]; simp
    · rw [revN_more n h0, List.length_cons]
      have := revN_len k (n / 10) (by rw [Nat.pow_succ] at h; omega)
      omega
/-- A number's text. -/
def textN (n : Nat) : ByteArray := strB (revN n).reverse

def leftV (v : Value) : Nat := match v with | .slice _ k _ => 50 - k | _ => 50
theorem own_len {base : Nat} {w : World} {v : Value} {n : Nat} {xs : List Value} (h : w.ownsRow base 5 1 v n xs) : leftV v = 50 - n := by
  rcases h.2 with ⟨rfl, rfl⟩ | ⟨g, cap, cur, rfl, _⟩ <;> rfl
structure WdI (w wr : World) (v : Value) (cs : List (BitVec 8)) (a : Nat) : Prop where
  own : wr.ownsRow (w.heap.size + 1) 5 1 v cs.length (cs.map b8v)
  box : Boxes w wr [(w.heap.size, 24, a / M, a % M)]

set_option maxRecDepth 100000 in
set_option maxHeartbeats 16000000 in
theorem numwide_walk (n : Nat) (hl : (revN n).length ≤ 40)
    (c : ∀ (a : Nat), a ≤ n → ∀ w, Calls Try.prog 76 #[wv (a / M) (a % M)] w fun e w' => e = .returned (.tuple #[wv (a / 10 / M) (a / 10 % M), .int .u8 ((a % 10 : Nat) : Int)]) ∧ Below w.heap.size w w') (w : World) :
    Calls Try.prog 45 #[wv (n / M) (n % M)] w fun e w' => e = .returned (.string (textN n)) ∧ Below w.heap.size w w' := by
  have C := Lib.hid c
  have HL := Lib.hid hl
  clear c hl
  have HI0 : Hid (WdI w (w.alloc (.cells #[.int .u64 ((n / M : Nat) : Int), .int .u64 ((n % M : Nat) : Int)] 24)) (.slice none 0 0) [] n) := ⟨own_nil _ _, (Boxes.nil w).new 24 (n / M) (n % M)⟩
  have HT : Hid (textN n = strB (revN n).reverse) := rfl
  generalize textN n = tx at *
  generalize hnh : n / M = nh at *
  generalize hnl : n % M = nl at *
  have HNN : Hid (n / M = nh ∧ n % M = nl) := ⟨hnh, hnl⟩
  clear hnh hnl
  go_enter Try.func45, Try.ntmps45
  go_wp2_with fail
  generalize w.alloc (.cells #[.int .u64 nh, .int .u64 nl] 24) = w0 at *
  go_loopw [3] (fun v wr => ∃ (cs : List (BitVec 8)) (a : Nat), a ≤ n ∧ revN n = cs ++ revN a ∧ WdI w wr v cs a) (fun v _ => leftV v)
  case atStart => exact ⟨[], n, Nat.le_refl _, rfl, HI0.out⟩
  case round =>
    generalize u3 = v at *
    obtain ⟨cs, a, ha, hcs, hI⟩ := hrel
    have K := Lib.hid (C.out a ha)
    have hlen : cs.length + (revN a).length ≤ 40 := by have := HL.out; rw [hcs, List.length_append] at this; exact this
    have hpos := revN_pos a
    have HLEN : Hid (cs.length + 1 ≤ 40) := by show _ ≤ _; omega
    have HO := Lib.hid hI.own
    have HX := Lib.hid hI.box
    have HA : Hid (a ≤ n) := ha
    have HCS := Lib.hid hcs
    obtain ⟨⟨r0, s0⟩, -, -⟩ := hI.box.at (w.heap.size) 24 (a / M) (a % M) (by simp)
    have ex : IntKind.u8.wrap (48 + ((a % 10 : Nat) : Int)) = ((dig a).toNat : Int) := by rw [dig_nat, IntKind.wrap_u8]; omega
    generalize hx : dig a = x at *
    generalize a % 10 = d at *
    generalize hah : a / M = ah at *
    generalize hal : a % M = al at *
    obtain ⟨q, hq⟩ : ∃ q, a / 10 = q := ⟨_, rfl⟩
    rw [hq] at K
    generalize hqh : q / M = qh at *
    generalize hql : q % M = ql at *
    have HQ : Hid (a / 10 = q ∧ q / M = qh ∧ q % M = ql ∧ dig a = x) := ⟨hq, hqh, hql, hx⟩
    have hcase : ((((qh : Nat) : Int) == 0) = true ∧ (((ql : Nat) : Int) == 0) = true ∧ q = 0) ∨ ((((qh : Nat) : Int) == 0) = false ∧ q ≠ 0) ∨ ((((qh : Nat) : Int) == 0) = true ∧ (((ql : Nat) : Int) == 0) = false ∧ q ≠ 0) := by
      have e := Nat.div_add_mod q M
      rw [hqh, hql] at e
      by_cases e1 : qh = 0
      · by_cases e2 : ql = 0
        · exact Or.inl ⟨by simp; omega, by simp; omega, by rw [← e, e1, e2]; simp⟩
        · exact Or.inr (Or.inr ⟨by simp; omega, by simp; omega, fun c => e2 (by rw [← hql, c]; simp)⟩)
      · exact Or.inr (Or.inl ⟨by simp; omega, fun c => e1 (by rw [← hqh, c]; simp)⟩)
    clear hI hlen hpos ha hcs hq hqh hql hx hah hal
    rcases hcase with ⟨z1, z2, hq0⟩ | ⟨z1, hq0⟩ | ⟨z1, z2, hq0⟩
    · have HZ : Hid (q = 0) := hq0
      clear hq0
      go_wp2_with (first
        | (go_at_call 76; (with_reducible refine (K.out _).mono ?_); rintro e w1 ⟨rfl, hb1⟩
           have HX1 := Lib.hid (HX.out.next hb1)
           have HO1 := Lib.hid (own_below' HO.out hb1)
           clear hb1)
        | (obtain ⟨w2, hw⟩ : ∃ w2, w1.alloc (.cells #[.int .u64 qh, .int .u64 ql] 24) = w2 := ⟨_, rfl⟩
           rewrite [hw]
           have HX2 : Hid (Boxes w w2 [(w1.heap.size, 24, qh, ql), (w.heap.size, 24, ah, al)]) := by rewrite [← hw]; exact HX1.out.new 24 qh ql
           have HO2 : Hid (w2.ownsRow (w.heap.size + 1) 5 1 v cs.length (cs.map b8v)) := by rewrite [← hw]; exact own_alloc' HO1.out _
           have HOL : Hid (∀ k, v.ownBlock = some k → w.heap.size + 1 ≤ k ∧ k < w1.heap.size) := fun k hk => own_lt HO1.out k hk
           clear hw
           generalize w1.heap.size = c1 at *)
        | (at_builtin; refine wpList_append_bytes rfl (.tmp 11) (.tmp 14) rfl (w.heap.size + 1) (w2.alloc (.cells #[b8v x] 5)) v (.slice (some ⟨w2.heap.size, 0, none⟩) 1 1) rfl rfl cs [x] (own_alloc' HO2.out _) (sliceAt_one w2 x) (by have := HLEN.out; simp; omega) (by have := HX2.out.lt (w.heap.size, 24, ah, al) (by simp); simp at this ⊢; omega) ?_
           intro v' w4 hO4 hg4
           have HX4 : Hid (Boxes w w4 [(c1, 24, qh, ql), (w.heap.size, 24, ah, al)]) := by
             refine Boxes.grown (W := w2.alloc (.cells #[b8v x] 5)) ⟨below_alloc HX2.out.below _, fun z hz => old_alloc _ (HX2.out.all z hz)⟩ hg4 (fun k hk => ?_)
             have := HOL.out k hk
             refine ⟨by omega, fun z hz => ?_⟩
             simp only [List.mem_cons, List.not_mem_nil, or_false] at hz
             rcases hz with rfl | rfl <;> (simp; omega)
           have HO4 := Lib.hid hO4
           clear hO4 hg4
           obtain ⟨⟨r1, s1⟩, -, -⟩ := HX4.out.at c1 24 qh ql (by simp))
        | (go_at_call 77; refine (reverse_any (w.heap.size + 1) v' (cs ++ [x]) _ (by have := HX4.out.lt (w.heap.size, 24, ah, al) (by simp); simp at this ⊢; omega) (by simp) (by have := HLEN.out; simp; omega) (OwnB.of_row HO4.out)).mono ?_; rintro e w5 ⟨rfl, hb5, ho5⟩
           have HB5 : Hid (Below w.heap.size w w5) := HX4.out.below.trans (hb5.mono (by omega))
           have hcv := conv91 ho5.sliceAt
           clear hb5 ho5))
      go_ret
      refine ⟨?_, HB5.out⟩
      show Ending.returned _ = _
      rw [HT.out, HCS.out, revN_last a (by rw [HQ.out.1]; exact HZ.out), HQ.out.2.2.2, List.reverse_append]
      rfl
    · have HZ : Hid (q ≠ 0) := hq0
      clear hq0
      go_wp2_with (first
        | (go_at_call 76; (with_reducible refine (K.out _).mono ?_); rintro e w1 ⟨rfl, hb1⟩
           have HX1 := Lib.hid (HX.out.next hb1)
           have HO1 := Lib.hid (own_below' HO.out hb1)
           clear hb1)
        | (obtain ⟨w2, hw⟩ : ∃ w2, w1.alloc (.cells #[.int .u64 qh, .int .u64 ql] 24) = w2 := ⟨_, rfl⟩
           rewrite [hw]
           have HX2 : Hid (Boxes w w2 [(w1.heap.size, 24, qh, ql), (w.heap.size, 24, ah, al)]) := by rewrite [← hw]; exact HX1.out.new 24 qh ql
           have HO2 : Hid (w2.ownsRow (w.heap.size + 1) 5 1 v cs.length (cs.map b8v)) := by rewrite [← hw]; exact own_alloc' HO1.out _
           have HOL : Hid (∀ k, v.ownBlock = some k → w.heap.size + 1 ≤ k ∧ k < w1.heap.size) := fun k hk => own_lt HO1.out k hk
           clear hw
           generalize w1.heap.size = c1 at *)
        | (at_builtin; refine wpList_append_bytes rfl (.tmp 11) (.tmp 14) rfl (w.heap.size + 1) (w2.alloc (.cells #[b8v x] 5)) v (.slice (some ⟨w2.heap.size, 0, none⟩) 1 1) rfl rfl cs [x] (own_alloc' HO2.out _) (sliceAt_one w2 x) (by have := HLEN.out; simp; omega) (by have := HX2.out.lt (w.heap.size, 24, ah, al) (by simp); simp at this ⊢; omega) ?_
           intro v' w4 hO4 hg4
           have HX4 : Hid (Boxes w w4 [(c1, 24, qh, ql), (w.heap.size, 24, ah, al)]) := by
             refine Boxes.grown (W := w2.alloc (.cells #[b8v x] 5)) ⟨below_alloc HX2.out.below _, fun z hz => old_alloc _ (HX2.out.all z hz)⟩ hg4 (fun k hk => ?_)
             have := HOL.out k hk
             refine ⟨by omega, fun z hz => ?_⟩
             simp only [List.mem_cons, List.not_mem_nil, or_false] at hz
             rcases hz with rfl | rfl <;> (simp; omega)
           have HO4 := Lib.hid hO4
           clear hO4 hg4
           obtain ⟨⟨r1, s1⟩, -, -⟩ := HX4.out.at c1 24 qh ql (by simp))
        | (refine wpList_store_row rfl 24 _ _ rfl w.heap.size #[.int .u64 qh, .int .u64 ql] rfl rfl 24 #[.int .u64 ah, .int .u64 al] (HX4.out.all (w.heap.size, 24, ah, al) (by simp)) size24 rfl (one2 _ _) ?_))
      have HX5 : Hid (Boxes w (w4.setRow w.heap.size #[.int .u64 qh, .int .u64 ql]) [(w.heap.size, 24, qh, ql)]) := by
        refine HX4.out.rewrite w.heap.size 24 ah al qh ql (by simp) (Nat.le_refl _) (fun z hz => ?_)
        simp only [List.mem_cons, List.not_mem_nil, or_false] at hz
        exact Or.inl hz
      have HO5 : Hid ((w4.setRow w.heap.size #[.int .u64 qh, .int .u64 ql]).ownsRow (w.heap.size + 1) 5 1 v' (cs ++ [x]).length ((cs ++ [x]).map b8v)) := own_keep HO4.out fun g o hg _ ho => old_row _ (by omega) ho
      generalize w4.setRow w.heap.size #[.int .u64 qh, .int .u64 ql] = W5 at *
      go_roundw
      case rel =>
        refine ⟨_, _, _, _, _, _, _, _, _, _, _, _, _, _, _, _, _, ⟨cs ++ [x], q, by have := HQ.out.1; have := HA.out; omega, ?_, HO5.out, ?_⟩, rfl⟩
        · rw [HCS.out, revN_more a (by rw [HQ.out.1]; exact HZ.out), HQ.out.1, HQ.out.2.2.2, List.append_assoc]; rfl
        · rw [HQ.out.2.1, HQ.out.2.2.1]; exact HX5.out
      case measure =>
        have h1 := HLEN.out
        have h2 := own_len HO.out
        have h3 := own_len HO5.out
        show leftV v' < leftV v
        rw [h2, h3, List.length_append]
        simp
        omega
    · have HZ : Hid (q ≠ 0) := hq0
      clear hq0
      go_wp2_with (first
        | (go_at_call 76; (with_reducible refine (K.out _).mono ?_); rintro e w1 ⟨rfl, hb1⟩
           have HX1 := Lib.hid (HX.out.next hb1)
           have HO1 := Lib.hid (own_below' HO.out hb1)
           clear hb1)
        | (obtain ⟨w2, hw⟩ : ∃ w2, w1.alloc (.cells #[.int .u64 qh, .int .u64 ql] 24) = w2 := ⟨_, rfl⟩
           rewrite [hw]
           have HX2 : Hid (Boxes w w2 [(w1.heap.size, 24, qh, ql), (w.heap.size, 24, ah, al)]) := by rewrite [← hw]; exact HX1.out.new 24 qh ql
           have HO2 : Hid (w2.ownsRow (w.heap.size + 1) 5 1 v cs.length (cs.map b8v)) := by rewrite [← hw]; exact own_alloc' HO1.out _
           have HOL : Hid (∀ k, v.ownBlock = some k → w.heap.size + 1 ≤ k ∧ k < w1.heap.size) := fun k hk => own_lt HO1.out k hk
           clear hw
           generalize w1.heap.size = c1 at *)
        | (at_builtin; refine wpList_append_bytes rfl (.tmp 11) (.tmp 14) rfl (w.heap.size + 1) (w2.alloc (.cells #[b8v x] 5)) v (.slice (some ⟨w2.heap.size, 0, none⟩) 1 1) rfl rfl cs [x] (own_alloc' HO2.out _) (sliceAt_one w2 x) (by have := HLEN.out; simp; omega) (by have := HX2.out.lt (w.heap.size, 24, ah, al) (by simp); simp at this ⊢; omega) ?_
           intro v' w4 hO4 hg4
           have HX4 : Hid (Boxes w w4 [(c1, 24, qh, ql), (w.heap.size, 24, ah, al)]) := by
             refine Boxes.grown (W := w2.alloc (.cells #[b8v x] 5)) ⟨below_alloc HX2.out.below _, fun z hz => old_alloc _ (HX2.out.all z hz)⟩ hg4 (fun k hk => ?_)
             have := HOL.out k hk
             refine ⟨by omega, fun z hz => ?_⟩
             simp only [List.mem_cons, List.not_mem_nil, or_false] at hz
             rcases hz with rfl | rfl <;> (simp; omega)
           have HO4 := Lib.hid hO4
           clear hO4 hg4
           obtain ⟨⟨r1, s1⟩, -, -⟩ := HX4.out.at c1 24 qh ql (by simp))
        | (refine wpList_store_row rfl 24 _ _ rfl w.heap.size #[.int .u64 qh, .int .u64 ql] rfl rfl 24 #[.int .u64 ah, .int .u64 al] (HX4.out.all (w.heap.size, 24, ah, al) (by simp)) size24 rfl (one2 _ _) ?_))
      have HX5 : Hid (Boxes w (w4.setRow w.heap.size #[.int .u64 qh, .int .u64 ql]) [(w.heap.size, 24, qh, ql)]) := by
        refine HX4.out.rewrite w.heap.size 24 ah al qh ql (by simp) (Nat.le_refl _) (fun z hz => ?_)
        simp only [List.mem_cons, List.not_mem_nil, or_false] at hz
        exact Or.inl hz
      have HO5 : Hid ((w4.setRow w.heap.size #[.int .u64 qh, .int .u64 ql]).ownsRow (w.heap.size + 1) 5 1 v' (cs ++ [x]).length ((cs ++ [x]).map b8v)) := own_keep HO4.out fun g o hg _ ho => old_row _ (by omega) ho
      generalize w4.setRow w.heap.size #[.int .u64 qh, .int .u64 ql] = W5 at *
      go_roundw
      case rel =>
        refine ⟨_, _, _, _, _, _, _, _, _, _, _, _, _, _, _, _, _, ⟨cs ++ [x], q, by have := HQ.out.1; have := HA.out; omega, ?_, HO5.out, ?_⟩, rfl⟩
        · rw [HCS.out, revN_more a (by rw [HQ.out.1]; exact HZ.out), HQ.out.1, HQ.out.2.2.2, List.append_assoc]; rfl
        · rw [HQ.out.2.1, HQ.out.2.2.1]; exact HX5.out
      case measure =>
        have h1 := HLEN.out
        have h2 := own_len HO.out
        have h3 := own_len HO5.out
        show leftV v' < leftV v
        rw [h2, h3, List.length_append]
        simp
        omega

/-- The text of a number. -/
theorem numwide_any (n : Nat) (hn : n < MM) (w : World) : Calls Try.prog 45 #[W n] w fun e w' => e = .returned (.string (textN n)) ∧ Below w.heap.size w w' :=
  numwide_walk n (Nat.le_trans (revN_len 39 n (by rw [MM_eq] at hn; omega)) (by omega)) (fun a ha w => tenth_any a (by omega) w) w

set_option maxRecDepth 100000 in
theorem numprint_any (n : Nat) (hn : n < M) (w : World) : Calls Try.prog 47 #[.int .u64 n] w fun e w' => e = .returned (.string (textN n)) ∧ Below w.heap.size w w' := by
  have hMM : M ≤ MM := by decide
  have C1 := Lib.hid (fun w => of_any n hn w)
  have C2 := Lib.hid (fun w => numwide_any n (by omega) w)
  rw [W_of] at C1 C2
  generalize n / M = nh at *
  generalize n % M = nl at *
  clear hn hMM
  go_enter Try.func47, Try.ntmps47
  go_wp2_with (first
    | (go_at_call 27; (with_reducible refine (C1.out _).mono ?_); rintro e w1 ⟨rfl, hb1⟩; have HB1 : Hid (Below w.heap.size w w1) := hb1; clear hb1)
    | (go_at_call 45; (with_reducible refine (C2.out _).mono ?_); rintro e w2 ⟨rfl, hb1⟩; have HB2 : Hid (Below w.heap.size w w2) := below_next HB1.out hb1; clear hb1))
  go_ret
  exact ⟨rfl, HB2.out⟩

end Go.Proofs.Ytcaeaepnobbjlaa

