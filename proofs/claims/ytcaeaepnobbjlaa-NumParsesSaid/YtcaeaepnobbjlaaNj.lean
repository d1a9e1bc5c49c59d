import Derived.Test.YtcaeaepnobbjlaaNi
namespace Go.Proofs.Ytcaeaepnobbjlaa
set_option linter.unusedVariables false
set_option linter.unusedSimpArgs false
open Go.RowKit

/-- The bytes of a text in a row of its own. -/
structure TwB (w wr : World) (b n m : Nat) (g : Nat → Nat) : Prop where
  below : Below w.heap.size w wr
  lb : w.heap.size ≤ b
  nm : n ≤ m
  row : ∃ cur, wr.heap[b]? = some (.cells cur 5 (m, m + 1)) ∧ ∀ j, j < n → cur[j]? = some (.int .u8 (g j : Int))
theorem TwB.cell {w wr : World} {b n m : Nat} {g : Nat → Nat} (h : TwB w wr b n m g) (j : Nat) (hj : j < n) : wr.cell? ⟨b, j, none⟩ = some (.int .u8 (g j : Int)) ∧ wr.frozen? ⟨b, j, none⟩ = false := by
  obtain ⟨cur, hrow, hc⟩ := h.row
  have hm := h.nm
  refine ⟨by rw [cell_of_row _ _ _ _ _ _ hrow]; exact hc j hj, ?_⟩
  unfold World.frozen?
  simp only [hrow]
  simp
  omega
theorem TwB.store {w wr : World} {b n m : Nat} {g : Nat → Nat} (h : TwB w wr b n m g) (p x : Nat) (g' : Nat → Nat) (hg : ∀ j, j < n → g' j = if j = p then x else g j) : TwB w (wr.setCell ⟨b, p, none⟩ (.int .u8 (x : Int))) b n m g' := by
  obtain ⟨cur, hrow, hc⟩ := h.row
  refine ⟨h.below.setCell h.lb _, h.lb, h.nm, cur.setIfInBounds p (.int .u8 (x : Int)), ?_, fun j hj => ?_⟩
  · rw [setCell_eq_setRow wr b p cur 5 (m, m + 1) _ hrow]
    exact setRow_heap wr b cur _ 5 _ hrow
  · have hcj := hc j hj
    have hlt : j < cur.size := (Array.getElem?_eq_some_iff.1 hcj).1
    rw [Array.getElem?_setIfInBounds, hg j hj]
    by_cases e : p = j
    · subst e; rw [if_pos rfl, if_pos hlt, if_pos rfl]
    · rw [if_neg e, if_neg (fun c => e c.symm), hcj]
theorem bytesCells_get (w : World) (s : ByteArray) (j : Nat) (hj : j < s.size) : (Lib.bytesCells w 5 s)[j]? = some (.int .u8 (gb s j : Int)) := by
  have h := bytes_cell w s j hj
  rw [cell_of_row _ _ _ _ _ _ (Lib.bytesWorld_at_new w 5 s)] at h
  exact h
theorem TwB.start (w : World) (s : ByteArray) : TwB w (Lib.bytesWorld w 5 s) w.heap.size s.size (Lib.bytesCells w 5 s).size (gb s) := by
  refine ⟨bytes_below (Below.refl _ _) s (Nat.le_refl _), Nat.le_refl _, ?_, _, Lib.bytesWorld_at_new w 5 s, fun j hj => bytesCells_get w s j hj⟩
  have h := grownCap_ge w s.size 0 5
  simp [Lib.bytesCells]
theorem TwB.slice {w wr : World} {b n m cap : Nat} {g : Nat → Nat} (h : TwB w wr b n m g) (l : List (BitVec 8)) (hl : l.length = n) (hcap : n ≤ cap) (hg : ∀ j (hj : j < l.length), l[j].toNat = g j) : SliceAt wr (.slice (some ⟨b, 0, none⟩) n cap) l := by
  subst hl
  refine ⟨⟨_, cap, rfl, fun _ => ⟨b, 0, rfl, fun i hi => ?_⟩⟩, fun a' n' c e => by simp only [Value.slice.injEq] at e; omega⟩
  rw [Nat.zero_add, (h.cell i hi).1, ← hg i hi]

set_option maxRecDepth 100000 in
set_option maxHeartbeats 16000000 in
theorem twice_walk (s : ByteArray) (odd : Nat) (cr nw : Nat → Nat) (l : List (BitVec 8)) (res : ByteArray) (hsz : s.size ≤ 140737488355328) (hodd : odd ≤ 1) (hdig : ∀ j, j < s.size → isDig (gb s j)) (hc0 : cr 0 = odd)
    (hcr : ∀ k, cr k ≤ 1) (hstep : ∀ k, k < s.size → (2 * (gb s (s.size - 1 - k) - 48) + cr k) % 10 + 48 = nw (s.size - 1 - k) ∧ (2 * (gb s (s.size - 1 - k) - 48) + cr k) / 10 = cr (k + 1))
    (hll : l.length = s.size) (hl : ∀ j (hj : j < l.length), l[j].toNat = nw j) (hres : res = if 0 < cr s.size then ⟨#[49]⟩ ++ strB l else strB l) (w : World) :
    Calls Try.prog 78 #[.string s, .int .u64 odd] w fun e w' => e = .returned (.string res) ∧ Below w.heap.size w w' := by
  have HD := Lib.hid hdig
  have H0 := Lib.hid hc0
  have HCR := Lib.hid hcr
  have HS := Lib.hid hstep
  have HLL := Lib.hid hll
  have HL := Lib.hid hl
  have HR := Lib.hid hres
  have HZ := Lib.hid hsz
  have hcv := fun w => conv9 w s
  have e1 : IntKind.u8.wrap (odd : Int) = odd := by rw [IntKind.wrap_u8]; omega
  have e2 : IntKind.i64.wrap ((s.size : Int) - 1) = (s.size : Int) - 1 := IntWalk.i64_in _ (by omega)
  have HT0 := Lib.hid (TwB.start w s)
  have HCAP : Hid (s.size ≤ grownCap w s.size 0 5) := grownCap_ge w s.size 0 5
  clear hdig hc0 hcr hstep hll hl hres hsz hodd
  go_enter Try.func78, Try.ntmps78
  go_wp2_with fail
  clear hcv
  generalize (Lib.bytesCells w 5 s).size = m at *
  generalize grownCap w s.size 0 5 = cap at *
  generalize Lib.bytesWorld w 5 s = wb at *
  go_loopw [6, 7] (fun c i wr => ∃ k : Nat, k ≤ s.size ∧ i = .int .i64 ((s.size : Int) - 1 - k) ∧ c = .int .u8 (cr k) ∧ TwB w wr w.heap.size s.size m (fun j => if s.size - k ≤ j then nw j else gb s j)) (fun _ i _ => (intOf i + 1).toNat)
  case atStart =>
    refine ⟨0, Nat.zero_le _, by simp, by rw [H0.out], ?_⟩
    have h := HT0.out
    obtain ⟨cur, h1, h2⟩ := h.row
    exact ⟨h.below, h.lb, h.nm, cur, h1, fun j hj => by rw [if_neg (by omega)]; exact h2 j hj⟩
  case round =>
    obtain ⟨k, hk, rfl, rfl, hB⟩ := hrel
    by_cases hlt : k < s.size
    · obtain ⟨p, hp⟩ : ∃ p, s.size - 1 - k = p := ⟨_, rfl⟩
      have ep : ((s.size : Int) - 1 - k) = (p : Int) := by omega
      have ep2 : Hid (((s.size : Int) - 1 - ((k + 1 : Nat) : Int)) = (p : Int) - 1) := by show _ = _; omega
      have hz := HZ.out
      rw [ep]
      have k0 : decide ((p : Int) ≥ 0) = true := by simp
      have k2 : (0 : Int) ≤ (p : Int) := by omega
      have k1 : (p : Int) < s.size := by omega
      have e9 : IntKind.i64.wrap ((p : Int) - 1) = (p : Int) - 1 := IntWalk.i64_in _ (by omega)
      obtain ⟨cb, zb⟩ := hB.cell p (by omega)
      rw [if_neg (by omega)] at cb
      obtain ⟨st1, st2⟩ := HS.out k hlt
      rw [hp] at st1 st2
      have hdg := HD.out p (by omega)
      have hd1 : 48 ≤ gb s p := hdg.1
      have hd2 : gb s p ≤ 57 := hdg.2
      have hc1 := HCR.out k
      have hc2 := HCR.out (k + 1)
      have HSt := Lib.hid (hB.store p (nw p) (fun j => if s.size - (k + 1) ≤ j then nw j else gb s j) (fun j hj => by
        by_cases e : j = p
        · rw [if_pos e, if_pos (by omega), e]
        · rw [if_neg e]
          by_cases c : s.size - k ≤ j
          · rw [if_pos c, if_pos (by omega)]
          · rw [if_neg c, if_neg (by omega)]))
      have HK : Hid (k < s.size) := hlt
      have v1 : IntKind.u8.wrap ((gb s p : Int) - 48) = ((gb s p - 48 : Nat) : Int) := by rw [IntKind.wrap_u8]; omega
      have v2 : IntKind.u8.wrap (2 * ((gb s p - 48 : Nat) : Int)) = ((2 * (gb s p - 48) : Nat) : Int) := by rw [IntKind.wrap_u8]; omega
      have v3 : IntKind.u8.wrap (((2 * (gb s p - 48) : Nat) : Int) + cr k) = ((2 * (gb s p - 48) + cr k : Nat) : Int) := by rw [IntKind.wrap_u8]; omega
      obtain ⟨q, hq⟩ : ∃ q, (2 * (gb s p - 48) + cr k) % 10 = q := ⟨_, rfl⟩
      have v4 : (((2 * (gb s p - 48) + cr k : Nat) : Int)).tmod 10 = (q : Int) := by rw [← hq]; rfl
      have v4' : (((2 * (gb s p - 48) + cr k : Nat) : Int)) % 10 = (q : Int) := by rw [← hq]; rfl
      have v5 : IntKind.u8.wrap (48 + (q : Int)) = ((nw p : Nat) : Int) := by rw [IntKind.wrap_u8]; omega
      have v6 : (((2 * (gb s p - 48) + cr k : Nat) : Int)).tdiv 10 = ((cr (k + 1) : Nat) : Int) := by rw [← st2]; rfl
      have v6' : (((2 * (gb s p - 48) + cr k : Nat) : Int)) / 10 = ((cr (k + 1) : Nat) : Int) := by rw [← st2]; rfl
      have v7 : IntKind.u8.wrap ((cr (k + 1) : Nat) : Int) = ((cr (k + 1) : Nat) : Int) := by rw [IntKind.wrap_u8]; omega
      have v8 : IntKind.u8.wrap (q : Int) = (q : Int) := by rw [IntKind.wrap_u8]; omega
      clear hB st1 st2 hdg hd1 hd2 hc1 hc2 hlt hk ep hp hz hq
      generalize hcn : cr (k + 1) = cn at *
      have HCN := Lib.hid hcn
      clear hcn
      generalize 2 * (gb s p - 48) + cr k = x3 at *
      generalize 2 * (gb s p - 48) = x2 at *
      generalize gb s p - 48 = x1 at *
      generalize gb s p = x0 at *
      generalize cr k = c0 at *
      generalize nw p = y at *
      go_wp2_with fail
      go_roundw
      case rel => exact ⟨k + 1, HK.out, by rw [ep2.out], by rw [HCN.out], HSt.out⟩
      case measure => simp [intOf]
    · obtain rfl : k = s.size := by omega
      have ep : ((s.size : Int) - 1 - (s.size : Int)) = -1 := by omega
      rw [ep]
      have HSL := Lib.hid (hB.slice l HLL.out HCAP.out (fun j hj => by rw [if_pos (by omega)]; exact HL.out j hj))
      have HB := Lib.hid hB.below
      have hcv := conv91 HSL.out
      by_cases hc : 0 < cr s.size
      · have hd : decide (0 < cr s.size) = true := decide_eq_true hc
        have HRR : Hid (res = ⟨#[49]⟩ ++ strB l) := by have h := HR.out; rw [if_pos hc] at h; exact h
        clear hB hlt hk ep hc
        have HLB : Hid ((strB l).size ≤ 140737488355328) := by show _ ≤ _; rw [strB_size, HLL.out]; exact HZ.out
        go_wp2_with fail
        all_goals first
          | (go_ret; exact ⟨by rw [HRR.out]; rfl, HB.out⟩)
          | (exfalso; have := HLB.out; omega)
      · have hd : decide (0 < cr s.size) = false := decide_eq_false hc
        have HRR : Hid (res = strB l) := by have h := HR.out; rw [if_neg hc] at h; exact h
        clear hB hlt hk ep hc
        go_wp2_with fail
        go_ret
        exact ⟨by rw [HRR.out]; rfl, HB.out⟩

/-- Digits doubled, the last one first, and what is left over. -/
def dbl : List (BitVec 8) → Nat → List (BitVec 8) × Nat
  | [], c => ([], c)
  | x :: r, c => (dig (2 * (x.toNat - 48) + c) :: (dbl r ((2 * (x.toNat - 48) + c) / 10)).1, (dbl r ((2 * (x.toNat - 48) + c) / 10)).2)
theorem dbl_length : ∀ (r : List (BitVec 8)) (c : Nat), (dbl r c).1.length = r.length
  | [], _ => rfl
  | x :: r, c => by rw [dbl, List.length_cons, List.length_cons, dbl_length r]
theorem dbl_get : ∀ (r : List (BitVec 8)) (c k : Nat) (hk : k < r.length) (hk2 : k < (dbl r c).1.length), (dbl r c).1[k] = dig (2 * (r[k].toNat - 48) + (dbl (r.take k) c).2) ∧ (dbl (r.take (k + 1)) c).2 = (2 * (r[k].toNat - 48) + (dbl (r.take k) c).2) / 10
  | x :: r, c, 0, _, _ => by simp [dbl]
  | x :: r, c, k + 1, hk, hk2 => by
    have h := dbl_get r ((2 * (x.toNat - 48) + c) / 10) k (by simpa using hk) (by rw [dbl_length]; simpa using hk)
    simpa [dbl] using h
theorem dbl_val : ∀ (r : List (BitVec 8)) (c : Nat), (∀ x ∈ r, isDig x.toNat) → c ≤ 1 → valR (dbl r c).1 + (dbl r c).2 * 10 ^ r.length = 2 * valR r + c ∧ (dbl r c).2 ≤ 1 ∧ ∀ x ∈ (dbl r c).1, isDig x.toNat
  | [], c, _, hc => by simp [dbl, valR, hc]
  | x :: r, c, hd, hc => by
    have h1 : x.toNat ≤ 57 := (hd x (by simp)).2
    obtain ⟨a, b, d⟩ := dbl_val r ((2 * (x.toNat - 48) + c) / 10) (fun y hy => hd y (List.mem_cons_of_mem _ hy)) (by omega)
    refine ⟨?_, b, ?_⟩
    · show 10 * valR (dbl r ((2 * (x.toNat - 48) + c) / 10)).1 + ((dig (2 * (x.toNat - 48) + c)).toNat - 48) + (dbl r ((2 * (x.toNat - 48) + c) / 10)).2 * 10 ^ (r.length + 1) = 2 * (10 * valR r + (x.toNat - 48)) + c
      rw [dig_nat, Nat.pow_succ, ← Nat.mul_assoc]
      omega
    · intro y hy
      rcases List.mem_cons.1 hy with rfl | hy
      · exact dig_isDig _
      · exact d y hy
theorem valR_lt (r : List (BitVec 8)) (h : ∀ c ∈ r, isDig c.toNat) : valR r < 10 ^ r.length := by
  have := valM_lt r.reverse (fun c hc => h c (List.mem_reverse.1 hc))
  rwa [valM_rev, List.reverse_reverse, List.length_reverse] at this
theorem last_zero (r : List (BitVec 8)) (h : r ≠ []) (hd : ∀ c ∈ r, isDig c.toNat) (hl : (r.getLast h).toNat = 48) : valR r < 10 ^ (r.length - 1) := by
  have e := List.dropLast_concat_getLast h
  have h1 := valR_snoc (r.getLast h) r.dropLast
  rw [e, hl, Nat.sub_self, Nat.zero_mul, Nat.add_zero] at h1
  rw [h1]
  have h2 := valR_lt r.dropLast (fun c hc => hd c ((List.dropLast_sublist r).subset hc))
  rwa [List.length_dropLast] at h2
/-- The digits of twice a number, and one more. -/
theorem dbl_rev (n odd : Nat) (ho : odd ≤ 1) : revN (2 * n + odd) = if 0 < (dbl (revN n) odd).2 then (dbl (revN n) odd).1 ++ [dig 1] else (dbl (revN n) odd).1 := by
  obtain ⟨hv, hc, hd⟩ := dbl_val (revN n) odd (revN_digits n) ho
  rw [revN_val] at hv
  have hlen := dbl_length (revN n) odd
  have hp := revN_pos n
  have hne : (dbl (revN n) odd).1 ≠ [] := fun e => by rw [e] at hlen; simp at hlen; omega
  by_cases c : 0 < (dbl (revN n) odd).2
  · rw [if_pos c]
    have c1 : (dbl (revN n) odd).2 = 1 := by omega
    rw [c1, Nat.one_mul, ← hlen] at hv
    have e : valR ((dbl (revN n) odd).1 ++ [dig 1]) = 2 * n + odd := by
      rw [valR_snoc, dig_nat, show 48 + 1 % 10 - 48 = 1 from rfl, Nat.one_mul]
      exact hv
    rw [← e]
    refine revN_uniq _ (by simp) (fun x hx => ?_) (Or.inr (by simp [dig_nat]))
    rcases List.mem_append.1 hx with hx | hx
    · exact hd x hx
    · rw [List.mem_singleton.1 hx]; exact dig_isDig 1
  · rw [if_neg c]
    have c0 : (dbl (revN n) odd).2 = 0 := by omega
    rw [c0, Nat.zero_mul, Nat.add_zero] at hv
    rw [← hv]
    refine revN_uniq _ hne hd ?_
    by_cases h1 : (revN n).length = 1
    · exact Or.inl (hlen.trans h1)
    · right
      intro h48
      have h2 := last_zero _ hne hd h48
      have h3 := revN_low n (by omega)
      rw [hlen, hv] at h2
      omega
theorem strB_cons (l : List (BitVec 8)) : strB (dig 1 :: l) = ⟨#[49]⟩ ++ strB l := by
  apply ByteArray.ext
  rw [ByteArray.data_append]
  apply Array.toList_inj.1
  simp [strB]
  decide

/-- The text of twice a number, and one more. -/
theorem twice_any (n odd : Nat) (ho : odd ≤ 1) (hn : n < MM) (w : World) :
    Calls Try.prog 78 #[.string (textN n), .int .u64 odd] w fun e w' => e = .returned (.string (textN (2 * n + odd))) ∧ Below w.heap.size w w' := by
  have hlen := dbl_length (revN n) odd
  have hs := text_size n
  have h39 : (revN n).length ≤ 40 := Nat.le_trans (revN_len 39 n (by rw [MM_eq] at hn; omega)) (by omega)
  obtain ⟨hv, hc, hd⟩ := dbl_val (revN n) odd (revN_digits n) ho
  have hgb : ∀ k, (hk : k < (revN n).length) → gb (textN n) ((revN n).length - 1 - k) = (revN n)[k].toNat := fun k hk => by
    rw [textN, gb_strB _ _ (by rw [List.length_reverse]; omega), List.getElem_reverse]
    congr 2
    omega
  refine twice_walk (textN n) odd (fun k => (dbl ((revN n).take k) odd).2) (fun j => ((dbl (revN n) odd).1.reverse[j]?.getD 0#8).toNat) (dbl (revN n) odd).1.reverse (textN (2 * n + odd)) (by omega) ho (text_isT n).1 (by simp [dbl])
    (fun k => (dbl_val ((revN n).take k) odd (fun x hx => revN_digits n x (List.mem_of_mem_take hx)) ho).2.1) (fun k hk => ?_) (by rw [List.length_reverse, hlen, hs]) (fun j hj => ?_) ?_ w
  · rw [hs] at hk ⊢
    obtain ⟨g1, g2⟩ := dbl_get (revN n) odd k hk (by rw [hlen]; exact hk)
    rw [hgb k hk]
    refine ⟨?_, g2.symm⟩
    rw [List.getElem?_reverse (by rw [hlen]; omega), hlen, show (revN n).length - 1 - ((revN n).length - 1 - k) = k by omega, List.getElem?_eq_getElem (by rw [hlen]; exact hk), Option.getD_some, g1, dig_nat]
    omega
  · rw [List.getElem?_eq_getElem hj, Option.getD_some]
  · rw [hs, List.take_length, textN, dbl_rev n odd ho]
    by_cases c : 0 < (dbl (revN n) odd).2
    · rw [if_pos c, if_pos c, List.reverse_append]
      exact strB_cons _
    · rw [if_neg c, if_neg c]

end Go.Proofs.Ytcaeaepnobbjlaa

