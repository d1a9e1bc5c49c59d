/- Numbers and their texts: there and back, and in order. Plain. -/
import Derived.Test.YtcaeaepnobbjlaaNg
namespace Go.Proofs.Ytcaeaepnobbjlaa
set_option linter.unusedVariables false
set_option linter.unusedSimpArgs false
open Go.RowKit

/-- The number of digits, the last one first. -/
def valR : List (BitVec 8) → Nat
  | [] => 0
  | c :: r => 10 * valR r + (c.toNat - 48)
/-- The number of digits, the first one first. -/
def valM : List (BitVec 8) → Nat
  | [] => 0
  | c :: x => (c.toNat - 48) * 10 ^ x.length + valM x
theorem valR_snoc (c : BitVec 8) : ∀ r : List (BitVec 8), valR (r ++ [c]) = valR r + (c.toNat - 48) * 10 ^ r.length
  | [] => by simp [valR]
  | d :: r => by
    rw [List.cons_append, valR, valR, valR_snoc c r, List.length_cons, Nat.pow_succ, Nat.mul_add, ← Nat.mul_assoc, Nat.mul_comm (c.toNat - 48) (10 ^ r.length * 10), Nat.mul_comm (10 ^ r.length) 10,
      Nat.mul_assoc 10 (10 ^ r.length), Nat.mul_comm (10 ^ r.length) (c.toNat - 48), ← Nat.mul_assoc 10]
    omega
theorem valM_rev : ∀ x : List (BitVec 8), valM x = valR x.reverse
  | [] => rfl
  | c :: x => by rw [valM, List.reverse_cons, valR_snoc, valM_rev x, List.length_reverse]; omega
theorem valM_lt : ∀ x : List (BitVec 8), (∀ c ∈ x, isDig c.toNat) → valM x < 10 ^ x.length
  | [], _ => by simp [valM]
  | c :: x, h => by
    have h1 := valM_lt x fun d hd => h d (List.mem_cons_of_mem _ hd)
    have h2 := (h c (List.mem_cons_self)).2
    have h3 : (c.toNat - 48) * 10 ^ x.length ≤ 9 * 10 ^ x.length := Nat.mul_le_mul_right _ (by omega)
    rw [valM, List.length_cons, Nat.pow_succ]
    omega

theorem dig_isDig (n : Nat) : isDig (dig n).toNat := by rw [dig_nat]; exact ⟨by omega, by omega⟩
theorem revN_digits (n : Nat) : ∀ c ∈ revN n, isDig c.toNat := by
  induction n using Nat.strongRecOn with
  | ind n ih =>
    by_cases h : n / 10 = 0
    · rw [revN_last n h]; intro c hc; rw [List.mem_singleton.1 hc]; exact dig_isDig n
    · rw [revN_more n h]
      intro c hc
      rcases List.mem_cons.1 hc with rfl | hc
      · exact dig_isDig n
      · exact ih (n / 10) (by omega) c hc
theorem revN_val (n : Nat) : valR (revN n) = n := by
  induction n using Nat.strongRecOn with
  | ind n ih =>
    by_cases h : n / 10 = 0
    · rw [revN_last n h, valR, valR, dig_nat]; omega
    · rw [revN_more n h, valR, ih (n / 10) (by omega), dig_nat]; omega
theorem revN_ne (n : Nat) : revN n ≠ [] := fun e => by have := revN_pos n; rw [e] at this; simp at this
theorem revN_lead (n : Nat) : (revN n).length = 1 ∨ ((revN n).getLast (revN_ne n)).toNat ≠ 48 := by
  induction n using Nat.strongRecOn with
  | ind n ih =>
    by_cases h : n / 10 = 0
    · left; rw [revN_last n h]; rfl
    · right
      have e : (revN n).getLast (revN_ne n) = (revN (n / 10)).getLast (revN_ne _) := by
        simp only [revN_more n h]
        exact List.getLast_cons (revN_ne _)
      rw [e]
      rcases ih (n / 10) (by omega) with h1 | h1
      · by_cases h2 : n / 10 / 10 = 0
        · simp only [revN_last (n / 10) h2, List.getLast_singleton, dig_nat]; omega
        · rw [revN_more _ h2] at h1
          have := revN_pos (n / 10 / 10)
          rw [List.length_cons] at h1
          omega
      · exact h1
theorem revN_low (n : Nat) : 1 < (revN n).length → 10 ^ ((revN n).length - 1) ≤ n := by
  induction n using Nat.strongRecOn with
  | ind n ih =>
    intro hl
    by_cases h : n / 10 = 0
    · rw [revN_last n h] at hl; simp at hl
    · rw [revN_more n h, List.length_cons, Nat.add_sub_cancel]
      have hp := revN_pos (n / 10)
      by_cases h1 : (revN (n / 10)).length = 1
      · rw [h1]; omega
      · have h2 := ih (n / 10) (by omega) (by omega)
        obtain ⟨k, hk⟩ : ∃ k, (revN (n / 10)).length = k + 1 := ⟨(revN (n / 10)).length - 1, by omega⟩
        rw [hk] at h2 ⊢
        rw [Nat.add_sub_cancel] at h2
        rw [Nat.pow_succ]
        omega
theorem valR_pos : ∀ (r : List (BitVec 8)) (h : r ≠ []), (∀ c ∈ r, isDig c.toNat) → (r.getLast h).toNat ≠ 48 → 0 < valR r
  | [c], _, hd, hl => by
    rw [valR, valR]
    have := (hd c (by simp)).1
    simp at hl
    omega
  | c :: d :: r, _, hd, hl => by
    have h := valR_pos (d :: r) (by simp) (fun x hx => hd x (List.mem_cons_of_mem _ hx)) (by simpa using hl)
    rw [valR]; omega
theorem dig_of (c : BitVec 8) (n : Nat) (hc : isDig c.toNat) (h : n % 10 = c.toNat - 48) : dig n = c := by
  apply BitVec.eq_of_toNat_eq
  rw [dig_nat, h]
  have := hc.1
  omega
/-- One text for each number. -/
theorem revN_uniq : ∀ (r : List (BitVec 8)) (h : r ≠ []), (∀ c ∈ r, isDig c.toNat) → (r.length = 1 ∨ (r.getLast h).toNat ≠ 48) → revN (valR r) = r
  | [c], _, hd, _ => by
    have h1 := hd c (by simp)
    have h2 : c.toNat ≤ 57 := h1.2
    have e : valR [c] = c.toNat - 48 := by simp [valR]
    rw [e, revN_last _ (by omega), dig_of c _ h1 (by omega)]
  | c :: d :: r, _, hd, hl => by
    have hd2 : ∀ x ∈ d :: r, isDig x.toNat := fun x hx => hd x (List.mem_cons_of_mem _ hx)
    have h1 := hd c (by simp)
    have h2 : c.toNat ≤ 57 := h1.2
    have hl2 : ((d :: r).getLast (by simp)).toNat ≠ 48 := by
      rcases hl with h | h
      · simp at h
      · simpa using h
    have hp := valR_pos (d :: r) (by simp) hd2 hl2
    have ih := revN_uniq (d :: r) (by simp) hd2 (Or.inr hl2)
    rw [valR]
    have e1 : (10 * valR (d :: r) + (c.toNat - 48)) / 10 = valR (d :: r) := by omega
    rw [revN_more _ (by rw [e1]; omega), e1, ih, dig_of c _ h1 (by omega)]

/-! Texts. -/
theorem strB_size (l : List (BitVec 8)) : (strB l).size = l.length := by
  show (l.map fun c => UInt8.ofNat c.toNat).toArray.size = l.length
  simp
theorem gb_strB (l : List (BitVec 8)) (k : Nat) (hk : k < l.length) : gb (strB l) k = l[k].toNat := by
  rw [gb, dif_pos (by rw [strB_size]; exact hk)]
  have e : (strB l)[k]'(by rw [strB_size]; exact hk) = UInt8.ofNat l[k].toNat := by
    show ((l.map fun c => UInt8.ofNat c.toNat).toArray)[k]'_ = _
    simp
  rw [e, UInt8.toNat_ofNat']
  have := l[k].isLt
  omega
def bytesL (s : ByteArray) : List (BitVec 8) := (List.range s.size).map fun k => BitVec.ofNat 8 (gb s k)
theorem bytesL_length (s : ByteArray) : (bytesL s).length = s.size := by simp [bytesL]
theorem bytesL_get (s : ByteArray) (k : Nat) (hk : k < (bytesL s).length) : (bytesL s)[k].toNat = gb s k := by
  have := gb_lt s k
  simp [bytesL]
  omega
theorem strB_bytes (s : ByteArray) : strB (bytesL s) = s := by
  apply ByteArray.ext
  apply Array.ext
  · show (strB (bytesL s)).size = s.size
    rw [strB_size, bytesL_length]
  · intro i h1 h2
    have h3 : i < (bytesL s).length := by rw [bytesL_length]; exact h2
    have e : (strB (bytesL s)).data[i]'h1 = UInt8.ofNat ((bytesL s)[i]'h3).toNat := by
      show ((bytesL s).map fun c => UInt8.ofNat c.toNat).toArray[i]'_ = _
      simp
    rw [e, bytesL_get, gb, dif_pos (show i < s.size from h2)]
    exact UInt8.ofNat_toNat
theorem pv_strB (l : List (BitVec 8)) : ∀ k, k ≤ l.length → pv (strB l) k = valR ((l.take k).reverse)
  | 0, _ => by simp [pv, valR]
  | k + 1, h => by
    rw [pv, pv_strB l k (by omega), gb_strB l k (by omega), List.take_succ_eq_append_getElem (by omega), List.reverse_append]
    rfl
theorem isT_strB (l : List (BitVec 8)) : IsT (strB l) ↔ (∀ c ∈ l, isDig c.toNat) ∧ (l.length = 1 ∨ (1 < l.length ∧ ∀ h : 0 < l.length, l[0].toNat ≠ 48)) := by
  unfold IsT
  rw [strB_size]
  constructor
  · rintro ⟨h1, h2⟩
    refine ⟨fun c hc => ?_, h2.imp id fun ⟨a, b⟩ => ⟨a, fun h => by rw [gb_strB l 0 h] at b; exact b⟩⟩
    obtain ⟨k, hk, rfl⟩ := List.getElem_of_mem hc
    have := h1 k hk
    rwa [gb_strB l k hk] at this
  · rintro ⟨h1, h2⟩
    refine ⟨fun k hk => ?_, h2.imp id fun ⟨a, b⟩ => ⟨a, by rw [gb_strB l 0 (by omega)]; exact b (by omega)⟩⟩
    rw [gb_strB l k hk]
    exact h1 _ (List.getElem_mem hk)

theorem text_isT (n : Nat) : IsT (textN n) := by
  rw [textN, isT_strB]
  refine ⟨fun c hc => revN_digits n c (List.mem_reverse.1 hc), ?_⟩
  have hlr : (revN n).reverse.length = (revN n).length := List.length_reverse
  have hp := revN_pos n
  rcases revN_lead n with h | h
  · exact Or.inl (hlr.trans h)
  · by_cases h1 : (revN n).length = 1
    · exact Or.inl (hlr.trans h1)
    · refine Or.inr ⟨by omega, fun h0 => ?_⟩
      have e : (revN n).reverse[0] = (revN n).getLast (revN_ne n) := by
        rw [List.getElem_reverse, List.getLast_eq_getElem]
        congr 1
      rw [e]; exact h
theorem text_pv (n : Nat) : pv (textN n) (textN n).size = n := by
  rw [textN, strB_size, pv_strB _ _ (Nat.le_refl _), List.take_length, List.reverse_reverse, revN_val]
theorem text_size (n : Nat) : (textN n).size = (revN n).length := by rw [textN, strB_size, List.length_reverse]
theorem text_pwN (n : Nat) (hn : n < MM) : pwN (textN n) = n := by
  have h : IsT (textN n) ∧ pv (textN n) (textN n).size < MM := ⟨text_isT n, by rw [text_pv]; exact hn⟩
  rw [pwN, if_pos h, text_pv]
theorem text_pwE (n : Nat) (hn : n < MM) : pwE (textN n) = 0 := by
  rw [pwE, if_pos (text_isT n), if_pos (by rw [text_pv]; exact hn)]
theorem text_back (s : ByteArray) (h : IsT s) : textN (pv s s.size) = s := by
  have e := strB_bytes s
  have hT : IsT (strB (bytesL s)) := by rw [e]; exact h
  obtain ⟨h1, h2⟩ := (isT_strB _).1 hT
  have hne : bytesL s ≠ [] := fun c => by rw [c] at h2; simp at h2
  have hpv : pv s s.size = valR (bytesL s).reverse := by
    have := pv_strB (bytesL s) (bytesL s).length (Nat.le_refl _)
    rw [e, List.take_length, bytesL_length] at this
    exact this
  have hu := revN_uniq (bytesL s).reverse (by simpa using hne) (fun c hc => h1 c (List.mem_reverse.1 hc)) (by
    rw [List.length_reverse]
    rcases h2 with h2 | ⟨h2, h3⟩
    · exact Or.inl h2
    · right
      have e2 : (bytesL s).reverse.getLast (by simpa using hne) = (bytesL s)[0]'(by omega) := by
        rw [List.getLast_reverse, List.head_eq_getElem]
      rw [e2]; exact h3 (by omega))
  rw [textN, hpv, hu, List.reverse_reverse, e]

/-! Order. -/
theorem less_lex : ∀ (x y : List (BitVec 8)), x.length = y.length → (∀ c ∈ x, isDig c.toNat) → (∀ c ∈ y, isDig c.toNat) →
    Op.bytesLess (x.map fun c => UInt8.ofNat c.toNat) (y.map fun c => UInt8.ofNat c.toNat) = decide (valM x < valM y)
  | [], [], _, _, _ => by simp [Op.bytesLess, valM]
  | a :: x, b :: y, hl, hx, hy => by
    have hl2 : x.length = y.length := by simpa using hl
    have ih := less_lex x y hl2 (fun c hc => hx c (List.mem_cons_of_mem _ hc)) (fun c hc => hy c (List.mem_cons_of_mem _ hc))
    have vx := valM_lt x (fun c hc => hx c (List.mem_cons_of_mem _ hc))
    have vy := valM_lt y (fun c hc => hy c (List.mem_cons_of_mem _ hc))
    have da := hx a (List.mem_cons_self)
    have db := hy b (List.mem_cons_self)
    have a1 : a.toNat ≤ 57 := da.2
    have a2 : 48 ≤ a.toNat := da.1
    have b1 : b.toNat ≤ 57 := db.2
    have b2 : 48 ≤ b.toNat := db.1
    rw [List.map_cons, List.map_cons, Op.bytesLess, ih, valM, valM, ← hl2]
    rw [← hl2] at vy
    have e1 : (UInt8.ofNat a.toNat < UInt8.ofNat b.toNat) ↔ a.toNat < b.toNat := by
      rw [UInt8.lt_iff_toNat_lt, UInt8.toNat_ofNat', UInt8.toNat_ofNat']
      have := a.isLt
      have := b.isLt
      omega
    have e2 : (UInt8.ofNat a.toNat == UInt8.ofNat b.toNat) = decide (a.toNat = b.toNat) := by
      by_cases c : a.toNat = b.toNat
      · rw [c]; simp
      · rw [decide_eq_false c]
        simp only [beq_eq_false_iff_ne, ne_eq]
        intro h
        have h2 := congrArg UInt8.toNat h
        rw [UInt8.toNat_ofNat', UInt8.toNat_ofNat'] at h2
        have := a.isLt
        have := b.isLt
        omega
    rw [e2]
    generalize 10 ^ x.length = P at *
    by_cases c : a.toNat < b.toNat
    · have h3 : (a.toNat - 48) * P + P ≤ (b.toNat - 48) * P := by
        have := Nat.mul_le_mul_right P (show (a.toNat - 48) + 1 ≤ b.toNat - 48 by omega)
        rwa [Nat.add_mul, Nat.one_mul] at this
      rw [decide_eq_true (e1.2 c), decide_eq_true (show (a.toNat - 48) * P + valM x < (b.toNat - 48) * P + valM y by omega)]
      rfl
    · rw [decide_eq_false (fun h => c (e1.1 h))]
      by_cases c2 : a.toNat = b.toNat
      · rw [decide_eq_true c2, c2]
        simp
      · have h3 : (b.toNat - 48) * P + P ≤ (a.toNat - 48) * P := by
          have := Nat.mul_le_mul_right P (show (b.toNat - 48) + 1 ≤ a.toNat - 48 by omega)
          rwa [Nat.add_mul, Nat.one_mul] at this
        rw [decide_eq_false c2, decide_eq_false (show ¬ (a.toNat - 48) * P + valM x < (b.toNat - 48) * P + valM y by omega)]
        rfl
theorem text_lex (a b : Nat) (h : (textN a).size = (textN b).size) : Op.bytesLess (textN a).toList (textN b).toList = decide (a < b) := by
  rw [text_size, text_size] at h
  rw [ByteArray.toList_eq, ByteArray.toList_eq]
  have e := less_lex (revN a).reverse (revN b).reverse (by simpa using h) (fun c hc => revN_digits a c (List.mem_reverse.1 hc)) (fun c hc => revN_digits b c (List.mem_reverse.1 hc))
  rw [valM_rev, valM_rev, List.reverse_reverse, List.reverse_reverse, revN_val, revN_val] at e
  exact e
theorem text_shorter (a b : Nat) (h : (textN a).size < (textN b).size) : a < b := by
  rw [text_size, text_size] at h
  have h1 := revN_pos a
  have h2 := revN_low b (by omega)
  have h3 := valM_lt (revN a).reverse (fun c hc => revN_digits a c (List.mem_reverse.1 hc))
  rw [valM_rev, List.reverse_reverse, revN_val, List.length_reverse] at h3
  have h4 : 10 ^ (revN a).length ≤ 10 ^ ((revN b).length - 1) := Nat.pow_le_pow_right (by omega) (by omega)
  omega

end Go.Proofs.Ytcaeaepnobbjlaa
