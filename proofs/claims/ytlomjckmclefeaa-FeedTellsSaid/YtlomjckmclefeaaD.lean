/- The feed: the law's alive and rest. -/
import Derived.Test.YtlomjckmclefeaaC
namespace Go.Proofs.Ytlomjckmclefeaa
set_option linter.unusedVariables false
set_option linter.unusedSimpArgs false
open Go.Conc Go.RowKit

theorem Upd.far {l l2 : List Nat} {w w1 w2 : World} (h : Upd l w w1) (k : Upd l2 w1 w2) (hl : ∀ i, i ∈ l2 → i ∉ l → w.heap.size ≤ i) : Upd l w w2 :=
  ⟨k.os.trans h.os, k.tape.trans h.tape, k.output.trans h.output, Nat.le_trans h.size k.size, fun i hi hn => (k.block i (Nat.lt_of_lt_of_le hi h.size) (fun c => by have := hl i c hn; omega)).trans (h.block i hi hn)⟩
theorem upd_alloc (l : List Nat) (w : World) (o : Obj) : Upd l w (w.alloc o) := ⟨rfl, rfl, rfl, by simp, fun k hk _ => Below.heap_alloc _ _ _ hk⟩
theorem upd_drew (l : List Nat) (w : World) : Upd l w w.drew := ⟨rfl, rfl, rfl, Nat.le_refl _, fun _ _ _ => rfl⟩

/-! alive. -/
structure AS (w w1 : World) (b cu cn z : Nat) (U N : List Int) (cl : Bool) : Prop where
  feed : FeedAt w1 b cu cn 2 U N cl
  zero : w1.heap[z]? = some (.cells #[.chan none, .chan none, .bool false] 49 (0, 0))
  below : Below w.heap.size w w1
  from' : w.heap.size ≤ b ∧ w.heap.size ≤ cu ∧ w.heap.size ≤ cn
  ne : z ∉ [b, cu, cn]
theorem AS.upd {w w1 w2 : World} {b cu cn z : Nat} {U N U' N' : List Int} {cl cl' : Bool} (h : AS w w1 b cu cn z U N cl) (hf : FeedAt w2 b cu cn 2 U' N' cl') (k : Upd [b, cu, cn] w1 w2) : AS w w2 b cu cn z U' N' cl' :=
  ⟨hf, (k.block z (lt_of_heap h.zero) h.ne).trans h.zero, k.below h.below h.below.size (by
    intro i hi
    simp only [List.mem_cons, List.not_mem_nil, or_false] at hi
    rcases hi with rfl | rfl | rfl
    · exact h.from'.1
    · exact h.from'.2.1
    · exact h.from'.2.2), h.from', h.ne⟩
theorem AS.start {w w1 : World} {b cu cn : Nat} (hf : FeedAt w1 b cu cn 2 [] [] false) (hb : Below w.heap.size w w1) (h1 : w.heap.size ≤ b) (h2 : w.heap.size ≤ cu) (h3 : w.heap.size ≤ cn) :
    AS w (w1.alloc (.cells #[.chan none, .chan none, .bool false] 49)) b cu cn w1.heap.size [] [] false :=
  ⟨hf.upd (upd_alloc [] _ _) (by simp) (by simp) (by simp), heap_alloc_new _ _, hb.alloc hb.size _, ⟨h1, h2, h3⟩, by
    have := hf.lt
    simp only [List.mem_cons, List.not_mem_nil, or_false, not_or]
    omega⟩
theorem AS.z {w w1 : World} {b cu cn z : Nat} {U N : List Int} {cl : Bool} (h : AS w w1 b cu cn z U N cl) : w1.cell? ⟨z, 0, none⟩ = some (.chan none) := by
  have := h.zero
  simp [World.cell?, this]
theorem two3 {b cu cn : Nat} {w w' : World} (h : Upd [cu, cn] w w') : Upd [b, cu, cn] w w' := h.more (by intro k hk; simp at hk ⊢; omega)

set_option maxRecDepth 100000 in
set_option maxHeartbeats 4000000 in
theorem alive19_any (w : World) : Calls Try.prog 7 #[] w fun e w' => e = .returned (.bool true) ∧ Below w.heap.size w w' := by
  have p1 : ∀ w b cu cn, FeedAt w b cu cn 2 [] [] false → Calls Try.prog 8 #[.pointer (some ⟨b, 0, none⟩), .int .i64 1, .bool false] w fun e w' => e = .returned (.int .i64 0) ∧ FeedAt w' b cu cn 2 [] [1] false ∧ Upd [cu, cn] w w' :=
    fun _ _ _ _ h => push_any _ _ _ 2 [] [] false 1 false _ h
  have p2 : ∀ w b cu cn, FeedAt w b cu cn 2 [] [1] false → Calls Try.prog 8 #[.pointer (some ⟨b, 0, none⟩), .int .i64 2, .bool true] w fun e w' => e = .returned (.int .i64 0) ∧ FeedAt w' b cu cn 2 [2] [1] false ∧ Upd [cu, cn] w w' :=
    fun _ _ _ _ h => push_any _ _ _ 2 [] [1] false 2 true _ h
  have p3 : ∀ w b cu cn, FeedAt w b cu cn 2 [2] [1] false → Calls Try.prog 8 #[.pointer (some ⟨b, 0, none⟩), .int .i64 3, .bool false] w fun e w' => e = .returned (.int .i64 0) ∧ FeedAt w' b cu cn 2 [2] [1, 3] false ∧ Upd [cu, cn] w w' :=
    fun _ _ _ _ h => push_any _ _ _ 2 [2] [1] false 3 false _ h
  have p4 : ∀ w b cu cn, FeedAt w b cu cn 2 [2] [1, 3] false → Calls Try.prog 8 #[.pointer (some ⟨b, 0, none⟩), .int .i64 4, .bool false] w fun e w' => e = .returned (.int .i64 5) ∧ FeedAt w' b cu cn 2 [2] [1, 3] false ∧ Upd [cu, cn] w w' :=
    fun _ _ _ _ h => push_any _ _ _ 2 [2] [1, 3] false 4 false _ h
  have p5 : ∀ w b cu cn, FeedAt w b cu cn 2 [2] [1, 3] false → Calls Try.prog 12 #[.pointer (some ⟨b, 0, none⟩)] w fun e w' => e = .returned (.int .i64 3) ∧ w' = w.drew :=
    fun _ _ _ _ h => len_any _ _ _ 2 [2] [1, 3] false _ h
  have p6 : ∀ w b cu cn, FeedAt w b cu cn 2 [2] [1, 3] false → Calls Try.prog 11 #[.pointer (some ⟨b, 0, none⟩)] w fun e w' => e = .returned (.tuple #[.int .i64 2, .int .i64 0]) ∧ FeedAt w' b cu cn 2 [] [1, 3] false ∧ Upd [cu, cn] w w' :=
    fun _ _ _ _ h => pop_u _ _ _ _ _ _ _ _ _ h
  have p7 : ∀ w b cu cn, FeedAt w b cu cn 2 [] [1, 3] false → Calls Try.prog 11 #[.pointer (some ⟨b, 0, none⟩)] w fun e w' => e = .returned (.tuple #[.int .i64 1, .int .i64 0]) ∧ FeedAt w' b cu cn 2 [] [3] false ∧ Upd [cu, cn] w w' :=
    fun _ _ _ _ h => pop_n _ _ _ _ _ _ _ _ h
  have p8 : ∀ w b cu cn, FeedAt w b cu cn 2 [] [3] false → Calls Try.prog 9 #[.pointer (some ⟨b, 0, none⟩)] w fun e w' => e = .returned (.int .i64 0) ∧ FeedAt w' b cu cn 2 [] [3] true ∧ Upd [b, cu, cn] w w' :=
    fun _ _ _ _ h => close_open _ _ _ _ _ _ _ h
  have p9 : ∀ w b cu cn, FeedAt w b cu cn 2 [] [3] true → Calls Try.prog 11 #[.pointer (some ⟨b, 0, none⟩)] w fun e w' => e = .returned (.tuple #[.int .i64 3, .int .i64 0]) ∧ FeedAt w' b cu cn 2 [] [] true ∧ Upd [cu, cn] w w' :=
    fun _ _ _ _ h => pop_n _ _ _ _ _ _ _ _ h
  have p10 : ∀ w b cu cn, FeedAt w b cu cn 2 [] [] true → Calls Try.prog 11 #[.pointer (some ⟨b, 0, none⟩)] w fun e w' => e = .returned (.tuple #[.int .i64 0, .int .i64 7]) ∧ w = w' :=
    fun _ _ _ _ h => pop_e _ _ _ _ true _ h
  have p11 : ∀ w z, w.cell? ⟨z, 0, none⟩ = some (.chan none) → Calls Try.prog 11 #[.pointer (some ⟨z, 0, none⟩)] w fun e w' => e = .returned (.tuple #[.int .i64 0, .int .i64 6]) ∧ w = w' :=
    fun _ _ h => pop_none _ _ (made_zero _ _ h)
  have p12 : ∀ w b cu cn, FeedAt w b cu cn 2 [] [] true → Calls Try.prog 8 #[.pointer (some ⟨b, 0, none⟩), .int .i64 9, .bool true] w fun e w' => e = .returned (.int .i64 7) ∧ w = w' :=
    fun _ _ _ _ h => push_shut _ _ _ _ _ _ _ _ _ h
  have p13 : ∀ w, Calls Try.prog 9 #[.pointer none] w fun e w' => e = .returned (.int .i64 6) ∧ w = w' := fun _ => close_none _ _ (made_nil _)
  have n0 := fun w => new_none 0 (Or.inl (by omega)) w
  have n257 := fun w => new_none 257 (Or.inr (by omega)) w
  have n2 : ∀ w, Calls Try.prog 6 #[.int .i64 2] w fun e w' => ∃ v, e = .returned v ∧ NewFeed w w' v 2 := fun w => new_any 2 (by omega) (by omega) w
  have P1 := Lib.hid p1
  have P2 := Lib.hid p2
  have P3 := Lib.hid p3
  have P4 := Lib.hid p4
  have P5 := Lib.hid p5
  have P6 := Lib.hid p6
  have P7 := Lib.hid p7
  have P8 := Lib.hid p8
  have P9 := Lib.hid p9
  have P10 := Lib.hid p10
  have P11 := Lib.hid p11
  have P12 := Lib.hid p12
  have P13 := Lib.hid p13
  have N0 := Lib.hid n0
  have N257 := Lib.hid n257
  have N2 := Lib.hid n2
  clear p1 p2 p3 p4 p5 p6 p7 p8 p9 p10 p11 p12 p13 n0 n2 n257
  go_enter Try.func7, Try.ntmps7
  go_wp2_with (first
    | (go_at_call 6; (with_reducible refine (N2.out _).mono ?_); rintro e w1 ⟨v, rfl, hN⟩
       obtain ⟨b, cu, cn, rfl, hf, h1, h2, h3⟩ := hN.ex
       have HA := Lib.hid (AS.start hf hN.below h1 h2 h3)
       clear hf h1 h2 h3 hN)
    | (obtain ⟨w2, hw⟩ : ∃ w2, w1.alloc (.cells #[.chan none, .chan none, .bool false] 49) = w2 := ⟨_, rfl⟩
       rewrite [hw]
       rewrite [hw] at HA
       clear hw
       generalize w1.heap.size = z at *)
    | (go_at_call 8; (with_reducible refine (P1.out _ _ _ _ HA.out.feed).mono ?_); rintro e w3 ⟨rfl, hf, hu⟩; have HA3 := Lib.hid (HA.out.upd hf (two3 hu)); clear hf hu)
    | (go_at_call 8; (with_reducible refine (P2.out _ _ _ _ HA3.out.feed).mono ?_); rintro e w4 ⟨rfl, hf, hu⟩; have HA4 := Lib.hid (HA3.out.upd hf (two3 hu)); clear hf hu)
    | (go_at_call 8; (with_reducible refine (P3.out _ _ _ _ HA4.out.feed).mono ?_); rintro e w5 ⟨rfl, hf, hu⟩; have HA5 := Lib.hid (HA4.out.upd hf (two3 hu)); clear hf hu)
    | (go_at_call 8; (with_reducible refine (P4.out _ _ _ _ HA5.out.feed).mono ?_); rintro e w6 ⟨rfl, hf, hu⟩; have HA6 := Lib.hid (HA5.out.upd hf (two3 hu)); clear hf hu)
    | (go_at_call 12; (with_reducible refine (P5.out _ _ _ _ HA6.out.feed).mono ?_); rintro e w7 ⟨rfl, hw⟩; have HA7 : Hid (AS w w7 b cu cn z [2] [1, 3] false) := by rw [hw]; exact HA6.out.upd HA6.out.feed.drew (upd_drew _ _)
       clear hw)
    | (go_at_call 11; (with_reducible refine (P6.out _ _ _ _ HA7.out.feed).mono ?_); rintro e w8 ⟨rfl, hf, hu⟩; have HA8 := Lib.hid (HA7.out.upd hf (two3 hu)); clear hf hu)
    | (go_at_call 11; (with_reducible refine (P7.out _ _ _ _ HA8.out.feed).mono ?_); rintro e w9 ⟨rfl, hf, hu⟩; have HA9 := Lib.hid (HA8.out.upd hf (two3 hu)); clear hf hu)
    | (go_at_call 9; (with_reducible refine (P8.out _ _ _ _ HA9.out.feed).mono ?_); rintro e w10 ⟨rfl, hf, hu⟩; have HA10 := Lib.hid (HA9.out.upd hf hu); clear hf hu)
    | (go_at_call 11; (with_reducible refine (P9.out _ _ _ _ HA10.out.feed).mono ?_); rintro e w11 ⟨rfl, hf, hu⟩; have HA11 := Lib.hid (HA10.out.upd hf (two3 hu)); clear hf hu)
    | (go_at_call 11; (with_reducible refine (P10.out _ _ _ _ HA11.out.feed).mono ?_); rintro e w12 ⟨rfl, rfl⟩)
    | (go_at_call 11; (with_reducible refine (P11.out _ _ HA11.out.z).mono ?_); rintro e w12 ⟨rfl, rfl⟩)
    | (go_at_call 8; (with_reducible refine (P12.out _ _ _ _ HA11.out.feed).mono ?_); rintro e w12 ⟨rfl, rfl⟩)
    | (go_at_call 9; (with_reducible refine (P13.out _).mono ?_); rintro e w12 ⟨rfl, rfl⟩)
    | (go_at_call 6; (with_reducible refine (N0.out _).mono ?_); rintro e w12 ⟨rfl, rfl⟩)
    | (go_at_call 6; (with_reducible refine (N257.out _).mono ?_); rintro e w12 ⟨rfl, rfl⟩))
  go_ret
  exact ⟨rfl, HA11.out.below⟩

/-! rest. -/
structure RestAt (w wr : World) (b cu cn n : Nat) (cl : Bool) (v : Value) (D U N : List Int) : Prop where
  own : OwnI w.heap.size wr v D
  feed : FeedAt wr b cu cn n U N cl
  upd : Upd [cu, cn] w wr
  lt : b < w.heap.size ∧ cu < w.heap.size ∧ cn < w.heap.size
theorem RestAt.pop {w wr w1 : World} {b cu cn n : Nat} {cl : Bool} {v : Value} {D U N U' N' : List Int} (h : RestAt w wr b cu cn n cl v D U N) (hf : FeedAt w1 b cu cn n U' N' cl) (k : Upd [cu, cn] wr w1) : RestAt w w1 b cu cn n cl v D U' N' :=
  ⟨h.own.upd k (fun i hi => by have := h.own.lt i hi; have := h.lt; simp; omega), hf, h.upd.trans k, h.lt⟩
theorem RestAt.push {w w1 w2 : World} {b cu cn n : Nat} {cl : Bool} {v v' : Value} {D U N : List Int} {x : Int} {o : Obj} (h : RestAt w w1 b cu cn n cl v D U N) (ho : OwnI w.heap.size w2 v' (D ++ [x])) (hg : (w1.alloc o).grownBy w2 v.ownBlock) : RestAt w w2 b cu cn n cl v' (D ++ [x]) U N := by
  have hlt := h.lt
  have hb : ∀ i, i ∈ v.ownBlock.toList → w.heap.size ≤ i := fun i hi => (h.own.lt i (by simpa using hi)).1
  have k := upd_grown hg
  refine ⟨ho, (h.feed.upd (upd_alloc [] _ o) (by simp) (by simp) (by simp)).upd k (fun c => by have := hb _ c; omega) (fun c => by have := hb _ c; omega) (fun c => by have := hb _ c; omega), ?_, h.lt⟩
  exact (h.upd.trans (upd_alloc _ _ o)).far k (fun i hi _ => hb i hi)
theorem one_at (w : World) (x : Int) : IntsAt (w.alloc (.cells #[.int .i64 x] 3)) (.slice (some ⟨w.heap.size, 0, none⟩) 1 1) [x] := by
  refine ⟨⟨_, 1, rfl, fun _ => ⟨w.heap.size, 0, rfl, fun i hi => ?_⟩⟩⟩
  have e : i = 0 := by simp at hi; omega
  subst e
  rw [cell_of_row _ _ _ _ _ _ (heap_alloc_new _ _)]
  rfl

set_option maxRecDepth 100000 in
set_option maxHeartbeats 4000000 in
theorem rest_any (b cu cn n : Nat) (U N : List Int) (cl : Bool) (most : Nat) (hm : most ≤ 1000) (hq : U.length + N.length ≤ most) (w : World) (h : FeedAt w b cu cn n U N cl) :
    Calls Try.prog 10 #[.pointer (some ⟨b, 0, none⟩), .int .i64 (most : Int)] w fun e w' => ∃ v, e = .returned v ∧ RestAt w w' b cu cn n cl v (U ++ N) [] [] := by
  have HQ : Hid ((U ++ N).length ≤ most) := by show _ ≤ _; rw [List.length_append]; exact hq
  have H0 : Hid (RestAt w w b cu cn n cl (.slice none 0 0) [] U N) := ⟨own_nil _ _, h, Upd.refl _ _, h.lt⟩
  have HM := Lib.hid hm
  clear hm hq h
  generalize hQ : U ++ N = Q at *
  have HE : Hid (([] : List Int) ++ (U ++ N) = Q) := hQ
  clear hQ
  go_enter Try.func10, Try.ntmps10
  go_wp2_with fail
  go_loopw [5, 6] (fun v i wr => ∃ (k : Nat) (D U N : List Int), i = .int .i64 k ∧ k ≤ most ∧ D.length = k ∧ D ++ (U ++ N) = Q ∧ RestAt w wr b cu cn n cl v D U N) (fun _ i _ => ((most : Int) - intOf i).toNat)
  case atStart => exact ⟨0, [], U, N, rfl, Nat.zero_le _, rfl, HE.out, H0.out⟩
  case round =>
    obtain ⟨k, D, U, N, rfl, hk, hD, hDQ, hR⟩ := hrel
    have hm := HM.out
    have hq := HQ.out
    by_cases hlt : k < most
    · have d1 : decide (k < most) = true := decide_eq_true hlt
      have e9 : IntKind.i64.wrap ((k : Int) + 1) = ((k + 1 : Nat) : Int) := by rw [IntWalk.i64_in _ (by omega)]; omega
      have HK : Hid (k < most) := hlt
      have HD := Lib.hid hD
      have HDQ := Lib.hid hDQ
      have HR := Lib.hid hR
      by_cases hemp : U ++ N = []
      · have hU : U = [] := (List.append_eq_nil_iff.1 hemp).1
        have hN : N = [] := (List.append_eq_nil_iff.1 hemp).2
        subst hU hN
        have C := Lib.hid (pop_e b cu cn n cl wr hR.feed)
        have d2 : ((if cl then (7 : Int) else 4) != 0) = true := by cases cl <;> rfl
        have HX : Hid (D = Q) := by show _ = _; simpa using hDQ
        generalize (if cl then (7 : Int) else 4) = er at *
        clear hk hD hDQ hR hm hq hlt hemp
        go_wp2_with (go_at_call 11; (with_reducible refine C.out.mono ?_); rintro e w1 ⟨rfl, rfl⟩)
        go_ret
        exact ⟨_, rfl, by have := HR.out; rw [HX.out] at this; exact this⟩
      · obtain ⟨x, L, hxL⟩ : ∃ x L, U ++ N = x :: L := by
          cases hc : U ++ N with
          | nil => exact absurd hc hemp
          | cons x L => exact ⟨x, L, rfl⟩
        have hx : popX U N = x := by simp [popX, hxL]
        have he : popE U N cl = 0 := by simp [popE, hxL]
        have hL : U.tail ++ popN U N = L := by
          unfold popN
          cases U with
          | nil => simp at hxL ⊢; rw [hxL]; rfl
          | cons y U => simp at hxL ⊢; exact hxL.2
        have c := pop_any b cu cn n U N cl wr hR.feed
        rw [hx, he] at c
        have C := Lib.hid c
        have HL : Hid ((D ++ [x]) ++ (U.tail ++ popN U N) = Q) := by show _ = _; rw [hL, ← hDQ, hxL]; simp
        have HN : Hid (D.length + 1 ≤ 1000) := by show _ ≤ _; omega
        generalize U.tail = U' at *
        generalize popN U N = N' at *
        clear hk hD hDQ hR hm hq hlt hemp hx he hL c hxL
        go_wp2_with (first
          | (go_at_call 11; (with_reducible refine C.out.mono ?_); rintro e w1 ⟨rfl, hf, hu⟩; have HR1 := Lib.hid (HR.out.pop hf hu); clear hf hu)
          | (at_builtin; refine wpList_append_ints rfl (.tmp 21) (.tmp 23) rfl w.heap.size (w1.alloc (.cells #[.int .i64 x] 3)) _ (.slice (some ⟨w1.heap.size, 0, none⟩) 1 1) rfl rfl D [x] (World.ownsRow.alloc HR1.out.own _) (one_at w1 x) (Nat.le_trans HN.out (by decide)) (by have := HR1.out.upd.size; rw [World.size_alloc]; omega) ?_
             intro v' w2 hown hgrow hdis
             have HR2 := Lib.hid (HR1.out.push hown hgrow)
             clear hown hgrow hdis))
        go_roundw
        case rel => exact ⟨k + 1, D ++ [x], U', N', rfl, HK.out, by rw [List.length_append]; have := HD.out; simp; omega, HL.out, HR2.out⟩
        case measure => have := HK.out; simp [intOf]; omega
    · have d1 : decide (k < most) = false := decide_eq_false hlt
      have hUN : U ++ N = [] := by
        have := congrArg List.length hDQ
        rw [List.length_append] at this
        exact List.eq_nil_of_length_eq_zero (by omega)
      have hU : U = [] := (List.append_eq_nil_iff.1 hUN).1
      have hN : N = [] := (List.append_eq_nil_iff.1 hUN).2
      subst hU hN
      have HX : Hid (D = Q) := by show _ = _; simpa using hDQ
      have HR := Lib.hid hR
      clear hk hD hDQ hR hm hq hlt hUN
      go_wp2_with fail
      go_ret
      exact ⟨_, rfl, by have := HR.out; rw [HX.out] at this; exact this⟩

end Go.Proofs.Ytlomjckmclefeaa
