/- A part of the proof that the law TopThree returns true for all arguments of bulk at most 1048576 (no other condition). Here: For all spaces, measures, caps, lists of weights and prefixes the law TopThree returns true and leaves its arguments: three kinds of summary, one truth. Condition: what is read holds together at most 1048576 values. -/
import Derived.Test.YtcbahkfbdlhabaaGreatDoorK30
import Derived.Test.YtcbahkfbdlhabaaGreatDoorCards
import Derived.Test.YtcbahkfbdlhabaaGreatDoorTie
import Derived.ProofKit
import Derived.OpenShut
import Derived.Deep.Slices
import Derived.Deep.Strs
import Derived.Deep.DeepHandedRow
import Derived.Lib.LaidIn
import Derived.SevenTiedAt
namespace Go.Proofs.YtcbahkfbdlhabaaGreatDoor
set_option linter.unusedVariables false
set_option linter.unusedSimpArgs false
open Go.ChangeShapes Go.WideShapes Go.ChangeAt Go.RowKit Go.Deep

section
variable {H : Type} {enc : TypeId × Value → H} {P : Program}
/-- What was read before reads as before, where nothing below the old end of the heap has turned. -/
theorem trodAll_stays (hl : laidOutB P = true) {W W' : World} (hb : Below W.heap.size W W') :
    ∀ (ts : List TypeId) (vs : List Value) (ds : List (DataW H)) (ps : List MemPlace), (∀ t ∈ ts, P.readableRec t = true ∧ t < P.types.size) → (∀ x ∈ ps, x.block < W.heap.size) →
      DataW.TrodAll enc P W 0 (fun _ => true) true ts vs ds ps → DataW.TrodAll enc P W' 0 (fun b => decide (b < W.heap.size)) true ts vs ds ps
  | [], vs, ds, ps, _, _, h => by
    obtain ⟨rfl, rfl, rfl⟩ := trodAll_nil h
    exact rfl
  | t :: ts, vs, ds, ps, hr, hlt, h => by
    obtain ⟨v, vs', d, ds', p, q, rfl, rfl, rfl, h0, hrest⟩ := trodAll_cons h
    obtain ⟨h1, h2⟩ := hr t (by simp)
    refine ⟨p, q, Below.trod hl h1 h2 h0 hb (fun x hx => hlt x (by simp [hx])), ?_, rfl⟩
    exact trodAll_stays hl hb ts vs' ds' q (fun t' ht' => hr t' (by simp [ht'])) (fun x hx => hlt x (by simp [hx])) hrest
theorem trodAll_len {w : World} {base : Nat} {spare : Nat → Bool} {held : Bool} : ∀ (ts : List TypeId) (vs : List Value) (ds : List (DataW H)) (ps : List MemPlace),
    DataW.TrodAll enc P w base spare held ts vs ds ps → ds.length = ts.length
  | [], vs, ds, ps, h => by obtain ⟨rfl, rfl, rfl⟩ := trodAll_nil h; rfl
  | t :: ts, vs, ds, ps, h => by
    obtain ⟨v, vs', d, ds', p, q, rfl, rfl, rfl, _, hrest⟩ := trodAll_cons h
    simp [trodAll_len ts vs' ds' q hrest]
/-- What a law's row asks behind the call: true, the arguments as they were, nothing old turned. -/
theorem law_post {f : Func} {s : ChangeSpec} {W W' : World} {args : Array Value} {ds gs : List (DataW H)} {before : List MemPlace} {T : TypeId}
    (hl : laidOutB P = true) (hr : ∀ t ∈ f.params.toList, P.readableRec t = true ∧ t < P.types.size) (hres : f.resultTypes = #[T]) (hT : P.underlying T = some .bool)
    (hvars : s.vars = []) (hspec : ∀ ds : List (DataW H), ds.length = f.params.toList.length → s.fn H ds = { results := [.lit (.bool true)], args := ds })
    (hW : DataW.Whole enc P f.params.toList s.vars false W args.toList ds gs before) (hb : Below W.heap.size W W') :
    s.post enc P f false true false false W args (.bool true) W' := by
  have hW' := hW
  have hlt : ∀ p ∈ before, p.block < W.heap.size := fun p hp => hW.lt p hp
  obtain ⟨p, q, hA, hV, rfl, hfz, hnd⟩ := hW
  rw [hvars] at hV
  obtain ⟨rfl, rfl⟩ := trodVars_none hV
  have hlen := trodAll_len _ _ _ _ hA
  have hs : s.fn H (ds ++ []) = { results := [.lit (.bool true)], args := ds } := by rw [List.append_nil]; exact hspec ds hlen
  refine ⟨ds, [], p ++ [], [], p, [], hW', ?_, ?_, ?_, ?_, fun h => by cases h⟩
  · rw [hs, hres]
    exact trodAll_mk1 (shut_bool hT true)
  · rw [hs]
    exact trodAll_stays hl hb _ _ _ _ hr (fun x hx => hlt x (by simp [hx])) hA
  · rw [hs, hvars]; exact rfl
  · exact World.keptBut_mono (fun x hx => ⟨hx, .inr (.inl (by simpa using hx))⟩) (hb.frame (· ∈ p ++ []))
theorem wf_u64 {x : Int} (h : (Lit.int .u64 x).wf = true) : 0 ≤ x ∧ x < 18446744073709551616 := by
  simp only [Lit.wf, Bool.and_eq_true, decide_eq_true_eq] at h
  have hmin : IntKind.u64.min = 0 := rfl
  have hmax : IntKind.u64.max = 18446744073709551615 := rfl
  omega
theorem part_le {d : DataW H} {l : List (DataW H)} (h : d ∈ l) : Rows.uptoBulk d ≤ Rows.uptoBulkAll l := by
  induction l with
  | nil => cases h
  | cons x r ih =>
    simp only [Rows.uptoBulkAll]
    rcases List.mem_cons.1 h with rfl | e
    · omega
    · have := ih e
      omega
theorem bulk_one (d : DataW H) : 1 ≤ Rows.uptoBulk d := by
  cases d with
  | lit l => cases l <;> simp [Rows.uptoBulk]
  | nil => simp [Rows.uptoBulk]
  | ptr d => simp [Rows.uptoBulk]
  | slice elems spare => simp [Rows.uptoBulk]
  | agg parts => simp [Rows.uptoBulk]
  | iface t d => simp [Rows.uptoBulk]
  | map entries => simp [Rows.uptoBulk]
  | held h => simp [Rows.uptoBulk]
theorem bulk_len (l : List (DataW H)) : l.length ≤ Rows.uptoBulkAll l := by
  induction l with
  | nil => simp [Rows.uptoBulkAll]
  | cons x r ih => have := bulk_one x; simp only [Rows.uptoBulkAll, List.length_cons]; omega
end

theorem csz3 : Tryz.prog.cellsOf 3 = 1 := by kernel_rfl
theorem csz9 : Tryz.prog.cellsOf 9 = 1 := by kernel_rfl
theorem csz29 : Tryz.prog.cellsOf 29 = 1 := by kernel_rfl
theorem csz31 : Tryz.prog.cellsOf 31 = 5 := by kernel_rfl
theorem csz32 : Tryz.prog.cellsOf 32 = 10 := by kernel_rfl
theorem csz28 : Tryz.prog.cellsOf 28 = 2 := by kernel_rfl
theorem csz34 : Tryz.prog.cellsOf 34 = 12 := by kernel_rfl
theorem csz44 : Tryz.prog.cellsOf 44 = 13 := by kernel_rfl
theorem csz23 : Tryz.prog.cellsOf 23 = 3 := by kernel_rfl
theorem csz24 : Tryz.prog.cellsOf 24 = 6 := by kernel_rfl
theorem csz26 : Tryz.prog.cellsOf 26 = 7 := by kernel_rfl

section
variable {H : Type} {enc : TypeId × Value → H} {W : World} {base : Nat} {sp : Nat → Bool} {held : Bool} {n : Nat} {cs : List Value} {x : DataW H × List MemPlace}
set_option maxRecDepth 100000 in
theorem open_key (h : DataW.trod enc Tryz.prog W base sp held n 31 cs = some x) : ∃ y : Ky, cs = [.int .i64 y.k, .int .i64 y.l, .int .u64 (y.hi : Int), .int .u64 (y.lo : Int), .string y.p] ∧ y.hi < M ∧ y.lo < M ∧ y.p.size ≤ Rows.uptoBulk x.1 := by
  obtain ⟨xs, m, rfl, rfl, hl, hlen, hf⟩ := DataW.trod_struct Tryz.underlying31 h
  rw [csz31] at hl
  match cs, hl, xs, hlen with
  | [c0, c1, c2, c3, c4], _, [x0, x1, x2, x3, x4], _ =>
    have h0 : DataW.trod enc Tryz.prog W base sp held m 3 [c0] = some x0 := by simpa [csz3] using hf 0 _ rfl
    have h1 : DataW.trod enc Tryz.prog W base sp held m 3 [c1] = some x1 := by simpa [csz3] using hf 1 _ rfl
    have h2 : DataW.trod enc Tryz.prog W base sp held m 29 [c2] = some x2 := by simpa [csz29] using hf 2 _ rfl
    have h3 : DataW.trod enc Tryz.prog W base sp held m 29 [c3] = some x3 := by simpa [csz29] using hf 3 _ rfl
    have h4 : DataW.trod enc Tryz.prog W base sp held m 9 [c4] = some x4 := by simpa [csz9] using hf 4 _ rfl
    obtain ⟨k, e0, _, _⟩ := DataW.trod_int Tryz.underlying3 h0
    obtain ⟨l, e1, _, _⟩ := DataW.trod_int Tryz.underlying3 h1
    obtain ⟨hi, e2, _, g2⟩ := DataW.trod_int Tryz.underlying29 h2
    obtain ⟨lo, e3, _, g3⟩ := DataW.trod_int Tryz.underlying29 h3
    obtain ⟨p, e4, g4, _⟩ := DataW.trod_string Tryz.underlying9 h4
    simp only [List.cons.injEq, and_true] at e0 e1 e2 e3 e4
    subst e0 e1 e2 e3 e4 g4
    obtain ⟨a1, a2⟩ := wf_u64 g2
    obtain ⟨b1, b2⟩ := wf_u64 g3
    obtain ⟨hi, rfl⟩ := Int.eq_ofNat_of_zero_le a1
    obtain ⟨lo, rfl⟩ := Int.eq_ofNat_of_zero_le b1
    refine ⟨⟨k, l, hi, lo, p⟩, rfl, by show hi < M; rw [M_eq]; omega, by show lo < M; rw [M_eq]; omega, ?_⟩
    have hp : p.size = p.data.toList.length := by rw [Array.length_toList]; rfl
    simp only [List.map_cons, List.map_nil, Rows.uptoBulk, Rows.uptoBulkAll]
    show p.size ≤ _
    omega
set_option maxRecDepth 100000 in
theorem open_px (h : DataW.trod enc Tryz.prog W base sp held n 34 cs = some x) (hb : Rows.uptoBulk x.1 ≤ 1048576) : ∃ y : Px, cs = pcells y ∧ y.ok := by
  obtain ⟨y0, y1, m, rfl, hl, t0, t1⟩ := trod_struct2 Tryz.underlying34 h
  rw [csz34] at hl
  match cs, hl with
  | [c0, c1, c2, c3, c4, c5, c6, c7, c8, c9, c10, c11], _ =>
    have h0 : DataW.trod enc Tryz.prog W base sp held m 28 [c0, c1] = some y0 := by simpa [csz28] using t0
    have h1 : DataW.trod enc Tryz.prog W base sp held m 32 [c2, c3, c4, c5, c6, c7, c8, c9, c10, c11] = some y1 := by simpa [csz32] using t1
    obtain ⟨xs, m0, _, rfl, _, hlen, hf⟩ := DataW.trod_array Tryz.underlying28 h0
    obtain ⟨zs, m1, _, rfl, _, hlen1, hf1⟩ := DataW.trod_array Tryz.underlying32 h1
    match xs, hlen, zs, hlen1 with
    | [x0, x1], _, [z0, z1], _ =>
      have a0 : DataW.trod enc Tryz.prog W base sp held m0 3 [c0] = some x0 := by simpa [csz3] using hf 0 (by omega)
      have a1 : DataW.trod enc Tryz.prog W base sp held m0 3 [c1] = some x1 := by simpa [csz3] using hf 1 (by omega)
      have b0 : DataW.trod enc Tryz.prog W base sp held m1 31 [c2, c3, c4, c5, c6] = some z0 := by simpa [csz31] using hf1 0 (by omega)
      have b1 : DataW.trod enc Tryz.prog W base sp held m1 31 [c7, c8, c9, c10, c11] = some z1 := by simpa [csz31] using hf1 1 (by omega)
      obtain ⟨n0, e0, _, _⟩ := DataW.trod_int Tryz.underlying3 a0
      obtain ⟨n1, e1, _, _⟩ := DataW.trod_int Tryz.underlying3 a1
      obtain ⟨k0, e2, p1, p2, p3⟩ := open_key b0
      obtain ⟨k1, e3, q1, q2, q3⟩ := open_key b1
      simp only [List.cons.injEq, and_true] at e0 e1 e2 e3
      obtain ⟨rfl, rfl, rfl, rfl, rfl⟩ := e2
      obtain ⟨rfl, rfl, rfl, rfl, rfl⟩ := e3
      subst e0 e1
      simp only [List.map_cons, List.map_nil, Rows.uptoBulk, Rows.uptoBulkAll] at hb
      exact ⟨⟨n0, n1, k0, k1⟩, rfl, ⟨p1, p2, by show k0.p.size < _; omega⟩, q1, q2, by show k1.p.size < _; omega⟩
set_option maxRecDepth 100000 in
theorem open_load (h : DataW.trod enc Tryz.prog W base sp held n 44 cs = some x) (hb : Rows.uptoBulk x.1 ≤ 1048576) : ∃ y : Px × Nat, cs = wcell y ∧ y.1.ok := by
  obtain ⟨y0, y1, m, rfl, hl, t0, t1⟩ := trod_struct2 Tryz.underlying44 h
  rw [csz44] at hl
  match cs, hl with
  | [c0, c1, c2, c3, c4, c5, c6, c7, c8, c9, c10, c11, c12], _ =>
    have h0 : DataW.trod enc Tryz.prog W base sp held m 34 [c0, c1, c2, c3, c4, c5, c6, c7, c8, c9, c10, c11] = some y0 := by simpa [csz34] using t0
    have h1 : DataW.trod enc Tryz.prog W base sp held m 29 [c12] = some y1 := by simpa [csz29] using t1
    simp only [Rows.uptoBulk, Rows.uptoBulkAll] at hb
    obtain ⟨p, e, hp⟩ := open_px h0 (by omega)
    obtain ⟨v, e1, _, g⟩ := DataW.trod_int Tryz.underlying29 h1
    obtain ⟨a1, _⟩ := wf_u64 g
    obtain ⟨v, rfl⟩ := Int.eq_ofNat_of_zero_le a1
    refine ⟨(p, v), ?_, hp⟩
    unfold wcell
    rw [← e]
    simp only [List.cons.injEq, and_true] at e1
    rw [e1]
    rfl
set_option maxRecDepth 100000 in
theorem open_dim (h : DataW.trod enc Tryz.prog W base sp held n 23 cs = some x) : ∃ d : Dm, cs = [.int .i64 d.k, .int .i64 d.s, .int .i64 d.t] := by
  obtain ⟨y0, y1, y2, m, rfl, hl, t0, t1, t2⟩ := trod_struct3 Tryz.underlying23 h
  rw [csz23] at hl
  match cs, hl with
  | [c0, c1, c2], _ =>
    have h0 : DataW.trod enc Tryz.prog W base sp held m 3 [c0] = some y0 := by simpa [csz3] using t0
    have h1 : DataW.trod enc Tryz.prog W base sp held m 3 [c1] = some y1 := by simpa [csz3] using t1
    have h2 : DataW.trod enc Tryz.prog W base sp held m 3 [c2] = some y2 := by simpa [csz3] using t2
    obtain ⟨k, e0, _, _⟩ := DataW.trod_int Tryz.underlying3 h0
    obtain ⟨l, e1, _, _⟩ := DataW.trod_int Tryz.underlying3 h1
    obtain ⟨t, e2, _, _⟩ := DataW.trod_int Tryz.underlying3 h2
    simp only [List.cons.injEq, and_true] at e0 e1 e2
    exact ⟨⟨k, l, t⟩, by rw [e0, e1, e2]⟩
set_option maxRecDepth 100000 in
theorem open_space (h : DataW.trod enc Tryz.prog W base sp held n 26 cs = some x) : ∃ s : Sp, cs = [.int .i64 s.n, .int .i64 s.d0.k, .int .i64 s.d0.s, .int .i64 s.d0.t, .int .i64 s.d1.k, .int .i64 s.d1.s, .int .i64 s.d1.t] := by
  obtain ⟨y0, y1, m, rfl, hl, t0, t1⟩ := trod_struct2 Tryz.underlying26 h
  rw [csz26] at hl
  match cs, hl with
  | [c0, c1, c2, c3, c4, c5, c6], _ =>
    have h0 : DataW.trod enc Tryz.prog W base sp held m 3 [c0] = some y0 := by simpa [csz3] using t0
    have h1 : DataW.trod enc Tryz.prog W base sp held m 24 [c1, c2, c3, c4, c5, c6] = some y1 := by simpa [csz24] using t1
    obtain ⟨zs, m1, _, rfl, _, hlen1, hf1⟩ := DataW.trod_array Tryz.underlying24 h1
    match zs, hlen1 with
    | [z0, z1], _ =>
      have b0 : DataW.trod enc Tryz.prog W base sp held m1 23 [c1, c2, c3] = some z0 := by simpa [csz23] using hf1 0 (by omega)
      have b1 : DataW.trod enc Tryz.prog W base sp held m1 23 [c4, c5, c6] = some z1 := by simpa [csz23] using hf1 1 (by omega)
      obtain ⟨k, e0, _, _⟩ := DataW.trod_int Tryz.underlying3 h0
      obtain ⟨d0, e1⟩ := open_dim b0
      obtain ⟨d1, e2⟩ := open_dim b1
      simp only [List.cons.injEq, and_true] at e0 e1 e2
      obtain ⟨e3, e4, e5⟩ := e1
      obtain ⟨e6, e7, e8⟩ := e2
      exact ⟨⟨k, d0, d1⟩, by rw [e0, e3, e4, e5, e6, e7, e8]⟩
theorem spot_none {W : World} {a : Addr} {v : Value} (h : W.cell? (a.add 0) = some v) (hn : ∀ ws, v ≠ .agg ws) : a.spot = none := by
  cases hsp : a.spot with
  | none => rfl
  | some q =>
    have e : a.add 0 = a := rfl
    rw [e] at h
    unfold World.cell? at h
    rw [hsp] at h
    simp at h
    split at h <;> simp_all
theorem add_plain (b off i : Nat) : (⟨b, off, none⟩ : Addr).add i = ⟨b, off + i, none⟩ := by unfold Addr.add; split <;> simp_all
theorem list_of {α : Type} {P : Nat → α → Prop} : ∀ n, (∀ i, i < n → ∃ y, P i y) → ∃ l : List α, l.length = n ∧ ∀ i (h : i < l.length), P i l[i]
  | 0, _ => ⟨[], rfl, fun i h => absurd h (Nat.not_lt_zero _)⟩
  | n + 1, h => by
    obtain ⟨l, hl, hP⟩ := list_of n fun i hi => h i (by omega)
    obtain ⟨y, hy⟩ := h n (by omega)
    refine ⟨l ++ [y], by simp [hl], fun i hi => ?_⟩
    by_cases e : i < l.length
    · rw [List.getElem_append_left e]
      exact hP i e
    · have e2 : i = l.length := by
        rw [List.length_append, List.length_singleton] at hi
        omega
      subst e2
      rw [List.getElem_append_right (Nat.le_refl _)]
      simp only [Nat.sub_self, List.getElem_cons_zero]
      rw [hl]
      exact hy
set_option maxRecDepth 100000 in
theorem open_row27 {v : Value} {d : DataW H} {p : List MemPlace} (hval : Value.okWide Tryz.prog W .any base 27 v) (h : DataW.Trod enc Tryz.prog W 0 (fun _ => true) true 27 v d p) (hb : Rows.uptoBulk d ≤ 1048576) : ∃ (a : Option Addr) (cap : Nat) (ws : List (Px × Nat)), v = .slice a ws.length cap ∧ RowW W a ws ∧ ws.length ≤ 1048576 ∧ ws.length ≤ cap := by
  obtain ⟨a0, len0, cap0, rfl⟩ := okWide_slice Tryz.underlying27 hval
  obtain ⟨fuel, hf⟩ := h
  rcases open_slice Tryz.underlying27 hf with ⟨hcs, hx⟩ | ⟨a, len, cap, m, n, D, Pl, hcs, _, hl, hm, hz, hx, hcell⟩
  · simp [Value.cells] at hcs
    obtain ⟨rfl, rfl, rfl⟩ := hcs
    exact ⟨none, 0, [], rfl, fun j hj => absurd hj (Nat.not_lt_zero _), Nat.zero_le _, Nat.le_refl _⟩
  · simp only [Value.cells, List.cons.injEq, Value.slice.injEq, and_true] at hcs
    obtain ⟨rfl, rfl, rfl⟩ := hcs
    simp only [Prod.mk.injEq] at hx
    obtain ⟨rfl, _⟩ := hx
    simp only [Rows.uptoBulk] at hb
    have hlm : len0 ≤ m := by rw [hz]; split <;> omega
    have hL : len0 ≤ 1048576 := by
      have := bulk_len ((List.range len0).map D)
      simp only [List.length_map, List.length_range] at this
      omega
    have hbulk : ∀ i, i < len0 → Rows.uptoBulk (D i) ≤ 1048576 := fun i hi => by
      have := part_le (H := H) (d := D i) (l := (List.range len0).map D) (List.mem_map_of_mem (List.mem_range.2 hi))
      omega
    have hsp : 0 < len0 → a.spot = none := fun h0 => by
      obtain ⟨cs0, g1, g2⟩ := hcell 0 (by omega)
      rw [csz44] at g1
      obtain ⟨_, g3, g4⟩ := World.cells?_some g1
      obtain ⟨y0, rfl, _⟩ := open_load g2 (hbulk 0 h0)
      exact spot_none (v := .int .i64 y0.1.a0) (g4 0 (by omega)) (by simp)
    obtain ⟨b, off, spt⟩ := a
    have hall : ∀ i, i < len0 → ∃ y : Px × Nat, y.1.ok ∧ ∃ g f, some (⟨b, off, spt⟩ : Addr) = some ⟨g, f, none⟩ ∧ g < W.heap.size ∧ ∀ k v, (wcell y)[k]? = some v → W.cell? ⟨g, f + i * 13 + k, none⟩ = some v := fun i hi => by
      have hs := hsp (by omega)
      dsimp only at hs
      subst hs
      obtain ⟨cs', h1, h2⟩ := hcell i (by omega)
      rw [csz44] at h1
      have hbl := World.cells?_block h1 (by omega)
      obtain ⟨_, h3, h4⟩ := World.cells?_some h1
      obtain ⟨y, rfl, hy⟩ := open_load h2 (hbulk i hi)
      refine ⟨y, hy, b, off, rfl, ?_, fun k v hk => ?_⟩
      · rw [add_plain] at hbl
        exact hbl
      · have hk2 : k < 13 := by
          rw [← h3]
          exact (List.getElem?_eq_some_iff.1 hk).1
        have h5 := h4 k hk2
        rw [add_plain, add_plain, hk] at h5
        exact h5
    obtain ⟨ws, hw, hws⟩ := list_of len0 hall
    subst hw
    exact ⟨some ⟨b, off, spt⟩, cap0, ws, rfl, hws, hL, hl⟩
end

theorem Tryz.own : ownKnob Tryz.prog.godebug = none := by kernel_rfl
theorem Tryz.laidOut : laidOutB Tryz.prog = true := by kernel_rfl
set_option maxRecDepth 100000 in
/-- What the walk gives, for every argument. -/
theorem three_any (H : Type) (enc : TypeId × Value → H) (W : World) (base : Nat) (args : Array Value) (ds gs : List (DataW H)) (before : List MemPlace)
    (hval : ∀ (j : Nat) t v, Tryz.f3.params[j]? = some t → args[j]? = some v → Value.okWide Tryz.prog W .any base t v)
    (hW : DataW.Whole enc Tryz.prog Tryz.f3.params.toList Rows.topThreeSpec.vars false W args.toList ds gs before) (hk : Rows.uptoSmall H (ds ++ gs) = true) :
    Calls Tryz.prog 3 args W fun e W' => ∃ v, e = .returned v ∧ Rows.topThreeSpec.post enc Tryz.prog Tryz.f3 false true false false W args v W' := by
  have hW' := hW
  obtain ⟨p, q, hA0, hV, rfl, hfz, hnd⟩ := hW
  have hA : DataW.TrodAll enc Tryz.prog W 0 (fun _ => true) true Tryz.f3.params.toList args.toList ds p := hA0
  rw [Tryz.params3] at hA hval
  obtain ⟨v0, vs0, d0, ds0, p0, q0, hargs, rfl, rfl, h0, r0⟩ := trodAll_cons hA
  obtain ⟨v1, vs1, d1, ds1, p1, q1, rfl, rfl, rfl, h1, r1⟩ := trodAll_cons r0
  obtain ⟨v2, vs2, d2, ds2, p2, q2, rfl, rfl, rfl, h2, r2⟩ := trodAll_cons r1
  obtain ⟨v3, vs3, d3, ds3, p3, q3, rfl, rfl, rfl, h3, r3⟩ := trodAll_cons r2
  obtain ⟨v4, vs4, d4, ds4, p4, q4, rfl, rfl, rfl, h4, r4⟩ := trodAll_cons r3
  obtain ⟨rfl, rfl, rfl⟩ := trodAll_nil r4
  obtain rfl : args = #[v0, v1, v2, v3, v4] := by cases args; simp_all
  obtain ⟨rfl, rfl⟩ := trodVars_none hV
  have hb := of_decide_eq_true hk
  simp only [List.append_nil, Rows.uptoBulkAll] at hb
  obtain ⟨c0, rfl, _⟩ := okWide_struct Tryz.underlying26 (hval 0 26 v0 rfl rfl)
  obtain ⟨k, rfl, _, _, _⟩ := open_int Tryz.underlying3 (hval 1 3 v1 rfl rfl) h1
  obtain ⟨most, rfl, _, _, _⟩ := open_int Tryz.underlying3 (hval 2 3 v2 rfl rfl) h2
  obtain ⟨a, cap, ws, rfl, hws, hl, hcap⟩ := open_row27 (hval 3 27 v3 rfl rfl) h3 (by omega)
  obtain ⟨c4, rfl, _⟩ := okWide_struct Tryz.underlying34 (hval 4 34 v4 rfl rfl)
  obtain ⟨f0, h0⟩ := h0
  obtain ⟨f4, h4⟩ := h4
  obtain ⟨s, e0⟩ := open_space h0
  obtain ⟨pp, e4, hp⟩ := open_px h4 (by show Rows.uptoBulk d4 ≤ _; omega)
  have e0 : c0 = #[.int .i64 s.n, .int .i64 s.d0.k, .int .i64 s.d0.s, .int .i64 s.d0.t, .int .i64 s.d1.k, .int .i64 s.d1.s, .int .i64 s.d1.t] := Array.ext' (by simpa [Value.cells] using e0)
  have e4 : c4 = (pcells pp).toArray := Array.ext' (by simpa [Value.cells] using e4)
  subst e0 e4
  refine (law_walk W s k most a cap ws pp hp hws (by omega) hcap).mono ?_
  rintro e W' ⟨rfl, hbl⟩
  exact ⟨_, rfl, law_post (T := 4) Tryz.laidOut (of_decide_eq_true (by kernel_rfl)) rfl Tryz.underlying4 rfl (fun ds h => by match ds, h with | [_, _, _, _, _], _ => rfl) hW' hbl⟩

/-- The witness's world: the two variables hold what their texts lay. -/
noncomputable def laidWorld (os : Os) : World :=
  let w0 := World.holding Tryz.prog os ⟨#[], #[], []⟩
  let put (h : Array Obj) (g : Nat) (cs : Array Value) : Array Obj := h.modify g fun
    | .cells _ t frozen => .cells cs t frozen
    | o => o
  let h1 := put w0.heap 1 (Go.Pinned.utf8FirstZ.map fun z : Nat => Value.int .u8 (z : Int)).toArray
  let h2 := put h1 2 #[.int .u8 128, .int .u8 191, .int .u8 160, .int .u8 191, .int .u8 128, .int .u8 159, .int .u8 144, .int .u8 191, .int .u8 128, .int .u8 143, .int .u8 0, .int .u8 0, .int .u8 0, .int .u8 0, .int .u8 0, .int .u8 0, .int .u8 0, .int .u8 0, .int .u8 0, .int .u8 0, .int .u8 0, .int .u8 0, .int .u8 0, .int .u8 0, .int .u8 0, .int .u8 0, .int .u8 0, .int .u8 0, .int .u8 0, .int .u8 0, .int .u8 0, .int .u8 0]
  { w0 with heap := h2 }
noncomputable def laidArgs : Array Value := #[.agg #[.int .i64 0, .int .i64 0, .int .i64 0, .int .i64 0, .int .i64 0, .int .i64 0, .int .i64 0], .int .i64 0, .int .i64 0, .slice none 0 0, .agg #[.int .i64 0, .int .i64 0, .int .i64 0, .int .i64 0, .int .u64 0, .int .u64 0, .string ⟨#[]⟩, .int .i64 0, .int .i64 0, .int .u64 0, .int .u64 0, .string ⟨#[]⟩]]
theorem laid_met (os : Os) (args : Array Value) : laidMet Tryz.prog Rows.topThreeUptoRow.laid ((laidWorld os).forCall (fun _ _ => 0) ⟨#[], args, []⟩).memory :=
  (LaidIn.of_run (l := [("unicode/utf8.acceptRanges", Rows.laid_unicode_utf8_acceptRanges), ("unicode/utf8.first", Rows.laid_unicode_utf8_first)]) [2, 1] 8 (by kernel_rfl) (by kernel_rfl) (by kernel_rfl) (by kernel_rfl)).met
theorem witness_row (os : Os) {H : Type} (enc : TypeId × Value → H) :
    (Rows.OpenSpec.upto Rows.topThreeSpec).preRow enc Tryz.prog Tryz.f3 Rows.topThreeUptoRow.domain false Rows.topThreeUptoRow.laid ((laidWorld os).forCall (fun _ _ => 0) ⟨#[], laidArgs, []⟩).memory laidArgs := by
  have hw : (DataW.whole enc Tryz.prog ((laidWorld os).forCall (fun _ _ => 0) ⟨#[], laidArgs, []⟩).memory Tryz.f3.params.toList (Rows.OpenSpec.upto Rows.topThreeSpec).vars false laidArgs.toList 8).map (fun x => (x.1, x.2.1)) =
      some ([.agg [.lit (.int .i64 0), .agg [.agg [.lit (.int .i64 0), .lit (.int .i64 0), .lit (.int .i64 0)], .agg [.lit (.int .i64 0), .lit (.int .i64 0), .lit (.int .i64 0)]]], .lit (.int .i64 0), .lit (.int .i64 0), .nil, .agg [.agg [.lit (.int .i64 0), .lit (.int .i64 0)], .agg [.agg [.lit (.int .i64 0), .lit (.int .i64 0), .lit (.int .u64 0), .lit (.int .u64 0), .lit (.string [])], .agg [.lit (.int .i64 0), .lit (.int .i64 0), .lit (.int .u64 0), .lit (.int .u64 0), .lit (.string [])]]]], []) := by kernel_rfl
  obtain ⟨⟨x1, x2, x3⟩, hx, hx1⟩ := Option.map_eq_some_iff.1 hw
  simp only [Prod.mk.injEq] at hx1
  obtain ⟨rfl, rfl⟩ := hx1
  exact OpenSpec.preRow_of_cond 8 hx (by kernel_rfl) (fun k hk => by cases hk; kernel_rfl) (by kernel_rfl) (laid_met os _)
set_option maxRecDepth 100000 in
theorem topThree_lifted (os : Os) (started : os.Started) (H : Type) (enc : TypeId × Value → H) (F : Stop.Interp) :
    ReturnsInHanded {} Tryz.checked os 3 .any ((Rows.OpenSpec.upto Rows.topThreeSpec).preRow enc Tryz.prog Tryz.f3 Rows.topThreeUptoRow.domain false Rows.topThreeUptoRow.laid) (((Rows.OpenSpec.upto Rows.topThreeSpec).at F).post enc Tryz.prog Tryz.f3 false true false false) := by
  refine returnsInHanded_of_row (C := Tryz.checked) (s := Rows.OpenSpec.upto Rows.topThreeSpec) Tryz.own started (by kernel_rfl) Tryz.func3
    (witness_row_at (enc := enc) (C := Tryz.checked) false (laidWorld os) laidArgs rfl (by kernel_rfl) (by kernel_rfl) (by kernel_rfl) (witness_row os enc)) ?_
  intro W base args ds gs before hval hW _ hcond _ _ _ _
  exact three_any H enc W base args ds gs before hval hW (hcond _ rfl)
theorem topThree_said : Rows.TopThreeUptoSaid :=
  OpenClaim.holds_of_cond 3 Tryz.f3 rfl rfl rfl rfl rfl rfl rfl ⟨rfl, rfl, rfl, rfl, rfl⟩ rfl rfl rfl rfl rfl (by kernel_rfl) Tryz.func3 (by kernel_rfl)
    (of_decide_eq_true (by kernel_rfl)) (by unfold Func.isWrapper; first | (rw [if_pos (by decide +kernel)]; kernel_rfl) | (rw [if_neg (by decide +kernel)]; exact ⟨rfl, rfl⟩))
    (fun os started H enc _ F => by rw [OpenClaim.pre_eq_preRow]; exact topThree_lifted os started H enc F)
set_option maxRecDepth 100000 in
/-- No parameter wants a stand-in. -/
theorem three_plain (f : FuncId) (fn : Func) (hf : Tryz.pinned.checked.prog.funcNamed "cribble/cribbletop.TopThree" = some f) (hfn : Tryz.pinned.checked.prog.funcs[f]? = some fn) :
    false = Tryz.pinned.checked.prog.looks [] ∧ ∀ (j : Nat) t, fn.params[j]? = some t → Tryz.pinned.checked.prog.wantsStandIn t = false := by
  obtain rfl : f = 3 := Option.some.inj ((show Tryz.prog.funcNamed "cribble/cribbletop.TopThree" = some 3 by kernel_rfl).symm.trans hf) |>.symm
  obtain rfl : fn = Tryz.f3 := (Option.some.inj (Tryz.func3.symm.trans hfn)).symm
  refine ⟨by kernel_rfl, fun j t ht => ?_⟩
  rw [Tryz.params3] at ht
  have hm : t = 26 ∨ t = 3 ∨ t = 3 ∨ t = 27 ∨ t = 34 := by simpa using Array.mem_of_getElem? ht
  rcases hm with rfl | rfl | rfl | rfl | rfl
  · exact (show Tryz.prog.wantsStandIn 26 = false by kernel_rfl)
  · exact (show Tryz.prog.wantsStandIn 3 = false by kernel_rfl)
  · exact (show Tryz.prog.wantsStandIn 3 = false by kernel_rfl)
  · exact (show Tryz.prog.wantsStandIn 27 = false by kernel_rfl)
  · exact (show Tryz.prog.wantsStandIn 34 = false by kernel_rfl)
/-- The tied card. -/
theorem topThree_holds : Rows.TopThreeUptoCardSaid :=
  Claim7.holds_tied_plain_at .later [] _ _ _ _ topThree_said (fun _ h => by cases h) (by kernel_rfl) (fun _ h => by cases h) topThreeUpto_row_tie rfl ⟨rfl, rfl⟩ (by kernel_rfl) rfl three_plain (by kernel_rfl)

end Go.Proofs.YtcbahkfbdlhabaaGreatDoor
