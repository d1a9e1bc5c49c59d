/- A part of the proof that the law TopThree returns true for all arguments of bulk at most 1048576 (no other condition). Here: The shelf's layings that the texts R, V and DS use, in plain words (written by the kit's lay-plain.mjs). Spaces and prefixes: Sound, Right, Top, Height, orNone, ends. Prefixes and grids: Top, Height, orNone, ends, Count, Tall, Up. -/
import Derived.Ground.NamesProg
import Derived.Shelf.Strings.SplitCore
import Derived.Lib.SplitLaws
import Derived.Shelf.Strings.OnBuilder
import Derived.Shelf.SlGeneric
import Derived.Ground.SlsfProg
import Derived.Shelf.SlSortCmp.WholeK
import Derived.Test.YtcbahkfbdlhabaaGreatDoorProg
import Derived.Test.YtcbahkfbdlhabaaGreatDoorK02
namespace Go.Proofs.YtcbahkfbdlhabaaGreatDoor
set_option linter.unusedVariables false
set_option linter.unusedSimpArgs false
open Go.Shelf
def Tryz.laysGenSplit_ren : Go.Shelf.Ren := ⟨fun | 221 => 75 | 268 => 78 | 138 => 79 | 143 => 80 | 195 => 81 | 197 => 82 | 218 => 83 | 219 => 84 | 260 => 85 | 217 => 86 | 225 => 87 | 224 => 88 | 267 => 89 | 266 => 90 | 314 => 91 | n => n, fun | 9 => 9 | 3 => 3 | 31 => 118 | 4 => 4 | 0 => 0 | 105 => 138 | 21 => 21 | 5 => 5 | 46 => 84 | 119 => 141 | 139 => 144 | 138 => 143 | 146 => 146 | 51 => 145 | n => n, fun | 1 => 0 | 3 => 1 | 4 => 2 | n => n⟩
theorem Tryz.laysGenSplit : Go.Proofs.Lays.n221 Tryz.prog Tryz.laysGenSplit_ren := {
  mixed := by kernel_rfl
  f138 := Tryz.func79.trans (congrArg some (by kernel_rfl))
  f143 := Tryz.func80.trans (congrArg some (by kernel_rfl))
  f195 := Tryz.func81.trans (congrArg some (by kernel_rfl))
  f197 := Tryz.func82.trans (congrArg some (by kernel_rfl))
  f217 := Tryz.func86.trans (congrArg some (by kernel_rfl))
  f218 := Tryz.func83.trans (congrArg some (by kernel_rfl))
  f219 := Tryz.func84.trans (congrArg some (by kernel_rfl))
  f221 := Tryz.func75.trans (congrArg some (by kernel_rfl))
  f224 := Tryz.func88.trans (congrArg some (by kernel_rfl))
  f225 := Tryz.func87.trans (congrArg some (by kernel_rfl))
  f260 := Tryz.func85.trans (congrArg some (by kernel_rfl))
  f266 := Tryz.func90.trans (congrArg some (by kernel_rfl))
  f267 := Tryz.func89.trans (congrArg some (by kernel_rfl))
  f268 := Tryz.func78.trans (congrArg some (by kernel_rfl))
  f314 := Tryz.func91.trans (congrArg some (by kernel_rfl))
  t0 := Tryz.underlying0
  a0 := Tryz.isAgg0
  z0 := Tryz.sizeOf0
  v0 := Tryz.zeroValue0
  t3 := Tryz.underlying3
  a3 := Tryz.isAgg3
  z3 := Tryz.sizeOf3
  v3 := Tryz.zeroValue3
  t4 := Tryz.underlying4
  a4 := Tryz.isAgg4
  z4 := Tryz.sizeOf4
  v4 := Tryz.zeroValue4
  t5 := Tryz.underlying5
  a5 := Tryz.isAgg5
  z5 := Tryz.sizeOf5
  v5 := Tryz.zeroValue5
  t9 := Tryz.underlying9
  a9 := Tryz.isAgg9
  z9 := Tryz.sizeOf9
  v9 := Tryz.zeroValue9
  t21 := Tryz.underlying21
  a21 := Tryz.isAgg21
  z21 := Tryz.sizeOf21
  v21 := Tryz.zeroValue21
  t31 := Tryz.underlying118
  a31 := Tryz.isAgg118
  z31 := Tryz.sizeOf118
  v31 := Tryz.zeroValue118
  t46 := Tryz.underlying84
  a46 := Tryz.isAgg84
  z46 := Tryz.sizeOf84
  v46 := Tryz.zeroValue84
  t51 := Tryz.underlying145
  a51 := Tryz.isAgg145
  z51 := Tryz.sizeOf145
  v51 := Tryz.zeroValue145
  t105 := Tryz.underlying138
  a105 := Tryz.isAgg138
  z105 := Tryz.sizeOf138
  v105 := Tryz.zeroValue138
  t119 := Tryz.underlying141
  a119 := Tryz.isAgg141
  z119 := Tryz.sizeOf141
  t138 := Tryz.underlying143
  a138 := Tryz.isAgg143
  z138 := Tryz.sizeOf143
  v138 := Tryz.zeroValue143
  t139 := Tryz.underlying144
  a139 := Tryz.isAgg144
  z139 := Tryz.sizeOf144
  v139 := Tryz.zeroValue144
  t146 := Tryz.underlying146
  a146 := Tryz.isAgg146
  z146 := Tryz.sizeOf146
  v146 := Tryz.zeroValue146
  g1 := by kernel_rfl
  g3 := by kernel_rfl
  g4 := by kernel_rfl }
def Tryz.laysJoin_ren : Go.Shelf.Ren := ⟨fun | 156 => 183 | 165 => 184 | 166 => 185 | 169 => 186 | 240 => 187 | 241 => 188 | 276 => 189 | 277 => 190 | n => n, fun | 31 => 118 | 9 => 9 | 3 => 3 | 4 => 4 | 0 => 0 | 20 => 20 | 72 => 236 | 76 => 240 | 70 => 234 | 37 => 134 | 75 => 239 | 127 => 158 | 164 => 242 | 5 => 5 | 80 => 148 | n => n, fun | n => n⟩
theorem Tryz.laysJoin : Go.Proofs.Lays.n156 Tryz.prog Tryz.laysJoin_ren := {
  mixed := by kernel_rfl
  f156 := Tryz.func183.trans (congrArg some (by kernel_rfl))
  f165 := Tryz.func184.trans (congrArg some (by kernel_rfl))
  f166 := Tryz.func185.trans (congrArg some (by kernel_rfl))
  f169 := Tryz.func186.trans (congrArg some (by kernel_rfl))
  f240 := Tryz.func187.trans (congrArg some (by kernel_rfl))
  f241 := Tryz.func188.trans (congrArg some (by kernel_rfl))
  f276 := Tryz.func189.trans (congrArg some (by kernel_rfl))
  f277 := Tryz.func190.trans (congrArg some (by kernel_rfl))
  t0 := Tryz.underlying0
  a0 := Tryz.isAgg0
  z0 := Tryz.sizeOf0
  v0 := Tryz.zeroValue0
  t3 := Tryz.underlying3
  a3 := Tryz.isAgg3
  z3 := Tryz.sizeOf3
  v3 := Tryz.zeroValue3
  t4 := Tryz.underlying4
  a4 := Tryz.isAgg4
  z4 := Tryz.sizeOf4
  v4 := Tryz.zeroValue4
  t9 := Tryz.underlying9
  a9 := Tryz.isAgg9
  z9 := Tryz.sizeOf9
  v9 := Tryz.zeroValue9
  t20 := Tryz.underlying20
  a20 := Tryz.isAgg20
  z20 := Tryz.sizeOf20
  v20 := Tryz.zeroValue20
  t31 := Tryz.underlying118
  a31 := Tryz.isAgg118
  z31 := Tryz.sizeOf118
  v31 := Tryz.zeroValue118
  t37 := Tryz.underlying134
  a37 := Tryz.isAgg134
  z37 := Tryz.sizeOf134
  v37 := Tryz.zeroValue134
  t70 := Tryz.underlying234
  a70 := Tryz.isAgg234
  z70 := Tryz.sizeOf234
  v70 := Tryz.zeroValue234
  t72 := Tryz.underlying236
  a72 := Tryz.isAgg236
  z72 := Tryz.sizeOf236
  v72 := Tryz.zeroValue236
  t75 := Tryz.underlying239
  a75 := Tryz.isAgg239
  z75 := Tryz.sizeOf239
  v75 := Tryz.zeroValue239
  t76 := Tryz.underlying240
  a76 := Tryz.isAgg240
  z76 := Tryz.sizeOf240
  v76 := Tryz.zeroValue240
  t127 := Tryz.underlying158
  a127 := Tryz.isAgg158
  z127 := Tryz.sizeOf158
  v127 := Tryz.zeroValue158
  t164 := Tryz.underlying242
  a164 := Tryz.isAgg242
  z164 := Tryz.sizeOf242
  v164 := Tryz.zeroValue242 }
def Tryz.laysSort_ren : Go.Shelf.Ren := ⟨fun | 6 => 132 | 15 => 139 | 14 => 138 | 28 => 157 | 29 => 158 | 20 => 149 | 21 => 150 | 22 => 151 | 23 => 152 | 24 => 153 | 25 => 154 | 26 => 155 | 27 => 156 | 46 => 170 | 47 => 171 | 48 => 172 | 49 => 173 | 50 => 174 | 57 => 180 | n => n, fun | 22 => 167 | 24 => 176 | 25 => 178 | 3 => 3 | 39 => 84 | 0 => 0 | 53 => 145 | 55 => 29 | 4 => 4 | 46 => 201 | 45 => 200 | 50 => 205 | 5 => 5 | 9 => 9 | 66 => 220 | 70 => 223 | 76 => 230 | 77 => 228 | n => n, fun | n => n⟩
theorem Tryz.laysSort : Go.Proofs.SlLaysF0.n6 Tryz.prog Tryz.laysSort_ren := {
  mixed := by kernel_rfl
  f6 := ⟨Tryz.f132.name, by decide, Tryz.func132.trans (congrArg some (by kernel_rfl))⟩
  f14 := ⟨Tryz.f138.name, by decide, Tryz.func138.trans (congrArg some (by kernel_rfl))⟩
  f15 := Tryz.func139.trans (congrArg some (by kernel_rfl))
  f20 := ⟨Tryz.f149.name, by decide, Tryz.func149.trans (congrArg some (by kernel_rfl))⟩
  f21 := ⟨Tryz.f150.name, by decide, Tryz.func150.trans (congrArg some (by kernel_rfl))⟩
  f22 := ⟨Tryz.f151.name, by decide, Tryz.func151.trans (congrArg some (by kernel_rfl))⟩
  f23 := ⟨Tryz.f152.name, by decide, Tryz.func152.trans (congrArg some (by kernel_rfl))⟩
  f24 := ⟨Tryz.f153.name, by decide, Tryz.func153.trans (congrArg some (by kernel_rfl))⟩
  f25 := ⟨Tryz.f154.name, by decide, Tryz.func154.trans (congrArg some (by kernel_rfl))⟩
  f26 := ⟨Tryz.f155.name, by decide, Tryz.func155.trans (congrArg some (by kernel_rfl))⟩
  f27 := ⟨Tryz.f156.name, by decide, Tryz.func156.trans (congrArg some (by kernel_rfl))⟩
  f28 := Tryz.func157.trans (congrArg some (by kernel_rfl))
  f29 := Tryz.func158.trans (congrArg some (by kernel_rfl))
  f46 := ⟨Tryz.f170.name, by decide, Tryz.func170.trans (congrArg some (by kernel_rfl))⟩
  f47 := Tryz.func171.trans (congrArg some (by kernel_rfl))
  f48 := Tryz.func172.trans (congrArg some (by kernel_rfl))
  f49 := ⟨Tryz.f173.name, by decide, Tryz.func173.trans (congrArg some (by kernel_rfl))⟩
  f50 := ⟨Tryz.f174.name, by decide, Tryz.func174.trans (congrArg some (by kernel_rfl))⟩
  f57 := ⟨Tryz.f180.name, by decide, Tryz.func180.trans (congrArg some (by kernel_rfl))⟩
  t0 := Tryz.underlying0
  a0 := Tryz.isAgg0
  z0 := Tryz.sizeOf0
  v0 := Tryz.zeroValue0
  t3 := Tryz.underlying3
  a3 := Tryz.isAgg3
  z3 := Tryz.sizeOf3
  v3 := Tryz.zeroValue3
  t4 := Tryz.underlying4
  a4 := Tryz.isAgg4
  z4 := Tryz.sizeOf4
  v4 := Tryz.zeroValue4
  t5 := Tryz.underlying5
  a5 := Tryz.isAgg5
  z5 := Tryz.sizeOf5
  v5 := Tryz.zeroValue5
  t9 := Tryz.underlying9
  a9 := Tryz.isAgg9
  z9 := Tryz.sizeOf9
  v9 := Tryz.zeroValue9
  t22 := Tryz.underlying167
  a22 := Tryz.isAgg167
  z22 := Tryz.sizeOf167
  v22 := Tryz.zeroValue167
  t25 := Tryz.underlying178
  a25 := Tryz.isAgg178
  z25 := Tryz.sizeOf178
  v25 := Tryz.zeroValue178
  t39 := Tryz.underlying84
  a39 := Tryz.isAgg84
  z39 := Tryz.sizeOf84
  v39 := Tryz.zeroValue84
  t45 := Tryz.underlying200
  a45 := Tryz.isAgg200
  z45 := Tryz.sizeOf200
  v45 := Tryz.zeroValue200
  t46 := Tryz.underlying201
  a46 := Tryz.isAgg201
  z46 := Tryz.sizeOf201
  v46 := Tryz.zeroValue201
  t50 := Tryz.underlying205
  a50 := Tryz.isAgg205
  z50 := Tryz.sizeOf205
  v50 := Tryz.zeroValue205
  t53 := Tryz.underlying145
  a53 := Tryz.isAgg145
  z53 := Tryz.sizeOf145
  v53 := Tryz.zeroValue145
  t55 := Tryz.underlying29
  a55 := Tryz.isAgg29
  z55 := Tryz.sizeOf29
  v55 := Tryz.zeroValue29
  t66 := Tryz.underlying220
  a66 := Tryz.isAgg220
  z66 := Tryz.sizeOf220
  v66 := Tryz.zeroValue220
  t70 := Tryz.underlying223
  a70 := Tryz.isAgg223
  z70 := Tryz.sizeOf223
  v70 := Tryz.zeroValue223
  t76 := Tryz.underlying230
  a76 := Tryz.isAgg230
  z76 := Tryz.sizeOf230
  v76 := Tryz.zeroValue230
  t77 := Tryz.underlying228
  a77 := Tryz.isAgg228
  z77 := Tryz.sizeOf228
  v77 := Tryz.zeroValue228 }
end Go.Proofs.YtcbahkfbdlhabaaGreatDoor
namespace Go.Proofs.YtcbahkfbdlhabaaGreatDoor
set_option linter.unusedVariables false
set_option linter.unusedSimpArgs false
open Go.RowKit
attribute [local go_sem] index24_0 index24_1 field34_0 field34_1
attribute [local irreducible] wpList Code.wp wpB

/-- A space. -/
structure Sp where
  n : Int
  d0 : Dm
  d1 : Dm
abbrev sv (n k0 s0 t0 k1 s1 t1 : Int) : Value := .agg #[.int .i64 n, .int .i64 k0, .int .i64 s0, .int .i64 t0, .int .i64 k1, .int .i64 s1, .int .i64 t1]
abbrev Sp.v (s : Sp) : Value := sv s.n s.d0.k s.d0.s s.d0.t s.d1.k s.d1.s s.d1.t
def Dm.right (d : Dm) : Bool := dimR d.k d.s d.t
def Dm.depth (d : Dm) : Int := depthI d.k d.s d.t
def soundB (s : Sp) : Bool := if s.n = 1 then s.d0.right && decide (s.d1.k = 0 ∧ s.d1.s = 0 ∧ s.d1.t = 0) else if s.n = 2 then s.d0.right && s.d1.right else false
/-- A prefix. -/
structure Px where
  a0 : Int
  a1 : Int
  k0 : Ky
  k1 : Ky
abbrev pv (a0 a1 u0 l0 h0 o0 : Int) (p0 : ByteArray) (u1 l1 h1 o1 : Int) (p1 : ByteArray) : Value := .agg #[.int .i64 a0, .int .i64 a1, .int .i64 u0, .int .i64 l0, .int .u64 h0, .int .u64 o0, .string p0, .int .i64 u1, .int .i64 l1, .int .u64 h1, .int .u64 o1, .string p1]
abbrev Px.v (x : Px) : Value := pv x.a0 x.a1 x.k0.k x.k0.l (x.k0.hi : Int) (x.k0.lo : Int) x.k0.p x.k1.k x.k1.l (x.k1.hi : Int) (x.k1.lo : Int) x.k1.p
def Px.ok (x : Px) : Prop := x.k0.ok ∧ x.k1.ok
def px0 : Px := ⟨0, 0, ky0, ky0⟩
theorem ky0_ok : ky0.ok := ⟨by show 0 < M; rw [M_eq]; omega, by show 0 < M; rw [M_eq]; omega, by show (0 : Nat) < 4294967281; omega⟩
theorem px0_ok : px0.ok := ⟨ky0_ok, ky0_ok⟩
def rightB (ok : ByteArray → Bool) (len : ByteArray → Int) (s : Sp) (p : Px) : Bool :=
  soundB s && (onB ok len s.d0 p.a0 p.k0 && if s.n = 1 then (p.a1 == 0) && decide (p.k1.k = 0 ∧ p.k1.l = 0 ∧ p.k1.hi = 0 ∧ p.k1.lo = 0 ∧ p.k1.p.toList = []) else onB ok len s.d1 p.a1 p.k1)
theorem run_eq_arr2 {d t e n : Nat} {xs ys : Array Value} {a0 a1 b0 b1 : Value} {r0 r1 : Bool} (ht : Tryz.prog.underlying t = some (.array 2 e)) (hz : ∀ w, (Go.sizeOf e).run Tryz.prog w = .ok n w) (w : World)
    (x0 : (part e xs 0).run Tryz.prog w = .ok a0 w) (x1 : (part e xs n).run Tryz.prog w = .ok a1 w) (y0 : (part e ys 0).run Tryz.prog w = .ok b0 w) (y1 : (part e ys n).run Tryz.prog w = .ok b1 w)
    (h0 : (Op.equalIn d e a0 b0).run Tryz.prog w = .ok r0 w) (h1 : (Op.equalIn d e a1 b1).run Tryz.prog w = .ok r1 w) : (Op.equalIn (d + 1) t (.agg xs) (.agg ys)).run Tryz.prog w = .ok (r0 && r1) w := by
  simp only [Op.equalIn, Sem.run_bind, run_underlying ht, Result.andThen_ok, hz, Std.Legacy.Range.forIn_eq_forIn_range', Std.Legacy.Range.size]
  simp only [List.range', Nat.sub_zero, Nat.reduceAdd, Nat.reduceSub, Nat.reduceDiv, List.forIn_cons, List.forIn_nil, Sem.run_bind, Nat.zero_mul, Nat.one_mul, x0, x1, y0, y1, h0, h1, Result.andThen_ok]
  cases r0 <;> cases r1 <;> simp [x1, y1, h1]
set_option maxRecDepth 100000 in
theorem run_eq28 (a b a' b' : Int) (w : World) : (Op.equalIn 9999 28 (.agg #[.int .i64 a, .int .i64 b]) (.agg #[.int .i64 a', .int .i64 b'])).run Tryz.prog w = .ok (a == a' && b == b') w :=
  run_eq_arr2 (n := 1) (e := 3) (by kernel_rfl) (fun _ => by kernel_rfl) w (by kernel_rfl) (by kernel_rfl) (by kernel_rfl) (by kernel_rfl) (run_equalIn_int w 9997 3 .i64 .i64 _ _ (by kernel_rfl)) (run_equalIn_int w 9997 3 .i64 .i64 _ _ (by kernel_rfl))
set_option maxRecDepth 100000 in
theorem run_eqk (d : Nat) (k l hi lo k' l' hi' lo' : Int) (p p' : ByteArray) (w : World) : (Op.equalIn (d + 2) 31 (.agg #[.int .i64 k, .int .i64 l, .int .u64 hi, .int .u64 lo, .string p]) (.agg #[.int .i64 k', .int .i64 l', .int .u64 hi', .int .u64 lo', .string p'])).run Tryz.prog w = .ok (k == k' && (l == l' && (hi == hi' && (lo == lo' && p.toList == p'.toList)))) w := by
  rw [run_equalIn_struct _ _ _ _ _ (by kernel_rfl) (by kernel_rfl)]
  simp [go_sem]
  cases h1 : decide (k = k') <;> cases h2 : decide (l = l') <;> cases h3 : decide (hi = hi') <;> cases h4 : decide (lo = lo') <;> cases h5 : decide (p.toList = p'.toList) <;> simp at h1 h2 h3 h4 h5 <;> simp [h1, h2, h3, h4, h5]
set_option maxRecDepth 100000 in
theorem run_eq32 (k l hi lo k2 l2 hi2 lo2 k' l' hi' lo' k2' l2' hi2' lo2' : Int) (p p' p2 p2' : ByteArray) (w : World) :
    (Op.equalIn 9999 32 (.agg #[.int .i64 k, .int .i64 l, .int .u64 hi, .int .u64 lo, .string p, .int .i64 k2, .int .i64 l2, .int .u64 hi2, .int .u64 lo2, .string p2]) (.agg #[.int .i64 k', .int .i64 l', .int .u64 hi', .int .u64 lo', .string p', .int .i64 k2', .int .i64 l2', .int .u64 hi2', .int .u64 lo2', .string p2'])).run Tryz.prog w =
      .ok ((k == k' && (l == l' && (hi == hi' && (lo == lo' && p.toList == p'.toList)))) && (k2 == k2' && (l2 == l2' && (hi2 == hi2' && (lo2 == lo2' && p2.toList == p2'.toList))))) w :=
  run_eq_arr2 (n := 5) (e := 31) (by kernel_rfl) (fun _ => by kernel_rfl) w (by kernel_rfl) (by kernel_rfl) (by kernel_rfl) (by kernel_rfl) (run_eqk _ _ _ _ _ _ _ _ _ _ _ _) (run_eqk _ _ _ _ _ _ _ _ _ _ _ _)
/-- Two prefixes are the same. -/
def samePx (a b k l hi lo : Int) (p : ByteArray) (k2 l2 hi2 lo2 : Int) (p2 : ByteArray) (a' b' k' l' hi' lo' : Int) (p' : ByteArray) (k2' l2' hi2' lo2' : Int) (p2' : ByteArray) : Bool :=
  (a == a' && b == b') && ((k == k' && (l == l' && (hi == hi' && (lo == lo' && p.toList == p'.toList)))) && (k2 == k2' && (l2 == l2' && (hi2 == hi2' && (lo2 == lo2' && p2.toList == p2'.toList)))))
set_option maxRecDepth 100000 in
theorem run_eql34 {ρ : Operand → Value} {o : Oper} {x y : Operand} {ty : TypeId} {a b k l hi lo k2 l2 hi2 lo2 a' b' k' l' hi' lo' k2' l2' hi2' lo2' : Int} {p p' p2 p2' : ByteArray} (hop : o.op = .binOp .eql 34 x y ty) (hx : ρ x = pv a b k l hi lo p k2 l2 hi2 lo2 p2) (hy : ρ y = pv a' b' k' l' hi' lo' p' k2' l2' hi2' lo2' p2') (w : World) :
    (execOp ρ o).run Tryz.prog w = .ok (.value (.bool (samePx a b k l hi lo p k2 l2 hi2 lo2 p2 a' b' k' l' hi' lo' p' k2' l2' hi2' lo2' p2'))) w := by
  have e28 := run_eq28 a b a' b' w
  have e32 := run_eq32 k l hi lo k2 l2 hi2 lo2 k' l' hi' lo' k2' l2' hi2' lo2' p p' p2 p2' w
  unfold samePx
  generalize (a == a' && b == b') = r at e28 ⊢
  generalize ((k == k' && (l == l' && (hi == hi' && (lo == lo' && p.toList == p'.toList)))) && (k2 == k2' && (l2 == l2' && (hi2 == hi2' && (lo2 == lo2' && p2.toList == p2'.toList))))) = s at e32 ⊢
  unfold execOp
  simp only [hop, hx, hy]
  simp [go_sem, e28, e32]
  cases r <;> cases s <;> simp
set_option maxRecDepth 100000 in
theorem run_neq34 {ρ : Operand → Value} {o : Oper} {x y : Operand} {ty : TypeId} {a b k l hi lo k2 l2 hi2 lo2 a' b' k' l' hi' lo' k2' l2' hi2' lo2' : Int} {p p' p2 p2' : ByteArray} (hop : o.op = .binOp .neq 34 x y ty) (hx : ρ x = pv a b k l hi lo p k2 l2 hi2 lo2 p2) (hy : ρ y = pv a' b' k' l' hi' lo' p' k2' l2' hi2' lo2' p2') (w : World) :
    (execOp ρ o).run Tryz.prog w = .ok (.value (.bool (!samePx a b k l hi lo p k2 l2 hi2 lo2 p2 a' b' k' l' hi' lo' p' k2' l2' hi2' lo2' p2'))) w := by
  have e28 := run_eq28 a b a' b' w
  have e32 := run_eq32 k l hi lo k2 l2 hi2 lo2 k' l' hi' lo' k2' l2' hi2' lo2' p p' p2 p2' w
  unfold samePx
  generalize (a == a' && b == b') = r at e28 ⊢
  generalize ((k == k' && (l == l' && (hi == hi' && (lo == lo' && p.toList == p'.toList)))) && (k2 == k2' && (l2 == l2' && (hi2 == hi2' && (lo2 == lo2' && p2.toList == p2'.toList))))) = s at e32 ⊢
  unfold execOp
  simp only [hop, hx, hy]
  simp [go_sem, e28, e32]
  cases r <;> cases s <;> simp
section eq34
variable {ops : Array Oper} {rest : List Oper} {o : Oper} {act : Act} {W : World} {x y : Operand} {ty : TypeId} {a b k l hi lo k2 l2 hi2 lo2 a' b' k' l' hi' lo' k2' l2' hi2' lo2' : Int} {p p' p2 p2' : ByteArray}
theorem wpl_eq34 {Q : Exit → Act → World → Prop} (hop : o.op = .binOp .eql 34 x y ty) (hw : Region.wanted o (yielded ops act.tmps) = true) (hx : act.eval x = pv a b k l hi lo p k2 l2 hi2 lo2 p2) (hy : act.eval y = pv a' b' k' l' hi' lo' p' k2' l2' hi2' lo2' p2')
    (ht : samePx a b k l hi lo p k2 l2 hi2 lo2 p2 a' b' k' l' hi' lo' p' k2' l2' hi2' lo2' p2' = true → wpList Tryz.prog ops Q rest (act.put o.dst (.bool true)) W) (hf : samePx a b k l hi lo p k2 l2 hi2 lo2 p2 a' b' k' l' hi' lo' p' k2' l2' hi2' lo2' p2' = false → wpList Tryz.prog ops Q rest (act.put o.dst (.bool false)) W) : wpList Tryz.prog ops Q (o :: rest) act W :=
  wpl_cmp hop rfl hw (run_eql34 hop hx hy W) ht hf
theorem wpl_neq34 {Q : Exit → Act → World → Prop} (hop : o.op = .binOp .neq 34 x y ty) (hw : Region.wanted o (yielded ops act.tmps) = true) (hx : act.eval x = pv a b k l hi lo p k2 l2 hi2 lo2 p2) (hy : act.eval y = pv a' b' k' l' hi' lo' p' k2' l2' hi2' lo2' p2')
    (hf : samePx a b k l hi lo p k2 l2 hi2 lo2 p2 a' b' k' l' hi' lo' p' k2' l2' hi2' lo2' p2' = true → wpList Tryz.prog ops Q rest (act.put o.dst (.bool false)) W) (ht : samePx a b k l hi lo p k2 l2 hi2 lo2 p2 a' b' k' l' hi' lo' p' k2' l2' hi2' lo2' p2' = false → wpList Tryz.prog ops Q rest (act.put o.dst (.bool true)) W) : wpList Tryz.prog ops Q (o :: rest) act W :=
  wpl_cmp hop rfl hw (run_neq34 hop hx hy W) (fun h => ht (by simpa using h)) (fun h => hf (by simpa using h))
theorem wpB_eq34 {C : World → Prop} {Q : Act → Prop} (hop : o.op = .binOp .eql 34 x y ty) (hw : Region.wanted o (yielded ops act.tmps) = true) (hx : act.eval x = pv a b k l hi lo p k2 l2 hi2 lo2 p2) (hy : act.eval y = pv a' b' k' l' hi' lo' p' k2' l2' hi2' lo2' p2')
    (ht : samePx a b k l hi lo p k2 l2 hi2 lo2 p2 a' b' k' l' hi' lo' p' k2' l2' hi2' lo2' p2' = true → wpB Tryz.prog ops C Q rest (act.put o.dst (.bool true))) (hf : samePx a b k l hi lo p k2 l2 hi2 lo2 p2 a' b' k' l' hi' lo' p' k2' l2' hi2' lo2' p2' = false → wpB Tryz.prog ops C Q rest (act.put o.dst (.bool false))) : wpB Tryz.prog ops C Q (o :: rest) act :=
  wpB_bool hw (fun V _ => run_eql34 hop hx hy V) ht hf
theorem wpB_neq34 {C : World → Prop} {Q : Act → Prop} (hop : o.op = .binOp .neq 34 x y ty) (hw : Region.wanted o (yielded ops act.tmps) = true) (hx : act.eval x = pv a b k l hi lo p k2 l2 hi2 lo2 p2) (hy : act.eval y = pv a' b' k' l' hi' lo' p' k2' l2' hi2' lo2' p2')
    (hf : samePx a b k l hi lo p k2 l2 hi2 lo2 p2 a' b' k' l' hi' lo' p' k2' l2' hi2' lo2' p2' = true → wpB Tryz.prog ops C Q rest (act.put o.dst (.bool false))) (ht : samePx a b k l hi lo p k2 l2 hi2 lo2 p2 a' b' k' l' hi' lo' p' k2' l2' hi2' lo2' p2' = false → wpB Tryz.prog ops C Q rest (act.put o.dst (.bool true))) : wpB Tryz.prog ops C Q (o :: rest) act :=
  wpB_bool hw (fun V _ => run_neq34 hop hx hy V) (fun h => ht (by simpa using h)) (fun h => hf (by simpa using h))
end eq34
set_option maxRecDepth 100000 in
set_option maxHeartbeats 4000000 in
theorem sound_walk (n : Int) (k0 s0 t0 k1 s1 t1 : Int) (w : World) : Calls Tryz.prog 23 #[.agg #[.int .i64 n, .int .i64 k0, .int .i64 s0, .int .i64 t0, .int .i64 k1, .int .i64 s1, .int .i64 t1]] w fun e w' => e = .returned (.bool (soundB ⟨n, ⟨k0, s0, t0⟩, ⟨k1, s1, t1⟩⟩)) ∧ Below w.heap.size w w' := by
  have HH := Hp.nil w
  go_enter Tryz.func23, Tryz.ntmps23
  go_wp2_with (first | (go_at_call 31; (with_reducible refine ((dimRight_gives _ _ _) _).mono ?_); rintro e V ⟨rfl, hb⟩; replace HH := HH.next hb; clear hb) | ((with_reducible show zX (Op.load _ _)); (refine wpl_load HH 0 rfl rfl rfl rfl rfl ?_; (try simp only [Act.put, zz]))) | ((with_reducible show zX (Op.binOp _ _ _ _ _)); (refine wpl_cmp (p := ?_) rfl rfl rfl ?_ ?_ ?_; rotate_left; (focus (go_simp; with_reducible rfl)); all_goals (intro hq; (try (fail)); (try simp only [zw] at hq); (try simp only [Act.put, zz])))) | ((with_reducible show zY (Op.load _ _)); (refine wpl_load HH 0 rfl rfl rfl (by simp only [Region.wanted, yielded, zy, Option.bind_some]; decide) rfl ?_; (try simp only [Act.put, zz]))) | ((with_reducible show zW (Op.box _ _)); refine wpl_box HH rfl rfl rfl ?_; clear HH; intro b V HH; simp only [Act.eval, zx, Value.cells, putl, zC, zB] at HH; (try simp only [Act.put, zz])))
  all_goals (go_ret; refine ⟨?_, HH.below rfl⟩; clear HH; simp_all [soundB, Dm.right])
theorem sound_gives (s : Sp) : Gives 23 #[s.v] (.bool (soundB s)) := fun w => sound_walk s.n s.d0.k s.d0.s s.d0.t s.d1.k s.d1.s s.d1.t w
theorem soundB_n {s : Sp} (h : soundB s = true) : s.n = 1 ∨ s.n = 2 := by
  unfold soundB at h
  split at h
  · exact .inl ‹_›
  · split at h
    · exact .inr ‹_›
    · cases h
set_option maxRecDepth 100000 in
set_option maxHeartbeats 4000000 in
theorem right1 (k0 s0 t0 k1 s1 t1 : Int) (a0 a1 u0 l0 u1 l1 : Int) (i0 o0 i1 o1 : Nat) (p0 p1 : ByteArray) (bs b0 b1 : Bool) (hs : Gives 23 #[.agg #[.int .i64 1, .int .i64 k0, .int .i64 s0, .int .i64 t0, .int .i64 k1, .int .i64 s1, .int .i64 t1]] (.bool bs)) (h0 : Gives 27 #[dv k0 s0 t0, .int .i64 a0, kv u0 l0 i0 o0 p0] (.bool b0)) (h1 : Gives 27 #[dv k1 s1 t1, .int .i64 a1, kv u1 l1 i1 o1 p1] (.bool b1)) (w : World) : Calls Tryz.prog 17 #[.agg #[.int .i64 1, .int .i64 k0, .int .i64 s0, .int .i64 t0, .int .i64 k1, .int .i64 s1, .int .i64 t1], .agg #[.int .i64 a0, .int .i64 a1, .int .i64 u0, .int .i64 l0, .int .u64 (i0 : Int), .int .u64 (o0 : Int), .string p0, .int .i64 u1, .int .i64 l1, .int .u64 (i1 : Int), .int .u64 (o1 : Int), .string p1]] w fun e w' => e = .returned (.bool (bs && (b0 && ((a1 == 0) && decide (u1 = 0 ∧ l1 = 0 ∧ i1 = 0 ∧ o1 = 0 ∧ p1.toList = []))))) ∧ Below w.heap.size w w' := by
  have HS := hs
  have HN0 := h0
  have HN1 := h1
  clear hs h0 h1
  have HH := Hp.nil w
  go_enter Tryz.func17, Tryz.ntmps17
  go_wp2_with (first | ((with_reducible show Code.wp _ (Code.loop _) _ _ _); refine wp_loop_rounds 3 ?_; rw [rounds_succ]) | ((with_reducible show Code.rounds _ _ _ _ _ _); rw [rounds_succ]) | (go_at_call 23; (with_reducible refine ((HS) _).mono ?_); rintro e V ⟨rfl, hb⟩; replace HH := HH.next hb; clear hb) | ((with_reducible show zX (Op.load _ _)); (first | (refine wpl_load HH 1 rfl rfl rfl rfl rfl ?_; (try simp only [Act.put, zz])) | (refine wpl_load HH 2 rfl rfl rfl rfl rfl ?_; (try simp only [Act.put, zz])) | (refine wpl_load HH 3 rfl rfl rfl rfl rfl ?_; (try simp only [Act.put, zz])))) | ((with_reducible show zX (Op.binOp _ _ _ _ _)); (refine wpl_cmp (p := ?_) rfl rfl rfl ?_ ?_ ?_; rotate_left; (focus (go_simp; with_reducible rfl)); all_goals (intro hq; (try (contradiction)); (try simp only [zw] at hq); (try simp only [Act.put, zz])))) | ((with_reducible show zY (Op.load _ _)); (refine wpl_load HH 2 rfl rfl rfl (by simp only [Region.wanted, yielded, zy, Option.bind_some]; decide) rfl ?_; (try simp only [Act.put, zz]))) | ((with_reducible show zW (Op.store _ _ _)); (refine wpl_store HH 0 rfl rfl rfl rfl rfl rfl rfl rfl ?_; clear HH; intro V HH; simp only [Act.eval, zx, Value.cells, putl, zC, zB] at HH; (try simp only [Act.put, zz]))) | ((with_reducible show zW (Op.box _ _)); refine wpl_box HH rfl rfl rfl ?_; clear HH; intro b V HH; simp only [Act.eval, zx, Value.cells, putl, zC, zB] at HH; (try simp only [Act.put, zz])) | ((with_reducible show zW (Op.alloc _)); refine wpl_alloc HH rfl rfl ?_; clear HH; intro b V HH; simp only [Act.eval, zx, Value.cells, putl, zC, zB] at HH; (try simp only [Act.put, zz])) | ((with_reducible show Code.wp _ (Code.region _ _ true) _ _ _); (refine wp_tail_Hp (id := 8) [0, 1, 2, 3, 4, 5, 6, 7, 8, 9, 10] [] (by kernel_rfl) HH ?_; clear HH; (try dsimp only); (try simp only [pick, zy]); repeat' (first | ((with_reducible show wpB _ _ _ _ [] _); refine wpB_nil ?_; intro V HH; (try simp only [pick, zy]); (try simp only [Act.put, zz]); (try simp only [Value.cells] at HH)) | (((with_reducible show zU _); (first | ((with_reducible show zT (Op.move _)); refine wpB_move rfl rfl rfl ?_) | ((with_reducible show zT (Op.load _ _)); (first | refine wpB_load 0 rfl rfl rfl rfl rfl ?_ | refine wpB_load 1 rfl rfl rfl rfl rfl ?_)) | ((with_reducible show zT (Op.call _)); (refine wpB_call rfl (HN0) ?_ ?_; (focus (intro w9 hS9; go_simp; done)))) | (refine wpB_val (v := ?_) rfl ?_ ?_; rotate_left; (focus (intro w9 hS9; go_simp; all_goals (with_reducible rfl)))))); all_goals (try simp only [Act.put, zz, Act.eval, zx]))))))
  all_goals (go_ret; refine ⟨?_, HH.below rfl⟩; clear HH HS HN0 HN1; simp_all)
set_option maxRecDepth 100000 in
set_option maxHeartbeats 4000000 in
theorem right2 (k0 s0 t0 k1 s1 t1 : Int) (a0 a1 u0 l0 u1 l1 : Int) (i0 o0 i1 o1 : Nat) (p0 p1 : ByteArray) (bs b0 b1 : Bool) (hs : Gives 23 #[.agg #[.int .i64 2, .int .i64 k0, .int .i64 s0, .int .i64 t0, .int .i64 k1, .int .i64 s1, .int .i64 t1]] (.bool bs)) (h0 : Gives 27 #[dv k0 s0 t0, .int .i64 a0, kv u0 l0 i0 o0 p0] (.bool b0)) (h1 : Gives 27 #[dv k1 s1 t1, .int .i64 a1, kv u1 l1 i1 o1 p1] (.bool b1)) (w : World) : Calls Tryz.prog 17 #[.agg #[.int .i64 2, .int .i64 k0, .int .i64 s0, .int .i64 t0, .int .i64 k1, .int .i64 s1, .int .i64 t1], .agg #[.int .i64 a0, .int .i64 a1, .int .i64 u0, .int .i64 l0, .int .u64 (i0 : Int), .int .u64 (o0 : Int), .string p0, .int .i64 u1, .int .i64 l1, .int .u64 (i1 : Int), .int .u64 (o1 : Int), .string p1]] w fun e w' => e = .returned (.bool (bs && (b0 && b1))) ∧ Below w.heap.size w w' := by
  have HS := hs
  have HN0 := h0
  have HN1 := h1
  clear hs h0 h1
  have HH := Hp.nil w
  go_enter Tryz.func17, Tryz.ntmps17
  go_wp2_with (first | ((with_reducible show Code.wp _ (Code.loop _) _ _ _); refine wp_loop_rounds 3 ?_; rw [rounds_succ]) | ((with_reducible show Code.rounds _ _ _ _ _ _); rw [rounds_succ]) | (go_at_call 23; (with_reducible refine ((HS) _).mono ?_); rintro e V ⟨rfl, hb⟩; replace HH := HH.next hb; clear hb) | ((with_reducible show zX (Op.load _ _)); (first | (refine wpl_load HH 1 rfl rfl rfl rfl rfl ?_; (try simp only [Act.put, zz])) | (refine wpl_load HH 2 rfl rfl rfl rfl rfl ?_; (try simp only [Act.put, zz])) | (refine wpl_load HH 3 rfl rfl rfl rfl rfl ?_; (try simp only [Act.put, zz])))) | ((with_reducible show zX (Op.binOp _ _ _ _ _)); (refine wpl_cmp (p := ?_) rfl rfl rfl ?_ ?_ ?_; rotate_left; (focus (go_simp; with_reducible rfl)); all_goals (intro hq; (try (contradiction)); (try simp only [zw] at hq); (try simp only [Act.put, zz])))) | ((with_reducible show zW (Op.store _ _ _)); (refine wpl_store HH 0 rfl rfl rfl rfl rfl rfl rfl rfl ?_; clear HH; intro V HH; simp only [Act.eval, zx, Value.cells, putl, zC, zB] at HH; (try simp only [Act.put, zz]))) | ((with_reducible show zW (Op.box _ _)); refine wpl_box HH rfl rfl rfl ?_; clear HH; intro b V HH; simp only [Act.eval, zx, Value.cells, putl, zC, zB] at HH; (try simp only [Act.put, zz])) | ((with_reducible show zW (Op.alloc _)); refine wpl_alloc HH rfl rfl ?_; clear HH; intro b V HH; simp only [Act.eval, zx, Value.cells, putl, zC, zB] at HH; (try simp only [Act.put, zz])) | ((with_reducible show Code.wp _ (Code.region _ _ true) _ _ _); (refine wp_tail_Hp (id := 8) [0, 1, 2, 3, 4, 5, 6, 7, 8, 9, 10] [] (by kernel_rfl) HH ?_; clear HH; (try dsimp only); (try simp only [pick, zy]); repeat' (first | ((with_reducible show wpB _ _ _ _ [] _); refine wpB_nil ?_; intro V HH; (try simp only [pick, zy]); (try simp only [Act.put, zz]); (try simp only [Value.cells] at HH)) | (((with_reducible show zU _); (first | ((with_reducible show zT (Op.move _)); refine wpB_move rfl rfl rfl ?_) | ((with_reducible show zT (Op.load _ _)); (first | refine wpB_load 0 rfl rfl rfl rfl rfl ?_ | refine wpB_load 1 rfl rfl rfl rfl rfl ?_ | refine wpB_load 2 rfl rfl rfl rfl rfl ?_)) | ((with_reducible show zT (Op.call _)); (first | (refine wpB_call rfl (HN0) ?_ ?_; (focus (intro w9 hS9; go_simp; done))) | (refine wpB_call rfl (HN1) ?_ ?_; (focus (intro w9 hS9; go_simp; done))))) | (refine wpB_val (v := ?_) rfl ?_ ?_; rotate_left; (focus (intro w9 hS9; go_simp; all_goals (with_reducible rfl)))))); all_goals (try simp only [Act.put, zz, Act.eval, zx]))))))
  all_goals (go_ret; refine ⟨?_, HH.below rfl⟩; clear HH HS HN0 HN1; simp_all)
set_option maxRecDepth 100000 in
set_option maxHeartbeats 4000000 in
theorem right0 (n : Int) (k0 s0 t0 k1 s1 t1 : Int) (a0 a1 u0 l0 u1 l1 : Int) (i0 o0 i1 o1 : Nat) (p0 p1 : ByteArray) (hs : Gives 23 #[.agg #[.int .i64 n, .int .i64 k0, .int .i64 s0, .int .i64 t0, .int .i64 k1, .int .i64 s1, .int .i64 t1]] (.bool false)) (w : World) : Calls Tryz.prog 17 #[.agg #[.int .i64 n, .int .i64 k0, .int .i64 s0, .int .i64 t0, .int .i64 k1, .int .i64 s1, .int .i64 t1], .agg #[.int .i64 a0, .int .i64 a1, .int .i64 u0, .int .i64 l0, .int .u64 (i0 : Int), .int .u64 (o0 : Int), .string p0, .int .i64 u1, .int .i64 l1, .int .u64 (i1 : Int), .int .u64 (o1 : Int), .string p1]] w fun e w' => e = .returned (.bool false) ∧ Below w.heap.size w w' := by
  have HS := hs
  clear hs
  have HH := Hp.nil w
  go_enter Tryz.func17, Tryz.ntmps17
  go_wp2_with (first | (go_at_call 23; (with_reducible refine ((HS) _).mono ?_); rintro e V ⟨rfl, hb⟩; replace HH := HH.next hb; clear hb) | ((with_reducible show zX (Op.load _ _)); (refine wpl_load HH 1 rfl rfl rfl rfl rfl ?_; (try simp only [Act.put, zz]))) | ((with_reducible show zW (Op.box _ _)); refine wpl_box HH rfl rfl rfl ?_; clear HH; intro b V HH; simp only [Act.eval, zx, Value.cells, putl, zC, zB] at HH; (try simp only [Act.put, zz])))
  all_goals (go_ret; exact ⟨rfl, HH.below rfl⟩)
theorem right_gives {ok : ByteArray → Bool} {len : ByteArray → Int} {top : ByteArray → Int → ByteArray} (L : LabelFns ok len top) (s : Sp) (p : Px) (hp : p.ok) : Gives 17 #[s.v, p.v] (.bool (rightB ok len s p)) := fun w => by
  have hs := sound_gives s
  have h0 := on_gives L s.d0 p.k0 hp.1 p.a0
  have h1 := on_gives L s.d1 p.k1 hp.2 p.a1
  have hn := @soundB_n s
  unfold rightB
  cases b : soundB s
  · rw [b] at hs
    exact right0 s.n _ _ _ _ _ _ p.a0 p.a1 _ _ _ _ _ _ _ _ _ _ hs w
  · rw [b] at hs
    obtain ⟨n, ⟨k0, s0, t0⟩, ⟨k1, s1, t1⟩⟩ := s
    rcases hn b with e | e
    · simp only at e
      subst e
      rw [if_pos rfl]
      exact right1 k0 s0 t0 k1 s1 t1 p.a0 p.a1 _ _ _ _ _ _ _ _ _ _ true _ _ hs h0 h1 w
    · simp only at e
      subst e
      rw [if_neg (by simp)]
      exact right2 k0 s0 t0 k1 s1 t1 p.a0 p.a1 _ _ _ _ _ _ _ _ _ _ true _ _ hs h0 h1 w

end Go.Proofs.YtcbahkfbdlhabaaGreatDoor
namespace Go.Proofs.YtcbahkfbdlhabaaGreatDoor
set_option linter.unusedVariables false
set_option linter.unusedSimpArgs false
open Go.RowKit
attribute [local go_sem] index24_0 index24_1 field34_0 field34_1
attribute [local irreducible] wpList Code.wp wpB

def rootK (k : Int) : Ky := if widthI k = 0 then ky0 else ⟨k, 0, 0, 0, ⟨#[]⟩⟩
theorem root_gives (k : Int) : Gives 43 #[.int .i64 k] (rootK k).v := fun w => by
  unfold rootK
  by_cases h : widthI k = 0
  · rw [if_pos h]
    exact root_bad k (by simpa using h) w
  · rw [if_neg h]
    exact root_ok k (by simpa using h) w
theorem rootK_ok (k : Int) : (rootK k).ok := by
  unfold rootK
  split
  · exact ky0_ok
  · exact ky0_ok
def topX (s : Sp) : Px := if soundB s then ⟨s.d0.depth, s.d1.depth, rootK s.d0.k, rootK s.d1.k⟩ else px0

set_option maxRecDepth 100000 in
set_option maxHeartbeats 4000000 in
theorem top_walkH (n : Int) (k0 s0 t0 k1 s1 t1 : Int) (bs : Bool) (hs : Gives 23 #[.agg #[.int .i64 n, .int .i64 k0, .int .i64 s0, .int .i64 t0, .int .i64 k1, .int .i64 s1, .int .i64 t1]] (.bool bs)) (e0 : Int) (hd0 : Gives 42 #[dv k0 s0 t0] (.int .i64 e0)) (e1 : Int) (hd1 : Gives 42 #[dv k1 s1 t1] (.int .i64 e1)) (r0 : Ky) (hr0 : Gives 43 #[.int .i64 k0] r0.v) (r1 : Ky) (hr1 : Gives 43 #[.int .i64 k1] r1.v) (w : World) : Calls Tryz.prog 30 #[.agg #[.int .i64 n, .int .i64 k0, .int .i64 s0, .int .i64 t0, .int .i64 k1, .int .i64 s1, .int .i64 t1]] w fun e w' => e = .returned ((if bs then (⟨e0, e1, r0, r1⟩ : Px) else px0).v) ∧ Below w.heap.size w w' := by
  have HS := hs
  have HD0 := hd0
  have HD1 := hd1
  have HR0 := hr0
  have HR1 := hr1
  clear hs hd0 hd1 hr0 hr1
  have HH := Hp.nil w
  go_enter Tryz.func30, Tryz.ntmps30
  go_wp2_with (first | ((with_reducible show Code.wp _ (Code.loop _) _ _ _); refine wp_loop_rounds 3 ?_; rw [rounds_succ]) | ((with_reducible show Code.rounds _ _ _ _ _ _); rw [rounds_succ]) | (go_at_call 23; (with_reducible refine ((HS) _).mono ?_); rintro e V ⟨rfl, hb⟩; replace HH := HH.next hb; clear hb; cases bs) | (go_at_call 42; (with_reducible refine ((HD0) _).mono ?_); rintro e V ⟨rfl, hb⟩; replace HH := HH.next hb; clear hb) | (go_at_call 42; (with_reducible refine ((HD1) _).mono ?_); rintro e V ⟨rfl, hb⟩; replace HH := HH.next hb; clear hb) | (go_at_call 43; (with_reducible refine ((HR0) _).mono ?_); rintro e V ⟨rfl, hb⟩; replace HH := HH.next hb; clear hb) | (go_at_call 43; (with_reducible refine ((HR1) _).mono ?_); rintro e V ⟨rfl, hb⟩; replace HH := HH.next hb; clear hb) | ((with_reducible show zX (Op.load _ _)); (first | (refine wpl_load HH 0 rfl rfl rfl rfl rfl ?_; (try simp only [Act.put, zz])) | (refine wpl_load HH 2 rfl rfl rfl rfl rfl ?_; (try simp only [Act.put, zz])))) | ((with_reducible show zX (Op.binOp _ _ _ _ _)); (refine wpl_cmp (p := ?_) rfl rfl rfl ?_ ?_ ?_; rotate_left; (focus (go_simp; with_reducible rfl)); all_goals (intro hq; (try (contradiction)); (try simp only [zw] at hq); (try simp only [Act.put, zz])))) | ((with_reducible show zW (Op.store _ _ _)); (first | (refine wpl_store HH 0 rfl rfl rfl rfl rfl rfl rfl rfl ?_; clear HH; intro V HH; simp only [Act.eval, zx, Value.cells, putl, zC, zB] at HH; (try simp only [Act.put, zz])) | (refine wpl_store HH 1 rfl rfl rfl rfl rfl rfl rfl rfl ?_; clear HH; intro V HH; simp only [Act.eval, zx, Value.cells, putl, zC, zB] at HH; (try simp only [Act.put, zz])) | (refine wpl_store HH 2 rfl rfl rfl rfl rfl rfl rfl rfl ?_; clear HH; intro V HH; simp only [Act.eval, zx, Value.cells, putl, zC, zB] at HH; (try simp only [Act.put, zz])) | (refine wpl_store HH 3 rfl rfl rfl rfl rfl rfl rfl rfl ?_; clear HH; intro V HH; simp only [Act.eval, zx, Value.cells, putl, zC, zB] at HH; (try simp only [Act.put, zz])))) | ((with_reducible show zW (Op.box _ _)); refine wpl_box HH rfl rfl rfl ?_; clear HH; intro b V HH; simp only [Act.eval, zx, Value.cells, putl, zC, zB] at HH; (try simp only [Act.put, zz])) | ((with_reducible show zW (Op.alloc _)); refine wpl_alloc HH rfl rfl ?_; clear HH; intro b V HH; simp only [Act.eval, zx, Value.cells, putl, zC, zB] at HH; (try simp only [Act.put, zz])))
  · (refine bodyPost_ret (results_c rfl HH 1 rfl rfl rfl) rfl ⟨?_, HH.below rfl⟩); (rfl)
  · (refine bodyPost_ret (results_c rfl HH 3 rfl rfl rfl) rfl ⟨?_, HH.below rfl⟩); (rfl)

theorem top_gives30 (s : Sp) : Gives 30 #[s.v] (topX s).v := fun w =>
  top_walkH s.n s.d0.k s.d0.s s.d0.t s.d1.k s.d1.s s.d1.t _ (sound_gives s) _ (depth_gives s.d0.k s.d0.s s.d0.t) _ (depth_gives s.d1.k s.d1.s s.d1.t) _ (root_gives s.d0.k) _ (root_gives s.d1.k) w

set_option maxRecDepth 100000 in
set_option maxHeartbeats 4000000 in
theorem height_walk (n : Int) (k0 s0 t0 k1 s1 t1 : Int) (a0 a1 u0 l0 u1 l1 : Int) (i0 o0 i1 o1 : Nat) (p0 p1 : ByteArray) (br : Bool) (hr : Gives 17 #[.agg #[.int .i64 n, .int .i64 k0, .int .i64 s0, .int .i64 t0, .int .i64 k1, .int .i64 s1, .int .i64 t1], .agg #[.int .i64 a0, .int .i64 a1, .int .i64 u0, .int .i64 l0, .int .u64 (i0 : Int), .int .u64 (o0 : Int), .string p0, .int .i64 u1, .int .i64 l1, .int .u64 (i1 : Int), .int .u64 (o1 : Int), .string p1]] (.bool br)) (w : World) : Calls Tryz.prog 18 #[.agg #[.int .i64 n, .int .i64 k0, .int .i64 s0, .int .i64 t0, .int .i64 k1, .int .i64 s1, .int .i64 t1], .agg #[.int .i64 a0, .int .i64 a1, .int .i64 u0, .int .i64 l0, .int .u64 (i0 : Int), .int .u64 (o0 : Int), .string p0, .int .i64 u1, .int .i64 l1, .int .u64 (i1 : Int), .int .u64 (o1 : Int), .string p1]] w fun e w' => e = .returned (.int .i64 (if br then wrap64 (a0 + a1) else 0)) ∧ Below w.heap.size w w' := by
  have HR := hr
  clear hr
  have HH := Hp.nil w
  go_enter Tryz.func18, Tryz.ntmps18
  go_wp2_with (first | (go_at_call 17; (with_reducible refine ((HR) _).mono ?_); rintro e V ⟨rfl, hb⟩; replace HH := HH.next hb; clear hb; cases br) | ((with_reducible show zX (Op.load _ _)); (first | (refine wpl_load HH 0 rfl rfl rfl rfl rfl ?_; (try simp only [Act.put, zz])) | (refine wpl_load HH 1 rfl rfl rfl rfl rfl ?_; (try simp only [Act.put, zz])))) | ((with_reducible show zW (Op.box _ _)); refine wpl_box HH rfl rfl rfl ?_; clear HH; intro b V HH; simp only [Act.eval, zx, Value.cells, putl, zC, zB] at HH; (try simp only [Act.put, zz])))
  all_goals (go_ret; refine ⟨?_, HH.below rfl⟩; (rfl))

set_option maxRecDepth 100000 in
set_option maxHeartbeats 4000000 in
theorem orNone_walk (n : Int) (k0 s0 t0 k1 s1 t1 : Int) (a0 a1 u0 l0 u1 l1 : Int) (i0 o0 i1 o1 : Nat) (p0 p1 : ByteArray) (br : Bool) (hr : Gives 17 #[.agg #[.int .i64 n, .int .i64 k0, .int .i64 s0, .int .i64 t0, .int .i64 k1, .int .i64 s1, .int .i64 t1], .agg #[.int .i64 a0, .int .i64 a1, .int .i64 u0, .int .i64 l0, .int .u64 (i0 : Int), .int .u64 (o0 : Int), .string p0, .int .i64 u1, .int .i64 l1, .int .u64 (i1 : Int), .int .u64 (o1 : Int), .string p1]] (.bool br)) (w : World) : Calls Tryz.prog 166 #[.agg #[.int .i64 n, .int .i64 k0, .int .i64 s0, .int .i64 t0, .int .i64 k1, .int .i64 s1, .int .i64 t1], .agg #[.int .i64 a0, .int .i64 a1, .int .i64 u0, .int .i64 l0, .int .u64 (i0 : Int), .int .u64 (o0 : Int), .string p0, .int .i64 u1, .int .i64 l1, .int .u64 (i1 : Int), .int .u64 (o1 : Int), .string p1]] w fun e w' => e = .returned (.tuple #[if br then .agg #[.int .i64 a0, .int .i64 a1, .int .i64 u0, .int .i64 l0, .int .u64 (i0 : Int), .int .u64 (o0 : Int), .string p0, .int .i64 u1, .int .i64 l1, .int .u64 (i1 : Int), .int .u64 (o1 : Int), .string p1] else px0.v, .bool br]) ∧ Below w.heap.size w w' := by
  have HR := hr
  clear hr
  have HH := Hp.nil w
  go_enter Tryz.func166, Tryz.ntmps166
  go_wp2_with (first | (go_at_call 17; (with_reducible refine ((HR) _).mono ?_); rintro e V ⟨rfl, hb⟩; replace HH := HH.next hb; clear hb; cases br) | ((with_reducible show zX (Op.load _ _)); (first | (refine wpl_load HH 1 rfl rfl rfl rfl rfl ?_; (try simp only [Act.put, zz])) | (refine wpl_load HH 2 rfl rfl rfl rfl rfl ?_; (try simp only [Act.put, zz])))) | ((with_reducible show zW (Op.store _ _ _)); (refine wpl_store HH 0 rfl rfl rfl rfl rfl rfl rfl rfl ?_; clear HH; intro V HH; simp only [Act.eval, zx, Value.cells, putl, zC, zB] at HH; (try simp only [Act.put, zz]))) | ((with_reducible show zW (Op.box _ _)); refine wpl_box HH rfl rfl rfl ?_; clear HH; intro b V HH; simp only [Act.eval, zx, Value.cells, putl, zC, zB] at HH; (try simp only [Act.put, zz])) | ((with_reducible show zW (Op.alloc _)); refine wpl_alloc HH rfl rfl ?_; clear HH; intro b V HH; simp only [Act.eval, zx, Value.cells, putl, zC, zB] at HH; (try simp only [Act.put, zz])))
  all_goals ((refine bodyPost_ret (results_ct rfl HH 0 rfl rfl rfl) rfl ⟨?_, HH.below rfl⟩); (rfl))

set_option maxRecDepth 100000 in
set_option maxHeartbeats 4000000 in
theorem ends_walk (n : Int) (k0 s0 t0 k1 s1 t1 : Int) (t : Px) (ht : Gives 30 #[.agg #[.int .i64 n, .int .i64 k0, .int .i64 s0, .int .i64 t0, .int .i64 k1, .int .i64 s1, .int .i64 t1]] t.v) (w : World) : Calls Tryz.prog 24 #[.agg #[.int .i64 n, .int .i64 k0, .int .i64 s0, .int .i64 t0, .int .i64 k1, .int .i64 s1, .int .i64 t1]] w fun e w' => e = .returned (.agg #[.int .i64 t.a0, .int .i64 t.a1]) ∧ Below w.heap.size w w' := by
  have HT := ht
  clear ht
  have HH := Hp.nil w
  go_enter Tryz.func24, Tryz.ntmps24
  go_wp2_with (first | (go_at_call 30; (with_reducible refine ((HT) _).mono ?_); rintro e V ⟨rfl, hb⟩; replace HH := HH.next hb; clear hb) | ((with_reducible show zX (Op.load _ _)); (refine wpl_load HH 1 rfl rfl rfl rfl rfl ?_; (try simp only [Act.put, zz]))) | ((with_reducible show zW (Op.store _ _ _)); (refine wpl_store HH 0 rfl rfl rfl rfl rfl rfl rfl rfl ?_; clear HH; intro V HH; simp only [Act.eval, zx, Value.cells, putl, zC, zB] at HH; (try simp only [Act.put, zz]))) | ((with_reducible show zW (Op.box _ _)); refine wpl_box HH rfl rfl rfl ?_; clear HH; intro b V HH; simp only [Act.eval, zx, Value.cells, putl, zC, zB] at HH; (try simp only [Act.put, zz])) | ((with_reducible show zW (Op.alloc _)); refine wpl_alloc HH rfl rfl ?_; clear HH; intro b V HH; simp only [Act.eval, zx, Value.cells, putl, zC, zB] at HH; (try simp only [Act.put, zz])))
  all_goals ((refine bodyPost_ret (results_c rfl HH 0 rfl rfl rfl) rfl ⟨?_, HH.below rfl⟩); (rfl))

set_option maxRecDepth 100000 in
set_option maxHeartbeats 4000000 in
theorem count_walk (n : Int) (k0 s0 t0 k1 s1 t1 : Int) (bs : Bool) (hs : Gives 23 #[.agg #[.int .i64 n, .int .i64 k0, .int .i64 s0, .int .i64 t0, .int .i64 k1, .int .i64 s1, .int .i64 t1]] (.bool bs)) (e0 e1 : Int) (he : Gives 24 #[.agg #[.int .i64 n, .int .i64 k0, .int .i64 s0, .int .i64 t0, .int .i64 k1, .int .i64 s1, .int .i64 t1]] (.agg #[.int .i64 e0, .int .i64 e1])) (b0 : 0 ≤ e0) (b1 : 0 ≤ e1) (c0 : e0 ≤ 128) (c1 : e1 ≤ 128) (w : World) : Calls Tryz.prog 12 #[.agg #[.int .i64 n, .int .i64 k0, .int .i64 s0, .int .i64 t0, .int .i64 k1, .int .i64 s1, .int .i64 t1]] w fun e w' => e = .returned (.int .i64 (if bs then (e0 + 1) * (e1 + 1) else 0)) ∧ Below w.heap.size w w' := by
  have HS := hs
  have HE := he
  clear hs he
  have m1 : 0 ≤ (e0 + 1) * (e1 + 1) := Int.mul_nonneg (by omega) (by omega)
  have m2 : (e0 + 1) * (e1 + 1) ≤ 129 * 129 := Int.mul_le_mul (by omega) (by omega) (by omega) (by omega)
  have w1 : IntKind.i64.wrap (e0 + 1) = e0 + 1 := IntWalk.i64_in _ (by omega)
  have w2 : IntKind.i64.wrap (e1 + 1) = e1 + 1 := IntWalk.i64_in _ (by omega)
  have w3 : IntKind.i64.wrap ((e0 + 1) * (e1 + 1)) = (e0 + 1) * (e1 + 1) := IntWalk.i64_in _ (by omega)
  have v1 : wrap64 (e0 + 1) = e0 + 1 := IntWalk.wrap64_in _ (by omega)
  have v2 : wrap64 (e1 + 1) = e1 + 1 := IntWalk.wrap64_in _ (by omega)
  have v3 : wrap64 ((e0 + 1) * (e1 + 1)) = (e0 + 1) * (e1 + 1) := IntWalk.wrap64_in _ (by omega)
  clear b0 b1 c0 c1 m1 m2
  have HH := Hp.nil w
  go_enter Tryz.func12, Tryz.ntmps12
  go_wp2_with (first | (go_at_call 23; (with_reducible refine ((HS) _).mono ?_); rintro e V ⟨rfl, hb⟩; replace HH := HH.next hb; clear hb; cases bs) | (go_at_call 24; (with_reducible refine ((HE) _).mono ?_); rintro e V ⟨rfl, hb⟩; replace HH := HH.next hb; clear hb) | ((with_reducible show zX (Op.load _ _)); (refine wpl_load HH 0 rfl rfl rfl rfl rfl ?_; (try simp only [Act.put, zz]))) | ((with_reducible show zW (Op.store _ _ _)); (refine wpl_store HH 0 rfl rfl rfl rfl rfl rfl rfl rfl ?_; clear HH; intro V HH; simp only [Act.eval, zx, Value.cells, putl, zC, zB] at HH; (try simp only [Act.put, zz]))) | ((with_reducible show zW (Op.box _ _)); refine wpl_box HH rfl rfl rfl ?_; clear HH; intro b V HH; simp only [Act.eval, zx, Value.cells, putl, zC, zB] at HH; (try simp only [Act.put, zz])) | ((with_reducible show zW (Op.alloc _)); refine wpl_alloc HH rfl rfl ?_; clear HH; intro b V HH; simp only [Act.eval, zx, Value.cells, putl, zC, zB] at HH; (try simp only [Act.put, zz])))
  all_goals (go_ret; refine ⟨?_, HH.below rfl⟩; (rfl))

set_option maxRecDepth 100000 in
set_option maxHeartbeats 4000000 in
theorem tall_walk (n : Int) (k0 s0 t0 k1 s1 t1 : Int) (e0 e1 : Int) (he : Gives 24 #[.agg #[.int .i64 n, .int .i64 k0, .int .i64 s0, .int .i64 t0, .int .i64 k1, .int .i64 s1, .int .i64 t1]] (.agg #[.int .i64 e0, .int .i64 e1])) (b0 : 0 ≤ e0) (b1 : 0 ≤ e1) (c0 : e0 ≤ 128) (c1 : e1 ≤ 128) (w : World) : Calls Tryz.prog 142 #[.agg #[.int .i64 n, .int .i64 k0, .int .i64 s0, .int .i64 t0, .int .i64 k1, .int .i64 s1, .int .i64 t1]] w fun e w' => e = .returned (.int .i64 (e0 + e1)) ∧ Below w.heap.size w w' := by
  have HE := he
  clear he
  have w1 : IntKind.i64.wrap (e0 + e1) = e0 + e1 := IntWalk.i64_in _ (by omega)
  have v1 : wrap64 (e0 + e1) = e0 + e1 := IntWalk.wrap64_in _ (by omega)
  clear b0 b1 c0 c1
  have HH := Hp.nil w
  go_enter Tryz.func142, Tryz.ntmps142
  go_wp2_with (first | (go_at_call 24; (with_reducible refine ((HE) _).mono ?_); rintro e V ⟨rfl, hb⟩; replace HH := HH.next hb; clear hb) | ((with_reducible show zX (Op.load _ _)); (refine wpl_load HH 0 rfl rfl rfl rfl rfl ?_; (try simp only [Act.put, zz]))) | ((with_reducible show zW (Op.store _ _ _)); (refine wpl_store HH 0 rfl rfl rfl rfl rfl rfl rfl rfl ?_; clear HH; intro V HH; simp only [Act.eval, zx, Value.cells, putl, zC, zB] at HH; (try simp only [Act.put, zz]))) | ((with_reducible show zW (Op.box _ _)); refine wpl_box HH rfl rfl rfl ?_; clear HH; intro b V HH; simp only [Act.eval, zx, Value.cells, putl, zC, zB] at HH; (try simp only [Act.put, zz])) | ((with_reducible show zW (Op.alloc _)); refine wpl_alloc HH rfl rfl ?_; clear HH; intro b V HH; simp only [Act.eval, zx, Value.cells, putl, zC, zB] at HH; (try simp only [Act.put, zz])))
  all_goals (go_ret; refine ⟨?_, HH.below rfl⟩; (rfl))

set_option maxRecDepth 100000 in
set_option maxHeartbeats 4000000 in
theorem up_walk (n : Int) (k0 s0 t0 k1 s1 t1 : Int) (a0 a1 u0 l0 u1 l1 : Int) (i0 o0 i1 o1 : Nat) (p0 p1 : ByteArray) (b0 b1 : Int) (br : Bool) (hr : Gives 17 #[.agg #[.int .i64 n, .int .i64 k0, .int .i64 s0, .int .i64 t0, .int .i64 k1, .int .i64 s1, .int .i64 t1], .agg #[.int .i64 a0, .int .i64 a1, .int .i64 u0, .int .i64 l0, .int .u64 (i0 : Int), .int .u64 (o0 : Int), .string p0, .int .i64 u1, .int .i64 l1, .int .u64 (i1 : Int), .int .u64 (o1 : Int), .string p1]] (.bool br)) (c0 : Ky) (hc0 : Gives 165 #[dv k0 s0 t0, .int .i64 b0, kv u0 l0 (i0 : Int) (o0 : Int) p0] c0.v) (c1 : Ky) (hc1 : Gives 165 #[dv k1 s1 t1, .int .i64 b1, kv u1 l1 (i1 : Int) (o1 : Int) p1] c1.v) (q : Px) (bq : Bool) (ho : Gives 166 #[.agg #[.int .i64 n, .int .i64 k0, .int .i64 s0, .int .i64 t0, .int .i64 k1, .int .i64 s1, .int .i64 t1], (⟨b0, b1, c0, c1⟩ : Px).v] (.tuple #[q.v, .bool bq])) (w : World) : Calls Tryz.prog 146 #[.agg #[.int .i64 n, .int .i64 k0, .int .i64 s0, .int .i64 t0, .int .i64 k1, .int .i64 s1, .int .i64 t1], .agg #[.int .i64 a0, .int .i64 a1, .int .i64 u0, .int .i64 l0, .int .u64 (i0 : Int), .int .u64 (o0 : Int), .string p0, .int .i64 u1, .int .i64 l1, .int .u64 (i1 : Int), .int .u64 (o1 : Int), .string p1], .agg #[.int .i64 b0, .int .i64 b1]] w fun e w' => e = .returned ((if br && (!decide (b0 < a0) && !decide (b1 < a1)) then q else px0).v) ∧ Below w.heap.size w w' := by
  have HR := hr
  have HC0 := hc0
  have HC1 := hc1
  have HO := ho
  clear hr hc0 hc1 ho
  have HH := Hp.nil w
  go_enter Tryz.func146, Tryz.ntmps146
  go_wp2_with (first | ((with_reducible show Code.wp _ (Code.loop _) _ _ _); refine wp_loop_rounds 3 ?_; rw [rounds_succ]) | ((with_reducible show Code.rounds _ _ _ _ _ _); rw [rounds_succ]) | (go_at_call 17; (with_reducible refine ((HR) _).mono ?_); rintro e V ⟨rfl, hb⟩; replace HH := HH.next hb; clear hb; cases br) | (go_at_call 166; (with_reducible refine ((HO) _).mono ?_); rintro e V ⟨rfl, hb⟩; replace HH := HH.next hb; clear hb) | ((with_reducible show zX (Op.load _ _)); (first | (refine wpl_load HH 1 rfl rfl rfl rfl rfl ?_; (try simp only [Act.put, zz])) | (refine wpl_load HH 2 rfl rfl rfl rfl rfl ?_; (try simp only [Act.put, zz])) | (refine wpl_load HH 3 rfl rfl rfl rfl rfl ?_; (try simp only [Act.put, zz])) | (refine wpl_load HH 4 rfl rfl rfl rfl rfl ?_; (try simp only [Act.put, zz])) | (refine wpl_load HH 6 rfl rfl rfl rfl rfl ?_; (try simp only [Act.put, zz])))) | ((with_reducible show zX (Op.binOp _ _ _ _ _)); (refine wpl_cmp (p := ?_) rfl rfl rfl ?_ ?_ ?_; rotate_left; (focus (go_simp; with_reducible rfl)); all_goals (intro hq; (try (contradiction)); (try simp only [zw] at hq); (try simp only [Act.put, zz])))) | ((with_reducible show zY (Op.load _ _)); (first | (refine wpl_load HH 1 rfl rfl rfl (by simp only [Region.wanted, yielded, zy, Option.bind_some]; decide) rfl ?_; (try simp only [Act.put, zz])) | (refine wpl_load HH 2 rfl rfl rfl (by simp only [Region.wanted, yielded, zy, Option.bind_some]; decide) rfl ?_; (try simp only [Act.put, zz])))) | ((with_reducible show zY (Op.binOp _ _ _ _ _)); (refine wpl_cmp (p := ?_) rfl rfl (by simp only [Region.wanted, yielded, zy, Option.bind_some]; decide) ?_ ?_ ?_; rotate_left; (focus (go_simp; with_reducible rfl)); all_goals (intro hq; (try (fail)); (try simp only [zw] at hq); (try simp only [Act.put, zz])))) | ((with_reducible show zW (Op.store _ _ _)); (first | (refine wpl_store HH 0 rfl rfl rfl rfl rfl rfl rfl rfl ?_; clear HH; intro V HH; simp only [Act.eval, zx, Value.cells, putl, zC, zB] at HH; (try simp only [Act.put, zz])) | (refine wpl_store HH 1 rfl rfl rfl rfl rfl rfl rfl rfl ?_; clear HH; intro V HH; simp only [Act.eval, zx, Value.cells, putl, zC, zB] at HH; (try simp only [Act.put, zz])) | (refine wpl_store HH 2 rfl rfl rfl rfl rfl rfl rfl rfl ?_; clear HH; intro V HH; simp only [Act.eval, zx, Value.cells, putl, zC, zB] at HH; (try simp only [Act.put, zz])) | (refine wpl_store HH 3 rfl rfl rfl rfl rfl rfl rfl rfl ?_; clear HH; intro V HH; simp only [Act.eval, zx, Value.cells, putl, zC, zB] at HH; (try simp only [Act.put, zz])))) | ((with_reducible show zW (Op.box _ _)); refine wpl_box HH rfl rfl rfl ?_; clear HH; intro b V HH; simp only [Act.eval, zx, Value.cells, putl, zC, zB] at HH; (try simp only [Act.put, zz])) | ((with_reducible show zW (Op.alloc _)); refine wpl_alloc HH rfl rfl ?_; clear HH; intro b V HH; simp only [Act.eval, zx, Value.cells, putl, zC, zB] at HH; (try simp only [Act.put, zz])) | ((with_reducible show Code.wp _ (Code.region _ _ true) _ _ _); (refine wp_tail_Hp (id := 7) [0, 1, 2, 3, 4, 5, 6, 7, 8, 9, 10, 11] [12] (by kernel_rfl) HH ?_; clear HH; (try dsimp only); (try simp only [pick, zy]); repeat' (first | ((with_reducible show wpB _ _ _ _ [] _); refine wpB_nil ?_; intro V HH; (try simp only [pick, zy]); (try simp only [Act.put, zz]); (try simp only [Value.cells] at HH)) | (((with_reducible show zU _); (first | ((with_reducible show zT (Op.move _)); refine wpB_move rfl rfl rfl ?_) | ((with_reducible show zT (Op.load _ _)); (first | refine wpB_load 0 rfl rfl rfl rfl rfl ?_ | refine wpB_load 3 rfl rfl rfl rfl rfl ?_ | refine wpB_load 4 rfl rfl rfl rfl rfl ?_ | refine wpB_load 5 rfl rfl rfl rfl rfl ?_)) | ((with_reducible show zT (Op.call _)); (first | (refine wpB_call rfl (HC0) ?_ ?_; (focus (intro w9 hS9; go_simp; done))) | (refine wpB_call rfl (HC1) ?_ ?_; (focus (intro w9 hS9; go_simp; done))))) | (refine wpB_val (v := ?_) rfl ?_ ?_; rotate_left; (focus (intro w9 hS9; go_simp; all_goals (with_reducible rfl)))))); all_goals (try simp only [Act.put, zz, Act.eval, zx]))))))
  all_goals (first | ((refine bodyPost_ret (results_c rfl HH 0 rfl rfl rfl) rfl ⟨?_, HH.below rfl⟩); (rfl)) | ((refine bodyPost_ret (results_c rfl HH 3 rfl rfl rfl) rfl ⟨?_, HH.below rfl⟩); (first | rfl | (clear HH; simp_all))))

set_option maxRecDepth 100000 in
set_option maxHeartbeats 4000000 in
theorem over_walk (n : Int) (k0 s0 t0 k1 s1 t1 : Int) (a0 a1 u0 l0 u1 l1 : Int) (i0 o0 i1 o1 : Nat) (p0 p1 : ByteArray) (c0 c1 x0 y0 x1 y1 : Int) (f0 g0 f1 g1 : Nat) (q0 q1 : ByteArray) (br bq : Bool) (hr : Gives 17 #[.agg #[.int .i64 n, .int .i64 k0, .int .i64 s0, .int .i64 t0, .int .i64 k1, .int .i64 s1, .int .i64 t1], .agg #[.int .i64 a0, .int .i64 a1, .int .i64 u0, .int .i64 l0, .int .u64 (i0 : Int), .int .u64 (o0 : Int), .string p0, .int .i64 u1, .int .i64 l1, .int .u64 (i1 : Int), .int .u64 (o1 : Int), .string p1]] (.bool br)) (hq : Gives 17 #[.agg #[.int .i64 n, .int .i64 k0, .int .i64 s0, .int .i64 t0, .int .i64 k1, .int .i64 s1, .int .i64 t1], .agg #[.int .i64 c0, .int .i64 c1, .int .i64 x0, .int .i64 y0, .int .u64 (f0 : Int), .int .u64 (g0 : Int), .string q0, .int .i64 x1, .int .i64 y1, .int .u64 (f1 : Int), .int .u64 (g1 : Int), .string q1]] (.bool bq)) (u : Px) (hu : Gives 146 #[.agg #[.int .i64 n, .int .i64 k0, .int .i64 s0, .int .i64 t0, .int .i64 k1, .int .i64 s1, .int .i64 t1], .agg #[.int .i64 c0, .int .i64 c1, .int .i64 x0, .int .i64 y0, .int .u64 (f0 : Int), .int .u64 (g0 : Int), .string q0, .int .i64 x1, .int .i64 y1, .int .u64 (f1 : Int), .int .u64 (g1 : Int), .string q1], .agg #[.int .i64 a0, .int .i64 a1]] u.v) (w : World) : Calls Tryz.prog 136 #[.agg #[.int .i64 n, .int .i64 k0, .int .i64 s0, .int .i64 t0, .int .i64 k1, .int .i64 s1, .int .i64 t1], .agg #[.int .i64 a0, .int .i64 a1, .int .i64 u0, .int .i64 l0, .int .u64 (i0 : Int), .int .u64 (o0 : Int), .string p0, .int .i64 u1, .int .i64 l1, .int .u64 (i1 : Int), .int .u64 (o1 : Int), .string p1], .agg #[.int .i64 c0, .int .i64 c1, .int .i64 x0, .int .i64 y0, .int .u64 (f0 : Int), .int .u64 (g0 : Int), .string q0, .int .i64 x1, .int .i64 y1, .int .u64 (f1 : Int), .int .u64 (g1 : Int), .string q1]] w fun e w' => e = .returned (.bool (br && (bq && (decide (a0 ≥ c0) && (decide (a1 ≥ c1) && samePx a0 a1 u0 l0 i0 o0 p0 u1 l1 i1 o1 p1 u.a0 u.a1 u.k0.k u.k0.l u.k0.hi u.k0.lo u.k0.p u.k1.k u.k1.l u.k1.hi u.k1.lo u.k1.p))))) ∧ Below w.heap.size w w' := by
  have HR := hr
  have HQ := hq
  have HU := hu
  clear hr hq hu
  cases br <;> cases bq
  all_goals (
    have HH := Hp.nil w
    go_enter Tryz.func136, Tryz.ntmps136
    go_wp2_with (first | ((with_reducible show zW (Op.box _ _)); refine wpl_box HH rfl rfl rfl ?_; clear HH; intro b V HH; simp only [Act.eval, zx, Value.cells, putl, zC, zB] at HH; (try simp only [Act.put, zz])) | ((with_reducible show Code.wp _ (Code.region _ _ true) _ _ _); (refine wp_tail_Hp (id := 1) [0, 1, 2, 3, 4, 5, 6, 7, 8, 9, 10, 11, 12, 13, 14, 15, 16, 17, 18, 19, 20, 21, 22, 23, 24, 25, 26, 27, 28, 29, 30, 31, 32, 33, 34, 35] [] (by kernel_rfl) HH ?_; clear HH; (try dsimp only); (try simp only [pick, zy]); repeat' (first | ((with_reducible show wpB _ _ _ _ [] _); refine wpB_nil ?_; intro V HH; (try simp only [pick, zy]); (try simp only [Act.put, zz]); (try simp only [Value.cells] at HH)) | ((first | ((with_reducible show zU _); (first | ((with_reducible show zT (Op.move _)); refine wpB_move rfl rfl rfl ?_) | ((with_reducible show zT (Op.assign _)); refine wpB_assign rfl rfl rfl ?_) | ((with_reducible show zT (Op.load _ _)); (first | refine wpB_load 1 rfl rfl rfl rfl rfl ?_ | refine wpB_load 2 rfl rfl rfl rfl rfl ?_)) | ((with_reducible show zT (Op.call _)); (refine wpB_call rfl (HR) ?_ ?_; (focus (intro w9 hS9; go_simp; done)))) | ((with_reducible show zT (Op.pick _ _ _)); (refine wpB_bool (p := ?_) rfl ?_ ?_ ?_; rotate_left; (focus (intro w9 hS9; go_simp; with_reducible rfl)); all_goals (intro hq; (try (contradiction))))))) | ((with_reducible show zV _); (first | (refine wpB_skip (by simp only [Region.wanted, yielded, zy, Option.bind_some]; decide) ?_) | ((with_reducible show zT (Op.load _ _)); (first | refine wpB_load 0 rfl rfl rfl (by simp only [Region.wanted, yielded, zy, Option.bind_some]; decide) rfl ?_ | refine wpB_load 1 rfl rfl rfl (by simp only [Region.wanted, yielded, zy, Option.bind_some]; decide) rfl ?_ | refine wpB_load 2 rfl rfl rfl (by simp only [Region.wanted, yielded, zy, Option.bind_some]; decide) rfl ?_)) | ((with_reducible show zT (Op.call _)); (first | (refine wpB_call (by simp only [Region.wanted, yielded, zy, Option.bind_some]; decide) (HQ) ?_ ?_; (focus (intro w9 hS9; go_simp; done))) | (refine wpB_call (by simp only [Region.wanted, yielded, zy, Option.bind_some]; decide) (HU) ?_ ?_; (focus (intro w9 hS9; go_simp; done))))) | ((with_reducible show zT (Op.binOp BinOp.eql 34 _ _ _)); refine wpB_eq34 rfl (by simp only [Region.wanted, yielded, zy, Option.bind_some]; decide) rfl rfl ?_ ?_; all_goals (intro hq)) | ((with_reducible show zT (Op.binOp _ _ _ _ _)); (refine wpB_bool (p := ?_) (by simp only [Region.wanted, yielded, zy, Option.bind_some]; decide) ?_ ?_ ?_; rotate_left; (focus (intro w9 hS9; go_simp; with_reducible rfl)); all_goals (intro hq; (try (fail))))) | (refine wpB_val (v := ?_) (by simp only [Region.wanted, yielded, zy, Option.bind_some]; decide) ?_ ?_; rotate_left; (focus (intro w9 hS9; go_simp; all_goals (with_reducible rfl))))))); all_goals (try simp only [Act.put, zz, Act.eval, zx]))))))
    all_goals (clear HR HQ HU)
    all_goals (go_ret; refine ⟨?_, HH.below rfl⟩; (rfl)))

theorem height_gives {ok : ByteArray → Bool} {len : ByteArray → Int} {top : ByteArray → Int → ByteArray} (L : LabelFns ok len top) (s : Sp) (p : Px) (hp : p.ok) : Gives 18 #[s.v, p.v] (.int .i64 (if rightB ok len s p then wrap64 (p.a0 + p.a1) else 0)) := fun w =>
  height_walk _ _ _ _ _ _ _ _ _ _ _ _ _ _ _ _ _ _ _ _ (right_gives L s p hp) w
def orX (ok : ByteArray → Bool) (len : ByteArray → Int) (s : Sp) (p : Px) : Px := if rightB ok len s p then p else px0
theorem orNone_gives {ok : ByteArray → Bool} {len : ByteArray → Int} {top : ByteArray → Int → ByteArray} (L : LabelFns ok len top) (s : Sp) (p : Px) (hp : p.ok) : Gives 166 #[s.v, p.v] (.tuple #[(orX ok len s p).v, .bool (rightB ok len s p)]) := fun w => by
  have h := orNone_walk _ _ _ _ _ _ _ _ _ _ _ _ _ _ _ _ _ _ _ _ (right_gives L s p hp) w
  unfold orX
  cases b : rightB ok len s p <;> rw [b] at h <;> exact h
theorem ends_gives (s : Sp) : Gives 24 #[s.v] (.agg #[.int .i64 (topX s).a0, .int .i64 (topX s).a1]) := fun w => ends_walk _ _ _ _ _ _ _ _ (top_gives30 s) w
theorem top_bounds (s : Sp) : (0 ≤ (topX s).a0 ∧ (topX s).a0 ≤ 128) ∧ (0 ≤ (topX s).a1 ∧ (topX s).a1 ≤ 128) := by
  unfold topX
  split
  · exact ⟨depthI_le _ _ _, depthI_le _ _ _⟩
  · exact ⟨⟨by decide, by decide⟩, ⟨by decide, by decide⟩⟩
def countI (s : Sp) : Int := if soundB s then ((topX s).a0 + 1) * ((topX s).a1 + 1) else 0
theorem count_gives (s : Sp) : Gives 12 #[s.v] (.int .i64 (countI s)) := fun w =>
  count_walk _ _ _ _ _ _ _ _ (sound_gives s) _ _ (ends_gives s) (top_bounds s).1.1 (top_bounds s).2.1 (top_bounds s).1.2 (top_bounds s).2.2 w
theorem tall_gives (s : Sp) : Gives 142 #[s.v] (.int .i64 ((topX s).a0 + (topX s).a1)) := fun w =>
  tall_walk _ _ _ _ _ _ _ _ _ (ends_gives s) (top_bounds s).1.1 (top_bounds s).2.1 (top_bounds s).1.2 (top_bounds s).2.2 w
theorem orX_ok (ok : ByteArray → Bool) (len : ByteArray → Int) (s : Sp) (p : Px) (hp : p.ok) : (orX ok len s p).ok := by
  unfold orX
  split
  · exact hp
  · exact px0_ok
theorem dimCutK_ok (ok : ByteArray → Bool) (len : ByteArray → Int) (top : ByteArray → Int → ByteArray) (hs : ∀ p n, (top p n).size < 4294967281) (d : Dm) (n : Int) (x : Ky) : (dimCutK ok len top d n x).ok := by
  unfold dimCutK
  split
  · exact ky0_ok
  · exact CutK_ok _ _ _ hs _ _
def atX (ok : ByteArray → Bool) (len : ByteArray → Int) (top : ByteArray → Int → ByteArray) (s : Sp) (p : Px) (b0 b1 : Int) : Px := ⟨b0, b1, dimCutK ok len top s.d0 b0 p.k0, dimCutK ok len top s.d1 b1 p.k1⟩
theorem atX_ok (ok : ByteArray → Bool) (len : ByteArray → Int) (top : ByteArray → Int → ByteArray) (hs : ∀ p n, (top p n).size < 4294967281) (s : Sp) (p : Px) (b0 b1 : Int) : (atX ok len top s p b0 b1).ok := ⟨dimCutK_ok _ _ _ hs _ _ _, dimCutK_ok _ _ _ hs _ _ _⟩
def upX (ok : ByteArray → Bool) (len : ByteArray → Int) (top : ByteArray → Int → ByteArray) (s : Sp) (p : Px) (b0 b1 : Int) : Px :=
  if rightB ok len s p && (!decide (b0 < p.a0) && !decide (b1 < p.a1)) then orX ok len s (atX ok len top s p b0 b1) else px0
theorem upX_ok (ok : ByteArray → Bool) (len : ByteArray → Int) (top : ByteArray → Int → ByteArray) (hs : ∀ p n, (top p n).size < 4294967281) (s : Sp) (p : Px) (b0 b1 : Int) : (upX ok len top s p b0 b1).ok := by
  unfold upX
  split
  · exact orX_ok _ _ _ _ (atX_ok _ _ _ hs _ _ _ _)
  · exact px0_ok
theorem up_gives {ok : ByteArray → Bool} {len : ByteArray → Int} {top : ByteArray → Int → ByteArray} (L : LabelFns ok len top) (s : Sp) (p : Px) (hp : p.ok) (b0 b1 : Int) : Gives 146 #[s.v, p.v, .agg #[.int .i64 b0, .int .i64 b1]] (upX ok len top s p b0 b1).v := fun w =>
  up_walk _ _ _ _ _ _ _ _ _ _ _ _ _ _ _ _ _ _ _ _ _ _ (right_gives L s p hp) _ (dimCut_gives L s.d0 p.k0 hp.1 b0) _ (dimCut_gives L s.d1 p.k1 hp.2 b1) _ _ (orNone_gives L s (atX ok len top s p b0 b1) (atX_ok _ _ _ L.small _ _ _ _)) w
/-- Two prefixes are the same. -/
def Px.same (p q : Px) : Bool := samePx p.a0 p.a1 p.k0.k p.k0.l p.k0.hi p.k0.lo p.k0.p p.k1.k p.k1.l p.k1.hi p.k1.lo p.k1.p q.a0 q.a1 q.k0.k q.k0.l q.k0.hi q.k0.lo q.k0.p q.k1.k q.k1.l q.k1.hi q.k1.lo q.k1.p
def overB (ok : ByteArray → Bool) (len : ByteArray → Int) (top : ByteArray → Int → ByteArray) (s : Sp) (p q : Px) : Bool :=
  rightB ok len s p && (rightB ok len s q && (decide (p.a0 ≥ q.a0) && (decide (p.a1 ≥ q.a1) && p.same (upX ok len top s q p.a0 p.a1))))
theorem over_gives {ok : ByteArray → Bool} {len : ByteArray → Int} {top : ByteArray → Int → ByteArray} (L : LabelFns ok len top) (s : Sp) (p q : Px) (hp : p.ok) (hq : q.ok) : Gives 136 #[s.v, p.v, q.v] (.bool (overB ok len top s p q)) := fun w =>
  over_walk _ _ _ _ _ _ _ _ _ _ _ _ _ _ _ _ _ _ _ _ _ _ _ _ _ _ _ _ _ _ _ _ _ (right_gives L s p hp) (right_gives L s q hq) _ (up_gives L s q hq p.a0 p.a1) w

end Go.Proofs.YtcbahkfbdlhabaaGreatDoor
