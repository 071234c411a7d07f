/- Contracts of library functions, proved once in the kit, laid at this translation by its own tool. Conditions: as each says. -/
import Derived.Shelf.LaysM
import Derived.Shelf.Bytes.Len
import Derived.Shelf.Bytes.TryGrow
import Derived.Shelf.Bytes.GrowSliceCatch
import Derived.Shelf.Bytes.GrowSlice
import Derived.Shelf.Bytes.GrowRow0
import Derived.Shelf.Bytes.GrowRow
import Derived.Shelf.Bytes.GrowNil
import Derived.Shelf.Bytes.Grow
import Derived.Shelf.Bytes.WriteByte
import Derived.Shelf.Bytes.WriteString
import Derived.Shelf.Bytes.Write
import Derived.Shelf.Bytes.GrowRow0Kept
import Derived.Shelf.Bytes.GrowRowKept
import Derived.Shelf.Bytes.GrowNilKept
import Derived.Shelf.Bytes.GrowKept
import Derived.Shelf.Bytes.WriteByteKept
import Derived.Shelf.Bytes.WriteStringKept
import Derived.Shelf.Bytes.WriteKept
import Derived.Shelf.Bytes.LenAt
import Derived.Shelf.Bytes.TryGrowAt
import Derived.Shelf.Bytes.GrowRow0At
import Derived.Shelf.Bytes.GrowRowAt
import Derived.Shelf.Bytes.GrowNilAt
import Derived.Shelf.Bytes.GrowAt
import Derived.Shelf.Bytes.WriteByteAt
import Derived.Shelf.Bytes.WriteStringAt
import Derived.Shelf.Bytes.WriteAt
import Derived.Ground.Names2Prog
import Derived.Shelf.Slices.Clone
import Derived.Ground.SlbCloneProg
import Derived.Shelf.Bytes.SlClone
import Derived.Ground.SlbNamesProg
import Derived.Shelf.Bytes.SlJoin
import Derived.Test.YtnhnabcpkaeaaaaGreatDoorProg
import Derived.Test.YtnhnabcpkaeaaaaGreatDoorRows
import Derived.WalkKit
import Derived.WalkSpells
import Derived.WalkLawsBesides
import Derived.ProofKit
import Derived.OpenShut
import Derived.SizedLaws
import Derived.Carry
import Derived.OpenVars
import Derived.Deep.QuietTactic
import Derived.BigQuiet
import Derived.BigGuardPart
import Derived.Lib.Hide
import Derived.Lib.SmallJoins
import Derived.Deep.Slices
import Derived.Laws.AppendOwnNone
set_option linter.unusedVariables false
set_option linter.unusedSimpArgs false
namespace Go.Proofs
open Go.Shelf
def Tryz.laysM251_ren : Go.Shelf.Ren := ⟨fun | 251 => 137 | n => n, fun | 130 => 173 | 3 => 3 | 4 => 4 | 0 => 0 | 93 => 140 | 37 => 22 | 91 => 138 | 5 => 5 | n => n, fun | n => n⟩
theorem Tryz.laysM251 : Go.Proofs.LaysM.n251 Tryz.prog Tryz.laysM251_ren := {
  mixed := by kernel_rfl
  f251 := Tryz.func137.trans (congrArg some (by kernel_rfl))
  t0 := Tryz.underlying0
  a0 := Tryz.isAgg0
  z0 := Tryz.sizeOf0
  v0 := Tryz.zeroValue0
  t3 := Tryz.underlying3
  a3 := Tryz.isAgg3
  z3 := Tryz.sizeOf3
  v3 := Tryz.zeroValue3
  t4 := Tryz.underlying4
  a4 := Tryz.isAgg4
  z4 := Tryz.sizeOf4
  v4 := Tryz.zeroValue4
  t37 := Tryz.underlying22
  a37 := Tryz.isAgg22
  z37 := Tryz.sizeOf22
  v37 := Tryz.zeroValue22
  t93 := Tryz.underlying140
  a93 := Tryz.isAgg140
  z93 := Tryz.sizeOf140
  v93 := Tryz.zeroValue140
  t130 := Tryz.underlying173
  a130 := Tryz.isAgg173
  z130 := Tryz.sizeOf173
  v130 := Tryz.zeroValue173
  t5 := Tryz.underlying5
  a5 := Tryz.isAgg5
  z5 := Tryz.sizeOf5
  v5 := Tryz.zeroValue5
  t91 := Tryz.underlying138
  a91 := Tryz.isAgg138
  z91 := Tryz.sizeOf138
  v91 := Tryz.zeroValue138
  i0 := by kernel_rfl
  i3 := by kernel_rfl
  i4 := by kernel_rfl
  i5 := by kernel_rfl
  i37 := by kernel_rfl
  i91 := by kernel_rfl
  i93 := by kernel_rfl
  i130 := by kernel_rfl }
def Tryz.laysM179_ren : Go.Shelf.Ren := ⟨fun | 179 => 117 | 251 => 137 | 252 => 138 | 181 => 145 | 184 => 146 | 290 => 147 | 324 => 152 | n => n, fun | 130 => 173 | 5 => 5 | 75 => 166 | 0 => 0 | 93 => 140 | 91 => 138 | 3 => 3 | 131 => 185 | 4 => 4 | 37 => 22 | 20 => 20 | 80 => 176 | 9 => 9 | n => n, fun | 14 => 1 | n => n⟩
theorem Tryz.laysM179 : Go.Proofs.LaysM.n179 Tryz.prog Tryz.laysM179_ren := {
  mixed := by kernel_rfl
  f179 := Tryz.func117.trans (congrArg some (by kernel_rfl))
  f181 := Tryz.func145.trans (congrArg some (by kernel_rfl))
  f184 := Tryz.func146.trans (congrArg some (by kernel_rfl))
  f251 := Tryz.func137.trans (congrArg some (by kernel_rfl))
  f252 := Tryz.func138.trans (congrArg some (by kernel_rfl))
  f290 := Tryz.func147.trans (congrArg some (by kernel_rfl))
  f324 := Tryz.func152.trans (congrArg some (by kernel_rfl))
  t0 := Tryz.underlying0
  a0 := Tryz.isAgg0
  z0 := Tryz.sizeOf0
  v0 := Tryz.zeroValue0
  t3 := Tryz.underlying3
  a3 := Tryz.isAgg3
  z3 := Tryz.sizeOf3
  v3 := Tryz.zeroValue3
  t4 := Tryz.underlying4
  a4 := Tryz.isAgg4
  z4 := Tryz.sizeOf4
  v4 := Tryz.zeroValue4
  t5 := Tryz.underlying5
  a5 := Tryz.isAgg5
  z5 := Tryz.sizeOf5
  v5 := Tryz.zeroValue5
  t20 := Tryz.underlying20
  a20 := Tryz.isAgg20
  z20 := Tryz.sizeOf20
  v20 := Tryz.zeroValue20
  t37 := Tryz.underlying22
  a37 := Tryz.isAgg22
  z37 := Tryz.sizeOf22
  v37 := Tryz.zeroValue22
  t75 := Tryz.underlying166
  a75 := Tryz.isAgg166
  z75 := Tryz.sizeOf166
  v75 := Tryz.zeroValue166
  t91 := Tryz.underlying138
  a91 := Tryz.isAgg138
  z91 := Tryz.sizeOf138
  v91 := Tryz.zeroValue138
  t93 := Tryz.underlying140
  a93 := Tryz.isAgg140
  z93 := Tryz.sizeOf140
  v93 := Tryz.zeroValue140
  t130 := Tryz.underlying173
  a130 := Tryz.isAgg173
  z130 := Tryz.sizeOf173
  v130 := Tryz.zeroValue173
  t131 := Tryz.underlying185
  a131 := Tryz.isAgg185
  z131 := Tryz.sizeOf185
  v131 := Tryz.zeroValue185
  g14 := by kernel_rfl
  t9 := Tryz.underlying9
  a9 := Tryz.isAgg9
  z9 := Tryz.sizeOf9
  v9 := Tryz.zeroValue9
  t80 := Tryz.underlying176
  a80 := Tryz.isAgg176
  z80 := Tryz.sizeOf176
  v80 := Tryz.zeroValue176
  i0 := by kernel_rfl
  i3 := by kernel_rfl
  i4 := by kernel_rfl
  i5 := by kernel_rfl
  i9 := by kernel_rfl
  i20 := by kernel_rfl
  i37 := by kernel_rfl
  i75 := by kernel_rfl
  i80 := by kernel_rfl
  i91 := by kernel_rfl
  i93 := by kernel_rfl
  i130 := by kernel_rfl
  i131 := by kernel_rfl
  m14 := by kernel_rfl }
def Tryz.laysM178_ren : Go.Shelf.Ren := ⟨fun | 178 => 148 | 251 => 137 | 252 => 138 | 181 => 145 | 184 => 146 | 290 => 147 | 324 => 152 | n => n, fun | 130 => 173 | 9 => 9 | 3 => 3 | 75 => 166 | 0 => 0 | 93 => 140 | 91 => 138 | 131 => 185 | 4 => 4 | 37 => 22 | 20 => 20 | 80 => 176 | 5 => 5 | n => n, fun | 14 => 1 | n => n⟩
theorem Tryz.laysM178 : Go.Proofs.LaysM.n178 Tryz.prog Tryz.laysM178_ren := {
  mixed := by kernel_rfl
  f178 := Tryz.func148.trans (congrArg some (by kernel_rfl))
  f181 := Tryz.func145.trans (congrArg some (by kernel_rfl))
  f184 := Tryz.func146.trans (congrArg some (by kernel_rfl))
  f251 := Tryz.func137.trans (congrArg some (by kernel_rfl))
  f252 := Tryz.func138.trans (congrArg some (by kernel_rfl))
  f290 := Tryz.func147.trans (congrArg some (by kernel_rfl))
  f324 := Tryz.func152.trans (congrArg some (by kernel_rfl))
  t0 := Tryz.underlying0
  a0 := Tryz.isAgg0
  z0 := Tryz.sizeOf0
  v0 := Tryz.zeroValue0
  t3 := Tryz.underlying3
  a3 := Tryz.isAgg3
  z3 := Tryz.sizeOf3
  v3 := Tryz.zeroValue3
  t4 := Tryz.underlying4
  a4 := Tryz.isAgg4
  z4 := Tryz.sizeOf4
  v4 := Tryz.zeroValue4
  t9 := Tryz.underlying9
  a9 := Tryz.isAgg9
  z9 := Tryz.sizeOf9
  v9 := Tryz.zeroValue9
  t20 := Tryz.underlying20
  a20 := Tryz.isAgg20
  z20 := Tryz.sizeOf20
  v20 := Tryz.zeroValue20
  t37 := Tryz.underlying22
  a37 := Tryz.isAgg22
  z37 := Tryz.sizeOf22
  v37 := Tryz.zeroValue22
  t75 := Tryz.underlying166
  a75 := Tryz.isAgg166
  z75 := Tryz.sizeOf166
  v75 := Tryz.zeroValue166
  t91 := Tryz.underlying138
  a91 := Tryz.isAgg138
  z91 := Tryz.sizeOf138
  v91 := Tryz.zeroValue138
  t93 := Tryz.underlying140
  a93 := Tryz.isAgg140
  z93 := Tryz.sizeOf140
  v93 := Tryz.zeroValue140
  t130 := Tryz.underlying173
  a130 := Tryz.isAgg173
  z130 := Tryz.sizeOf173
  v130 := Tryz.zeroValue173
  t131 := Tryz.underlying185
  a131 := Tryz.isAgg185
  z131 := Tryz.sizeOf185
  v131 := Tryz.zeroValue185
  g14 := by kernel_rfl
  t5 := Tryz.underlying5
  a5 := Tryz.isAgg5
  z5 := Tryz.sizeOf5
  v5 := Tryz.zeroValue5
  t80 := Tryz.underlying176
  a80 := Tryz.isAgg176
  z80 := Tryz.sizeOf176
  v80 := Tryz.zeroValue176
  i0 := by kernel_rfl
  i3 := by kernel_rfl
  i4 := by kernel_rfl
  i5 := by kernel_rfl
  i9 := by kernel_rfl
  i20 := by kernel_rfl
  i37 := by kernel_rfl
  i75 := by kernel_rfl
  i80 := by kernel_rfl
  i91 := by kernel_rfl
  i93 := by kernel_rfl
  i130 := by kernel_rfl
  i131 := by kernel_rfl
  m14 := by kernel_rfl }
def Tryz.laysM180_ren : Go.Shelf.Ren := ⟨fun | 180 => 121 | 251 => 137 | 252 => 138 | 181 => 145 | 184 => 146 | 290 => 147 | 324 => 152 | n => n, fun | 130 => 173 | 37 => 22 | 3 => 3 | 75 => 166 | 0 => 0 | 93 => 140 | 91 => 138 | 131 => 185 | 4 => 4 | 20 => 20 | 5 => 5 | 80 => 176 | 9 => 9 | n => n, fun | 14 => 1 | n => n⟩
theorem Tryz.laysM180 : Go.Proofs.LaysM.n180 Tryz.prog Tryz.laysM180_ren := {
  mixed := by kernel_rfl
  f180 := Tryz.func121.trans (congrArg some (by kernel_rfl))
  f181 := Tryz.func145.trans (congrArg some (by kernel_rfl))
  f184 := Tryz.func146.trans (congrArg some (by kernel_rfl))
  f251 := Tryz.func137.trans (congrArg some (by kernel_rfl))
  f252 := Tryz.func138.trans (congrArg some (by kernel_rfl))
  f290 := Tryz.func147.trans (congrArg some (by kernel_rfl))
  f324 := Tryz.func152.trans (congrArg some (by kernel_rfl))
  t0 := Tryz.underlying0
  a0 := Tryz.isAgg0
  z0 := Tryz.sizeOf0
  v0 := Tryz.zeroValue0
  t3 := Tryz.underlying3
  a3 := Tryz.isAgg3
  z3 := Tryz.sizeOf3
  v3 := Tryz.zeroValue3
  t4 := Tryz.underlying4
  a4 := Tryz.isAgg4
  z4 := Tryz.sizeOf4
  v4 := Tryz.zeroValue4
  t20 := Tryz.underlying20
  a20 := Tryz.isAgg20
  z20 := Tryz.sizeOf20
  v20 := Tryz.zeroValue20
  t37 := Tryz.underlying22
  a37 := Tryz.isAgg22
  z37 := Tryz.sizeOf22
  v37 := Tryz.zeroValue22
  t75 := Tryz.underlying166
  a75 := Tryz.isAgg166
  z75 := Tryz.sizeOf166
  v75 := Tryz.zeroValue166
  t91 := Tryz.underlying138
  a91 := Tryz.isAgg138
  z91 := Tryz.sizeOf138
  v91 := Tryz.zeroValue138
  t93 := Tryz.underlying140
  a93 := Tryz.isAgg140
  z93 := Tryz.sizeOf140
  v93 := Tryz.zeroValue140
  t130 := Tryz.underlying173
  a130 := Tryz.isAgg173
  z130 := Tryz.sizeOf173
  v130 := Tryz.zeroValue173
  t131 := Tryz.underlying185
  a131 := Tryz.isAgg185
  z131 := Tryz.sizeOf185
  v131 := Tryz.zeroValue185
  g14 := by kernel_rfl
  t5 := Tryz.underlying5
  a5 := Tryz.isAgg5
  z5 := Tryz.sizeOf5
  v5 := Tryz.zeroValue5
  t9 := Tryz.underlying9
  a9 := Tryz.isAgg9
  z9 := Tryz.sizeOf9
  v9 := Tryz.zeroValue9
  t80 := Tryz.underlying176
  a80 := Tryz.isAgg176
  z80 := Tryz.sizeOf176
  v80 := Tryz.zeroValue176
  i0 := by kernel_rfl
  i3 := by kernel_rfl
  i4 := by kernel_rfl
  i5 := by kernel_rfl
  i9 := by kernel_rfl
  i20 := by kernel_rfl
  i37 := by kernel_rfl
  i75 := by kernel_rfl
  i80 := by kernel_rfl
  i91 := by kernel_rfl
  i93 := by kernel_rfl
  i130 := by kernel_rfl
  i131 := by kernel_rfl
  m14 := by kernel_rfl }
open Go.RowKit in
theorem Tryz.Buffer_tryGrow_at (T : TypeId) (R : Nat → Option Value) (B b q n : Nat) (bs : List Value) (w : World) (h : LibA.IsBuffer T R 5 B b q bs w) :
    Calls Tryz.prog 137 #[.pointer (some ⟨b, q, none⟩), .int .i64 n] w fun e w' =>
      (e = .returned (.tuple #[.int .i64 bs.length, .bool true]) ∧ ∃ xs, xs.length = n ∧ LibA.IsBuffer T R 5 B b q (bs ++ xs) w' ∧ Below B w w' ∧ Lib.OthersKept 5 (some b) w w' ∧ w.grownBy w' (some b)) ∨
      (e = .returned (.tuple #[.int .i64 0, .bool false]) ∧ w' = w ∧ LibA.NoRoom b q n w) := Any.Buffer_tryGrow_at Tryz.laysM251 T R B b q n bs w h
open Go.RowKit in
theorem Tryz.Buffer_WriteByte_at (T : TypeId) (R : Nat → Option Value) (B b q : Nat) (bs : List Value) (c : Int) (w : World) (h : LibA.IsBuffer T R 5 B b q bs w) (hBw : B ≤ w.heap.size) (h1 : ∀ v ∈ bs, v.oneCell' = true) (hlim : bs.length + 1 ≤ 140737488355328) :
    Calls Tryz.prog 117 #[.pointer (some ⟨b, q, none⟩), .int .u8 c] w fun e w' => e = .returned .nilIface ∧ LibA.IsBuffer T R 5 B b q (bs ++ [.int .u8 c]) w' ∧ Below B w w' ∧ Lib.OthersKept 5 (some b) w w' := Any.Buffer_WriteByte_at Tryz.laysM179 T R B b q bs c w h hBw h1 hlim
open Go.RowKit in
theorem Tryz.Buffer_WriteString_at (T : TypeId) (R : Nat → Option Value) (B b q : Nat) (bs : List Value) (s : ByteArray) (w : World) (h : LibA.IsBuffer T R 5 B b q bs w) (hBw : B ≤ w.heap.size) (h1 : ∀ v ∈ bs, v.oneCell' = true) (hlim : bs.length + s.size ≤ 140737488355328) :
    Calls Tryz.prog 148 #[.pointer (some ⟨b, q, none⟩), .string s] w fun e w' => e = .returned (.tuple #[.int .i64 s.size, .nilIface]) ∧ LibA.IsBuffer T R 5 B b q (bs ++ Lib.byteCells s.data.toList) w' ∧ Below B w w' ∧ Lib.OthersKept 5 (some b) w w' := Any.Buffer_WriteString_at Tryz.laysM178 T R B b q bs s w h hBw h1 hlim
open Go.RowKit in
theorem Tryz.Buffer_Write_at (T : TypeId) (R : Nat → Option Value) (B b q : Nat) (bs cs : List Value) (a : Addr) (n c : Nat) (w : World) (h : LibA.IsBuffer T R 5 B b q bs w) (hBw : B ≤ w.heap.size) (h1 : ∀ v ∈ bs, v.oneCell' = true) (hn : cs.length = n) (hab : a.block ≠ b) (hsrc : ∀ j v, cs[j]? = some v → w.cell? (a.add j) = some v) (h1c : ∀ v ∈ cs, v.oneCell' = true) (hlim : bs.length + n ≤ 140737488355328) :
    Calls Tryz.prog 121 #[.pointer (some ⟨b, q, none⟩), .slice (some a) n c] w fun e w' => e = .returned (.tuple #[.int .i64 n, .nilIface]) ∧ LibA.IsBuffer T R 5 B b q (bs ++ cs) w' ∧ Below B w w' ∧ Lib.OthersKept 5 (some b) w w' := Any.Buffer_Write_at Tryz.laysM180 T R B b q bs cs a n c w h hBw h1 hn hab hsrc h1c hlim
def Tryz.laysSlJ14_ren : Go.Shelf.Ren := ⟨fun | 14 => 114 | 15 => 136 | n => n, fun | 26 => 102 | 22 => 22 | 3 => 3 | 4 => 4 | 0 => 0 | 9 => 9 | 20 => 20 | 5 => 5 | n => n, fun | n => n⟩
theorem Tryz.laysSlJ14 : Go.Proofs.SlLaysJ.n14 Tryz.prog Tryz.laysSlJ14_ren := {
  mixed := by kernel_rfl
  f14 := Tryz.func114.trans (congrArg some (by kernel_rfl))
  f15 := Tryz.func136.trans (congrArg some (by kernel_rfl))
  t0 := Tryz.underlying0
  a0 := Tryz.isAgg0
  z0 := Tryz.sizeOf0
  v0 := Tryz.zeroValue0
  t3 := Tryz.underlying3
  a3 := Tryz.isAgg3
  z3 := Tryz.sizeOf3
  v3 := Tryz.zeroValue3
  t4 := Tryz.underlying4
  a4 := Tryz.isAgg4
  z4 := Tryz.sizeOf4
  v4 := Tryz.zeroValue4
  t9 := Tryz.underlying9
  a9 := Tryz.isAgg9
  z9 := Tryz.sizeOf9
  v9 := Tryz.zeroValue9
  t20 := Tryz.underlying20
  a20 := Tryz.isAgg20
  z20 := Tryz.sizeOf20
  v20 := Tryz.zeroValue20
  t22 := Tryz.underlying22
  a22 := Tryz.isAgg22
  z22 := Tryz.sizeOf22
  v22 := Tryz.zeroValue22
  t26 := Tryz.underlying102
  a26 := Tryz.isAgg102
  z26 := Tryz.sizeOf102
  v26 := Tryz.zeroValue102
  t5 := Tryz.underlying5
  z5 := Tryz.sizeOf5
  i5 := by kernel_rfl }
open Go.RowKit Go.Lib in
theorem Tryz.bytes_Join_many (b o n c : Nat) (vs : List Value) (ls : List (List UInt8)) (sv : Value) (sep : List UInt8) (w : World) (hn : ls.length = n) (h2 : 2 ≤ n) (hP : Lib.PartsAt w ⟨b, o, none⟩ vs ls) (hcap : n ≤ c) (hS : Lib.HoldsBytes w sv sep) (hn47 : n ≤ 140737488355328) (hlen : Lib.lens ls + sep.length * (n - 1) ≤ 140737488355328) :
    Calls Tryz.prog 114 #[.slice (some ⟨b, o, none⟩) n c, sv] w fun e w' => ∃ v', e = .returned v' ∧ Lib.FreshBytes w.heap.size w' v' (Lib.join ls sep) ∧ Below w.heap.size w w' := Any.bytes_Join_many Tryz.laysSlJ14 b o n c vs ls sv sep w hn h2 hP hcap hS hn47 hlen
open Go.RowKit Go.Lib in
theorem Tryz.bytes_Join_none (p : Option Addr) (c : Nat) (sv : Value) (w : World) :
    Calls Tryz.prog 114 #[.slice p 0 c, sv] w fun e w' => e = .returned (.slice (some ⟨w.heap.size, 0, none⟩) 0 0) ∧ w' = w.alloc (.cells #[] 5) := Any.bytes_Join_none Tryz.laysSlJ14 p c sv w
open Go.RowKit Go.Lib in
theorem Tryz.bytes_Join_one (b o c : Nat) (ad0 : Addr) (c0 : Nat) (l0 : List UInt8) (sv : Value) (w : World) (hcell : w.cell? ⟨b, o, none⟩ = some (.slice (some ad0) l0.length c0)) (hc : ∀ (i : Nat) x, l0[i]? = some x → w.cell? (ad0.add i) = some (.int .u8 (x.toNat : Int))) (h0 : 0 < l0.length) (hs : l0.length ≤ 140737488355328) :
    Calls Tryz.prog 114 #[.slice (some ⟨b, o, none⟩) 1 c, sv] w fun e w' => ∃ v', e = .returned v' ∧ Lib.FreshBytes w.heap.size w' v' l0 ∧ Below w.heap.size w w' := Any.bytes_Join_one Tryz.laysSlJ14 b o c ad0 c0 l0 sv w hcell hc h0 hs
open Go.RowKit Go.Lib in
theorem Tryz.bytes_Join_one_empty (b o c : Nat) (p0 : Option Addr) (c0 : Nat) (sv : Value) (w : World) (hcell : w.cell? ⟨b, o, none⟩ = some (.slice p0 0 c0)) :
    Calls Tryz.prog 114 #[.slice (some ⟨b, o, none⟩) 1 c, sv] w fun e w' => e = .returned (.slice none 0 0) ∧ w' = w := Any.bytes_Join_one_empty Tryz.laysSlJ14 b o c p0 c0 sv w hcell
end Go.Proofs
/- Small laws over any program that all texts of this seat use: equations of endings, a callee that reads alone, and the end of a law's proof: nothing that was there is changed, and true is returned, so the row's post holds. -/
namespace Go.Proofs.YtnhnabcpkaeaaaaGreatDoor
open Go.RowKit Go.ChangeShapes Go.WideShapes Go.ChangeAt
theorem ret_int {k : IntKind} {a b : Int} (h : a = b) : Ending.returned (.int k a) = .returned (.int k b) := by rw [h]
theorem ret_bool {a b : Bool} (h : a = b) : Ending.returned (.bool a) = .returned (.bool b) := by rw [h]
theorem trodAll_below {H : Type} {enc : TypeId × Value → H} {P : Program} (hl : laidOutB P = true) {W W' : World} (hb : Below W.heap.size W W') :
    ∀ {ts : List TypeId} {vs : List Value} {ds : List (DataW H)} {ps : List MemPlace}, (ts.all fun t => P.readableRec t && decide (t < P.types.size)) = true →
      DataW.TrodAll enc P W 0 (fun _ => true) true ts vs ds ps → (∀ x ∈ ps, x.block < W.heap.size) → DataW.TrodAll enc P W' 0 (fun b => decide (b < W.heap.size)) true ts vs ds ps
  | [], [], [], _, _, h, _ => h
  | [], _ :: _, _, _, _, h, _ => h.elim
  | [], [], _ :: _, _, _, h, _ => h.elim
  | _ :: _, [], _, _, _, h, _ => h.elim
  | _ :: _, _ :: _, [], _, _, h, _ => h.elim
  | t :: ts, v :: vs, d :: ds, ps, ht, h, hlt => by
    obtain ⟨p, q, h1, h2, rfl⟩ := h
    simp only [List.all_cons, Bool.and_eq_true, decide_eq_true_eq] at ht
    exact ⟨p, q, Below.trod hl ht.1.1 ht.1.2 h1 hb (fun x hx => hlt x (List.mem_append_left _ hx)), trodAll_below hl hb ht.2 h2 (fun x hx => hlt x (List.mem_append_right _ hx)), rfl⟩
/-- The post of a law's row: true is returned, and nothing that was there is changed. -/
theorem law_post {H : Type} {enc : TypeId × Value → H} {P : Program} {f : Func} {s : ChangeSpec} {W W' : World} {args : Array Value} {ds gs : List (DataW H)} {before : List MemPlace} {tb : TypeId}
    (hl : laidOutB P = true) (hts : (f.params.toList.all fun t => P.readableRec t && decide (t < P.types.size)) = true) (hvs : varsRowed P s.vars = true) (hrt : f.resultTypes = #[tb]) (htb : P.underlying tb = some .bool)
    (hres : (s.fn H (ds ++ gs)).results = [.lit (.bool true)]) (hargs : (s.fn H (ds ++ gs)).args = ds) (hvars : (s.fn H (ds ++ gs)).vars = gs)
    (hW : DataW.Whole enc P f.params.toList s.vars false W args.toList ds gs before) (hb : Below W.heap.size W W') :
    s.post enc P f false true false false W args (.bool true) W' := by
  have hW' := hW
  obtain ⟨p, q, hA, hV, rfl, _, _⟩ := hW
  have hlt : ∀ x ∈ p ++ q, x.block < W.heap.size := fun x hx => hW'.lt x hx
  refine ⟨ds, gs, p ++ q, [], p, q, hW', ?_, ?_, ?_, hb.frame _, fun h => by cases h⟩
  · rw [hres, hrt]
    exact trodAll_cons_mk (shut_bool htb _) trodAll_mk0
  · rw [hargs]
    exact trodAll_below hl hb hts hA (fun x hx => hlt x (List.mem_append_left _ hx))
  · rw [hvars]
    exact Below.trodVars hl hb hvs hV
/-! ### A region that draws its order, whose operations read and whose callees make memory at most: one walk in the order of the text, over the worlds that are as W0 was below block B. -/
def Calm (B : Nat) (W0 : World) := { w' : World // Below B W0 w' }
instance {B : Nat} {W0 : World} : Nonempty (Calm B W0) := ⟨⟨W0, Below.refl _ _⟩⟩
theorem wp_region_calm {P : Program} {B : Nat} {W0 : World} {id : Nat} {Q : Exit → Act → World → Prop} {a : Act} {w : World} {l : List Oper} (hw : Below B W0 w) (hm : P.follows .mixedOrders = true) (hB : Region.lexB .any l.toArray = true)
    (h : wpQuiet P l.toArray (fun w' => ∃ x : Calm B W0, w' = x.1) (fun a' => ∀ w1, Below B W0 w1 → Q .normal a' w1) l a) : (Code.region id l.toArray true).wp P Q a w := by
  refine wp_region_quiet (C := fun w' => ∃ x : Calm B W0, w' = x.1) hm hB ⟨⟨_, hw.drew⟩, rfl⟩ ?_
  have e : (fun a' => ∀ w', (∃ x : Calm B W0, w' = x.1) → Q .normal a' w') = (fun a' => ∀ w1, Below B W0 w1 → Q .normal a' w1) := by
    funext a'
    exact propext ⟨fun h w1 hb => h w1 ⟨⟨w1, hb⟩, rfl⟩, fun h w' ⟨x, hx⟩ => hx ▸ h x.1 x.2⟩
  rw [e]
  simpa using h
theorem Calm.cell {B : Nat} {W0 : World} (x : Calm B W0) {b o : Nat} {v : Value} (h : W0.cell? ⟨b, o, none⟩ = some v) (hb : b < B) : x.1.cell? ⟨b, o, none⟩ = some v := by
  rw [x.2.cell hb]; exact h
theorem Calm.call {P : Program} {f : FuncId} {args : Array Value} {B : Nat} {W0 : World} {x : Calm B W0} {v : Value} (hB : B ≤ W0.heap.size)
    (h : Calls P f args x.1 fun e w' => e = .returned v ∧ Below x.1.heap.size x.1 w') : Calls P f args x.1 fun e w'' => e = .returned v ∧ ∃ y : Calm B W0, w'' = y.1 :=
  h.mono fun _ w' ⟨he, hb⟩ => ⟨he, ⟨w', x.2.trans (hb.mono (Nat.le_trans hB x.2.size))⟩, rfl⟩
end Go.Proofs.YtnhnabcpkaeaaaaGreatDoor
/- Rows of things in memory, each of so many cells, which may themselves hold rows: read below a block's number, or owned. Conditions: the cells lie as the reading says. -/
namespace Go.Proofs.YtnhnabcpkaeaaaaGreatDoor
open Go.RowKit
/-- The things xs, each of k cells, lie behind the slice's address, in a block below B; what hangs on them as 'sub' says. -/
def RowsIn {α : Type} (k : Nat) (cells : α → List Value) (sub : World → Nat → α → Prop) (w : World) (B : Nat) (ao : Option Addr) (xs : List α) : Prop :=
  xs = [] ∨ ∃ b off, ao = some ⟨b, off, none⟩ ∧ b < B ∧ ∀ (i : Nat) (x : α), xs[i]? = some x → (∀ j, j < k → w.cell? ⟨b, off + i * k + j, none⟩ = (cells x)[j]?) ∧ sub w B x
/-- What hangs on a thing is kept wherever nothing below B is changed. -/
def Kept {α : Type} (sub : World → Nat → α → Prop) : Prop := ∀ w w' B B' x, sub w B x → Below B' w w' → B ≤ B' → sub w' B x
def Rising {α : Type} (sub : World → Nat → α → Prop) : Prop := ∀ w B B' x, sub w B x → B ≤ B' → sub w B' x
theorem RowsIn.below {α : Type} {k : Nat} {cells : α → List Value} {sub : World → Nat → α → Prop} (hs : Kept sub) {w w' : World} {B B' : Nat} {ao : Option Addr} {xs : List α} (h : RowsIn k cells sub w B ao xs) (hb : Below B' w w') (hB : B ≤ B') : RowsIn k cells sub w' B ao xs := by
  rcases h with h | ⟨b, off, h1, h2, h3⟩
  · exact Or.inl h
  · refine Or.inr ⟨b, off, h1, h2, fun i x hx => ⟨fun j hj => ?_, hs _ _ _ _ _ (h3 i x hx).2 hb hB⟩⟩
    rw [hb.cell (p := ⟨b, _, none⟩) (by show b < B'; omega)]; exact (h3 i x hx).1 j hj
theorem RowsIn.mono {α : Type} {k : Nat} {cells : α → List Value} {sub : World → Nat → α → Prop} (hs : Rising sub) {w : World} {B B' : Nat} {ao : Option Addr} {xs : List α} (h : RowsIn k cells sub w B ao xs) (hB : B ≤ B') : RowsIn k cells sub w B' ao xs := by
  rcases h with h | ⟨b, off, h1, h2, h3⟩
  · exact Or.inl h
  · exact Or.inr ⟨b, off, h1, by omega, fun i x hx => ⟨(h3 i x hx).1, hs _ _ _ _ (h3 i x hx).2 hB⟩⟩
theorem RowsIn.at {α : Type} {k : Nat} {cells : α → List Value} {sub : World → Nat → α → Prop} {w : World} {B : Nat} {ao : Option Addr} {xs : List α} (h : RowsIn k cells sub w B ao xs) {i : Nat} {x : α} (hx : xs[i]? = some x) :
    ∃ b off, ao = some ⟨b, off, none⟩ ∧ b < B ∧ (∀ j, j < k → w.cell? ⟨b, off + i * k + j, none⟩ = (cells x)[j]?) ∧ sub w B x := by
  rcases h with h | ⟨b, off, h1, h2, h3⟩
  · rw [h] at hx; simp at hx
  · exact ⟨b, off, h1, h2, h3 i x hx⟩
theorem RowsIn.take {α : Type} {k : Nat} {cells : α → List Value} {sub : World → Nat → α → Prop} {w : World} {B : Nat} {ao : Option Addr} {xs : List α} (n : Nat) (h : RowsIn k cells sub w B ao xs) : RowsIn k cells sub w B ao (xs.take n) := by
  rcases h with h | ⟨b, off, h1, h2, h3⟩
  · exact Or.inl (by rw [h]; simp)
  · refine Or.inr ⟨b, off, h1, h2, fun i x hx => h3 i x ?_⟩
    rw [List.getElem?_take] at hx
    split at hx
    · exact hx
    · cases hx
/-- What is owned, as it lies: the cells of each thing. -/
theorem flat_get {α : Type} {k : Nat} {cells : α → List Value} (hk : ∀ x, (cells x).length = k) : ∀ (xs : List α) (i : Nat) (x : α), xs[i]? = some x → ∀ j, j < k → (xs.flatMap cells)[i * k + j]? = (cells x)[j]? := by
  intro xs
  induction xs with
  | nil => intro i x h; simp at h
  | cons a xs ih =>
    intro i x h j hj
    rw [List.flatMap_cons]
    cases i with
    | zero =>
      obtain rfl : a = x := by simpa using h
      rw [Nat.zero_mul, Nat.zero_add, List.getElem?_append_left (by rw [hk]; exact hj)]
    | succ i =>
      rw [List.getElem?_append_right (by rw [hk, Nat.add_mul]; omega), hk, show (i + 1) * k + j - k = i * k + j by rw [Nat.add_mul]; omega]
      exact ih i x (by simpa using h) j hj
theorem flat_len {α : Type} {k : Nat} {cells : α → List Value} (hk : ∀ x, (cells x).length = k) (xs : List α) : (xs.flatMap cells).length = xs.length * k := by
  induction xs with
  | nil => simp
  | cons a xs ih => rw [List.flatMap_cons, List.length_append, ih, hk, List.length_cons, Nat.add_mul]; omega
theorem ownsRow_lt' {w : World} {base e size n m g o c : Nat} {xs : List Value} (h : w.ownsRow base e size (.slice (some ⟨g, o, none⟩) m c) n xs) : base ≤ g ∧ g < w.heap.size := h.lt g rfl
theorem own_rows {α : Type} {k : Nat} {cells : α → List Value} {sub : World → Nat → α → Prop} (hk : ∀ x, (cells x).length = k) {w : World} {base e n B : Nat} {v : Value} {xs : List α} (hn : xs.length = n) (h : w.ownsRow base e k v n (xs.flatMap cells)) (hs : ∀ x ∈ xs, sub w B x) (hB : w.heap.size ≤ B) :
    ∃ ao cap, v = .slice ao xs.length cap ∧ RowsIn k cells sub w B ao xs ∧ (ao = none → cap = 0) := by
  subst hn
  rcases Go.Joins.ownsRow_forms h with ⟨rfl, hz⟩ | ⟨g, cap', rfl⟩
  · exact ⟨none, 0, by rw [hz], Or.inl (List.eq_nil_of_length_eq_zero hz), fun _ => rfl⟩
  · have hg := (ownsRow_lt' h).2
    refine ⟨_, _, rfl, Or.inr ⟨g, 0, rfl, by omega, fun i x hx => ⟨fun j hj => ?_, hs x (List.mem_of_getElem? hx)⟩⟩, by simp⟩
    have hi : i < xs.length := by
      rcases Nat.lt_or_ge i xs.length with hh | hh
      · exact hh
      · rw [List.getElem?_eq_none hh] at hx; cases hx
    have h2 : i * k + j < xs.length * k := by
      have := Nat.mul_le_mul_right k (show i + 1 ≤ xs.length from hi)
      rw [Nat.add_mul] at this
      omega
    rw [Nat.zero_add, World.ownsRow.cellAt h _ h2]
    exact flat_get hk xs i x hx j hj
end Go.Proofs.YtnhnabcpkaeaaaaGreatDoor
/- Slices of bytes that are only read. Conditions: the slice's cells lie as its reading says. -/
namespace Go.Proofs.YtnhnabcpkaeaaaaGreatDoor
open Go.RowKit
/-- A byte's cell. -/
def bv (x : Int) : Value := .int .u8 x
/-- The bytes xs lie behind the slice's address, in a block below B. -/
def BytesIn (w : World) (B : Nat) (ao : Option Addr) (xs : List Int) : Prop :=
  xs = [] ∨ ∃ b off, ao = some ⟨b, off, none⟩ ∧ b < B ∧ ∀ i, i < xs.length → w.cell? ⟨b, off + i, none⟩ = some (.int .u8 (xs.getD i 0))
theorem BytesIn.below {w w' : World} {B B' : Nat} {ao : Option Addr} {xs : List Int} (h : BytesIn w B ao xs) (hb : Below B' w w') (hB : B ≤ B') : BytesIn w' B ao xs := by
  rcases h with h | ⟨b, off, h1, h2, h3⟩
  · exact Or.inl h
  · exact Or.inr ⟨b, off, h1, h2, fun i hi => by rw [hb.cell (p := ⟨b, _, none⟩) (by show b < B'; omega)]; exact h3 i hi⟩
theorem BytesIn.mono {w : World} {B B' : Nat} {ao : Option Addr} {xs : List Int} (h : BytesIn w B ao xs) (hB : B ≤ B') : BytesIn w B' ao xs := by
  rcases h with h | ⟨b, off, h1, h2, h3⟩
  · exact Or.inl h
  · exact Or.inr ⟨b, off, h1, by omega, h3⟩
/-- All are bytes. -/
def BytesWf (xs : List Int) : Prop := ∀ x ∈ xs, 0 ≤ x ∧ x < 256
theorem bytes_mem {xs : List Int} {k : Nat} (h : k < xs.length) : xs.getD k 0 ∈ xs := by
  simp [List.getD, List.getElem?_eq_getElem h]
theorem bytes_oneCell (l : List Int) : ∀ u ∈ l.map bv, u.oneCell' = true := by
  intro u hu
  obtain ⟨x, _, rfl⟩ := List.mem_map.1 hu
  rfl
theorem cells_of_bytes {w w1 : World} {B : Nat} {ao : Option Addr} {xs : List Int} (h : BytesIn w B ao xs) (hb : Below B w w1) {ad : Addr} (had : ao = some ad) {j : Nat} {u : Value} (hu : (xs.map bv)[j]? = some u) : w1.cell? (ad.add j) = some u := by
  rcases h with h0 | ⟨b, off, h1, h2, h3⟩
  · rw [h0] at hu; simp at hu
  · rw [h1] at had
    obtain rfl := Option.some.inj had
    have hj : j < xs.length := by
      rcases Nat.lt_or_ge j xs.length with h | h
      · exact h
      · rw [List.getElem?_eq_none (by simpa using h)] at hu; cases hu
    rw [Go.WideShapes.add_plain, hb.cell (p := ⟨b, _, none⟩) h2, h3 j hj]
    simp [List.getElem?_map, List.getElem?_eq_getElem hj] at hu
    rw [← hu]; simp [bv, List.getD, List.getElem?_eq_getElem hj]
/-- What is owned, as bytes that lie. -/
theorem own_bytes {w : World} {base : Nat} {v : Value} {l : List Int} (h : w.ownsRow base 5 1 v l.length (l.map bv)) : ∃ ao cap, v = .slice ao l.length cap ∧ BytesIn w w.heap.size ao l := by
  rcases Go.Joins.ownsRow_forms h with ⟨rfl, hz⟩ | ⟨g, cap', rfl⟩
  · exact ⟨none, 0, by rw [hz], Or.inl (List.eq_nil_of_length_eq_zero hz)⟩
  · have hg : g < w.heap.size := by
      rcases h.2 with ⟨h', _⟩ | ⟨g', cap', cur, h', _, h3, _⟩
      · simp at h'
      · simp only [Value.slice.injEq, Option.some.injEq, Addr.mk.injEq, and_true, true_and] at h'
        obtain ⟨rfl, rfl⟩ := h'
        exact (Array.getElem?_eq_some_iff.1 h3).1
    refine ⟨_, _, rfl, Or.inr ⟨g, 0, rfl, hg, fun i hi => ?_⟩⟩
    rw [Nat.zero_add, World.ownsRow.cellAt h i (by omega)]
    simp [bv, List.getD, List.getElem?_eq_getElem hi]
theorem infoByte : (Tryz.prog.info? 5).map (fun i => (i.zero, i.size, i.bytes)) = some (some (.int .u8 0), 1, 1) := by kernel_rfl
/-- An append to a row of bytes that is owned, whatever is appended, nil or not. -/
theorem wpList_append_bytes {w : World} {ops : Array Oper} {rest : List Oper} {o : Oper} {a : Act} {Q : Exit → Act → World → Prop} (hgd : o.guard = none) (s x : Operand)
    (ho : o.op = .call { callee := .builtin .append, args := #[s, x], argTypes := #[22, 22] })
    (base : Nat) (v : Value) (l : List Int) (hs : a.eval s = v) (hown : w.ownsRow base 5 1 v l.length (l.map bv))
    (ao : Option Addr) (cap : Nat) (xs : List Int) (hx : a.eval x = .slice ao xs.length cap) (B : Nat) (hin : BytesIn w B ao xs) (hao : ao = none → cap = 0) (hlim : l.length + xs.length ≤ 140737488351232) (hbase : base ≤ w.heap.size)
    (h : ∀ v' w', w'.ownsRow base 5 1 v' (l ++ xs).length ((l ++ xs).map bv) → w.grownBy w' v.ownBlock → wpList Tryz.prog ops Q rest (a.put o.dst v') w') : wpList Tryz.prog ops Q (o :: rest) a w := by
  obtain ⟨i0, hi, hz0, hz1, hz2⟩ := info_parts infoByte
  cases ao with
  | none =>
    have hnil : xs = [] := by
      rcases hin with h | ⟨b, off, h1, _⟩
      · exact h
      · cases h1
    subst hnil
    rw [hao rfl] at hx
    refine wpList_append_own_none hgd s x _ ho base 5 i0 1 Tryz.underlying22 hi v l.length _ hs hown hx ?_
    refine h v w (by simpa using hown) ?_
    exact World.grownBy.refl _ _
  | some ad =>
    refine wpList_append_own _ hgd s x _ ho base 5 i0 (.int .u8 0) 1 1 Tryz.underlying22 hi hz0 hz1 hz2 rfl (by decide) v l.length _ hs hown ad xs.length cap (xs.map bv) hx (by simp) ?_ (bytes_oneCell _) (by unfold maxLen; omega) (by omega) hbase ?_
    · intro j u hu
      exact cells_of_bytes hin (Below.refl _ _) rfl hu
    · intro v' w' h1 h2 _
      refine h v' w' ?_ h2
      rw [List.length_append, List.map_append]
      exact h1
end Go.Proofs.YtnhnabcpkaeaaaaGreatDoor
/- Bytes and frames among the arguments: their cells, one by one. Conditions: they are read as the row reads them. -/
namespace Go.Proofs.YtnhnabcpkaeaaaaGreatDoor
open Go.RowKit
theorem slice_shape {H : Type} {enc : TypeId × Value → H} {P : Program} {W : World} {base : Nat} {sp : Nat → Bool} {hd : Bool} {t e : TypeId} {ao : Option Addr} {len cap : Nat} {d : DataW H} {p : List MemPlace}
    (ht : P.underlying t = some (.slice e)) (h : DataW.Trod enc P W base sp hd t (.slice ao len cap) d p) : len ≤ cap ∧ cap ≤ maxLen ∧ (ao = none → cap = 0) := by
  obtain ⟨fuel, hf⟩ := h
  rcases Go.Deep.open_slice ht hf with ⟨h0, _⟩ | ⟨a, len', cap', m, n, D, Pl, h0, _, hl, hm, _⟩
  · simp [Value.cells] at h0
    obtain ⟨rfl, rfl, rfl⟩ := h0
    exact ⟨by omega, by unfold maxLen; omega, fun _ => rfl⟩
  · simp [Value.cells] at h0
    obtain ⟨rfl, rfl, rfl⟩ := h0
    exact ⟨hl, hm, by simp⟩
/-- A cell that holds a slice. -/
theorem slice_cell {H : Type} {enc : TypeId × Value → H} {P : Program} {W : World} {base n : Nat} {sp : Nat → Bool} {hd : Bool} {t e : TypeId} {cs : List Value} {d : DataW H} {p : List MemPlace}
    (ht : P.underlying t = some (.slice e)) (h : DataW.trod enc P W base sp hd n t cs = some (d, p)) : ∃ ao len cap, cs = [.slice ao len cap] ∧ DataW.Trod enc P W base sp hd t (.slice ao len cap) d p := by
  rcases Go.Deep.open_slice ht h with ⟨h0, _⟩ | ⟨a, len', cap', m, n', D, Pl, h0, _⟩
  · subst h0; exact ⟨_, _, _, rfl, n, h⟩
  · subst h0; exact ⟨_, _, _, rfl, n, h⟩
end Go.Proofs.YtnhnabcpkaeaaaaGreatDoor
