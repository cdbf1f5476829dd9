/- Texts joined: Types, GlCall, LexSpec2, Lex1, Shelf. -/
import Derived.Test.YtfodkbchknknjaaGreatDoorProg
import Derived.Lib.ParseIntB
import Derived.Lib.ItoaNum
import Derived.Shelf.Strings.Builder1
import Derived.Shelf.Strings.Builder2
import Derived.Shelf.Strings.OnBuilder
import Derived.Shelf.Strings.BuilderF
import Derived.Shelf.Strings.BuilderK
import Derived.Shelf.Utf8.RuneCount
import Derived.Shelf.Strings.Builder2Cap
import Derived.Shelf.Strconv.Itoa0
import Derived.Shelf.Strconv.Itoa1
import Derived.Shelf.LaysM
import Derived.Shelf.Strconv.Itoa2
import Derived.Shelf.Strconv.Itoa3
import Derived.Shelf.Strconv.Clone
import Derived.Shelf.Strconv.SyntaxError
import Derived.Shelf.LaysC
import Derived.Shelf.Strconv.ToError
import Derived.Shelf.Strconv.Lower
import Derived.Shelf.Strconv.ParseUint10
import Derived.Shelf.Strconv.ParseUint10Empty
import Derived.Shelf.Strconv.ParseUint10Any
import Derived.Shelf.Strconv.RangeError
import Derived.Shelf.Strconv.ToErrorRange
import Derived.Shelf.Strconv.ParseUintEmpty
import Derived.Shelf.Strconv.ParseUint10b64
import Derived.Shelf.Strconv.ParseUint10b32
import Derived.Shelf.Strconv.ParseUint10b16
import Derived.Shelf.Strconv.ParseUint10b8
import Derived.Shelf.Strconv.ParseUint10At
import Derived.Ground.MpProg
import Derived.Shelf.Pu.ParseUintPublic10
import Derived.Shelf.Pu.ErrVarParseUint
import Derived.Shelf.Strings.Search1
import Derived.Shelf.Strings.Search2
import Derived.Shelf.Strings.Search3
import Derived.Shelf.Strings.Count
import Derived.Shelf.Strings.Shaped
import Derived.Shelf.Strings.Prefix
import Derived.Shelf.Strings.Split
import Derived.Shelf.Strings.RuneCount
import Derived.Shelf.Bits.Mul64
import Derived.Shelf.Strings.Repeat
import Derived.Shelf.Strings.BuilderCap
import Derived.Shelf.Slices.Turned
import Derived.Shelf.Slices.Equal
import Derived.Shelf.Slices.Empties2
import Derived.Test.YtfodkbchknknjaaGreatDoorBRowU1
set_option linter.unusedVariables false
set_option linter.unusedSimpArgs false
namespace Go.Proofs.YtfodkbchknknjaaGreatDoor
open Go.GL
set_option maxRecDepth 100000
instance : TMixed Tryz.prog := ⟨by kernel_rfl⟩
-- type 1: func()
instance : TSize Tryz.prog 1 1 := .of (by kernel_rfl)
instance : TOne Tryz.prog 1 := .of (by kernel_rfl)
instance : TConcrete Tryz.prog 1 := .of (by kernel_rfl)
instance : TZero Tryz.prog 1 [.nilFunc] := .of (v := .nilFunc) (n := 1) (by kernel_rfl) rfl rfl
instance : TRow Tryz.prog 1 1 8 := .of (by kernel_rfl)
-- type 2: int64
instance : TSize Tryz.prog 2 1 := .of (by kernel_rfl)
instance : TOne Tryz.prog 2 := .of (by kernel_rfl)
instance : TKind Tryz.prog 2 .i64 := .of (by kernel_rfl)
instance : TConcrete Tryz.prog 2 := .of (by kernel_rfl)
instance : TZero Tryz.prog 2 [.int .i64 0] := .of (v := .int .i64 0) (n := 1) (by kernel_rfl) rfl rfl
instance : TRow Tryz.prog 2 1 8 := .of (by kernel_rfl)
-- type 3: int
instance : TSize Tryz.prog 3 1 := .of (by kernel_rfl)
instance : TOne Tryz.prog 3 := .of (by kernel_rfl)
instance : TKind Tryz.prog 3 .i64 := .of (by kernel_rfl)
instance : TConcrete Tryz.prog 3 := .of (by kernel_rfl)
instance : TZero Tryz.prog 3 [.int .i64 0] := .of (v := .int .i64 0) (n := 1) (by kernel_rfl) rfl rfl
instance : TRow Tryz.prog 3 1 8 := .of (by kernel_rfl)
-- type 4: bool
instance : TSize Tryz.prog 4 1 := .of (by kernel_rfl)
instance : TOne Tryz.prog 4 := .of (by kernel_rfl)
instance : TConcrete Tryz.prog 4 := .of (by kernel_rfl)
instance : TZero Tryz.prog 4 [.bool false] := .of (v := .bool false) (n := 1) (by kernel_rfl) rfl rfl
instance : TRow Tryz.prog 4 1 1 := .of (by kernel_rfl)
-- type 5: uint8
instance : TSize Tryz.prog 5 1 := .of (by kernel_rfl)
instance : TOne Tryz.prog 5 := .of (by kernel_rfl)
instance : TKind Tryz.prog 5 .u8 := .of (by kernel_rfl)
instance : TConcrete Tryz.prog 5 := .of (by kernel_rfl)
instance : TZero Tryz.prog 5 [.int .u8 0] := .of (v := .int .u8 0) (n := 1) (by kernel_rfl) rfl rfl
instance : TRow Tryz.prog 5 1 1 := .of (by kernel_rfl)
-- type 6: abi.BoundsErrorCode
instance : TSize Tryz.prog 6 1 := .of (by kernel_rfl)
instance : TOne Tryz.prog 6 := .of (by kernel_rfl)
instance : TKind Tryz.prog 6 .u8 := .of (by kernel_rfl)
instance : TConcrete Tryz.prog 6 := .of (by kernel_rfl)
instance : TZero Tryz.prog 6 [.int .u8 0] := .of (v := .int .u8 0) (n := 1) (by kernel_rfl) rfl rfl
instance : TRow Tryz.prog 6 1 1 := .of (by kernel_rfl)
-- type 7: struct { x int64; y int; signed bool; code abi.BoundsErrorCode }
instance : TSize Tryz.prog 7 4 := .of (by kernel_rfl)
instance : TAgg Tryz.prog 7 4 := .of (by kernel_rfl)
instance : TConcrete Tryz.prog 7 := .of (by kernel_rfl)
instance : TField Tryz.prog 7 0 0 := .of (by kernel_rfl)
instance : TField Tryz.prog 7 1 1 := .of (by kernel_rfl)
instance : TField Tryz.prog 7 2 2 := .of (by kernel_rfl)
instance : TField Tryz.prog 7 3 3 := .of (by kernel_rfl)
instance : TStruct Tryz.prog 7 [(0, 1), (1, 1), (2, 1), (3, 1)] := .of (by kernel_rfl)
instance : TZero Tryz.prog 7 [.int .i64 0, .int .i64 0, .bool false, .int .u8 0] := .of (v := .agg #[.int .i64 0, .int .i64 0, .bool false, .int .u8 0]) (n := 4) (by kernel_rfl) rfl rfl
instance : TRow Tryz.prog 7 4 24 := .of (by kernel_rfl)
-- type 8: runtime.boundsError
instance : TSize Tryz.prog 8 4 := .of (by kernel_rfl)
instance : TAgg Tryz.prog 8 4 := .of (by kernel_rfl)
instance : TConcrete Tryz.prog 8 := .of (by kernel_rfl)
instance : TField Tryz.prog 8 0 0 := .of (by kernel_rfl)
instance : TField Tryz.prog 8 1 1 := .of (by kernel_rfl)
instance : TField Tryz.prog 8 2 2 := .of (by kernel_rfl)
instance : TField Tryz.prog 8 3 3 := .of (by kernel_rfl)
instance : TStruct Tryz.prog 8 [(0, 1), (1, 1), (2, 1), (3, 1)] := .of (by kernel_rfl)
instance : TZero Tryz.prog 8 [.int .i64 0, .int .i64 0, .bool false, .int .u8 0] := .of (v := .agg #[.int .i64 0, .int .i64 0, .bool false, .int .u8 0]) (n := 4) (by kernel_rfl) rfl rfl
instance : TRow Tryz.prog 8 4 24 := .of (by kernel_rfl)
-- type 9: string
instance : TSize Tryz.prog 9 1 := .of (by kernel_rfl)
instance : TOne Tryz.prog 9 := .of (by kernel_rfl)
instance : TStr Tryz.prog 9 := .of (by kernel_rfl)
instance : TConcrete Tryz.prog 9 := .of (by kernel_rfl)
instance : TZero Tryz.prog 9 [.string ⟨#[]⟩] := .of (v := .string ⟨#[]⟩) (n := 1) (by kernel_rfl) rfl rfl
instance : TRow Tryz.prog 9 1 16 := .of (by kernel_rfl)
-- type 10: runtime.errorString
instance : TSize Tryz.prog 10 1 := .of (by kernel_rfl)
instance : TOne Tryz.prog 10 := .of (by kernel_rfl)
instance : TStr Tryz.prog 10 := .of (by kernel_rfl)
instance : TConcrete Tryz.prog 10 := .of (by kernel_rfl)
instance : TZero Tryz.prog 10 [.string ⟨#[]⟩] := .of (v := .string ⟨#[]⟩) (n := 1) (by kernel_rfl) rfl rfl
instance : TRow Tryz.prog 10 1 16 := .of (by kernel_rfl)
-- type 11: runtime.plainError
instance : TSize Tryz.prog 11 1 := .of (by kernel_rfl)
instance : TOne Tryz.prog 11 := .of (by kernel_rfl)
instance : TStr Tryz.prog 11 := .of (by kernel_rfl)
instance : TConcrete Tryz.prog 11 := .of (by kernel_rfl)
instance : TZero Tryz.prog 11 [.string ⟨#[]⟩] := .of (v := .string ⟨#[]⟩) (n := 1) (by kernel_rfl) rfl rfl
instance : TRow Tryz.prog 11 1 16 := .of (by kernel_rfl)
-- type 12: uintptr
instance : TSize Tryz.prog 12 1 := .of (by kernel_rfl)
instance : TOne Tryz.prog 12 := .of (by kernel_rfl)
instance : TKind Tryz.prog 12 .u64 := .of (by kernel_rfl)
instance : TConcrete Tryz.prog 12 := .of (by kernel_rfl)
instance : TZero Tryz.prog 12 [.int .u64 0] := .of (v := .int .u64 0) (n := 1) (by kernel_rfl) rfl rfl
instance : TRow Tryz.prog 12 1 8 := .of (by kernel_rfl)
-- type 13: struct { msg string; addr uintptr }
instance : TSize Tryz.prog 13 2 := .of (by kernel_rfl)
instance : TAgg Tryz.prog 13 2 := .of (by kernel_rfl)
instance : TConcrete Tryz.prog 13 := .of (by kernel_rfl)
instance : TField Tryz.prog 13 0 0 := .of (by kernel_rfl)
instance : TField Tryz.prog 13 1 1 := .of (by kernel_rfl)
instance : TStruct Tryz.prog 13 [(0, 1), (1, 1)] := .of (by kernel_rfl)
instance : TZero Tryz.prog 13 [.string ⟨#[]⟩, .int .u64 0] := .of (v := .agg #[.string ⟨#[]⟩, .int .u64 0]) (n := 2) (by kernel_rfl) rfl rfl
instance : TRow Tryz.prog 13 2 24 := .of (by kernel_rfl)
-- type 14: runtime.errorAddressString
instance : TSize Tryz.prog 14 2 := .of (by kernel_rfl)
instance : TAgg Tryz.prog 14 2 := .of (by kernel_rfl)
instance : TConcrete Tryz.prog 14 := .of (by kernel_rfl)
instance : TField Tryz.prog 14 0 0 := .of (by kernel_rfl)
instance : TField Tryz.prog 14 1 1 := .of (by kernel_rfl)
instance : TStruct Tryz.prog 14 [(0, 1), (1, 1)] := .of (by kernel_rfl)
instance : TZero Tryz.prog 14 [.string ⟨#[]⟩, .int .u64 0] := .of (v := .agg #[.string ⟨#[]⟩, .int .u64 0]) (n := 2) (by kernel_rfl) rfl rfl
instance : TRow Tryz.prog 14 2 24 := .of (by kernel_rfl)
-- type 15: *runtime.TypeAssertionError
instance : TSize Tryz.prog 15 1 := .of (by kernel_rfl)
instance : TOne Tryz.prog 15 := .of (by kernel_rfl)
instance : TConcrete Tryz.prog 15 := .of (by kernel_rfl)
instance : TZero Tryz.prog 15 [.pointer none] := .of (v := .pointer none) (n := 1) (by kernel_rfl) rfl rfl
instance : TRow Tryz.prog 15 1 8 := .of (by kernel_rfl)
-- type 16: *runtime.PanicNilError
instance : TSize Tryz.prog 16 1 := .of (by kernel_rfl)
instance : TOne Tryz.prog 16 := .of (by kernel_rfl)
instance : TConcrete Tryz.prog 16 := .of (by kernel_rfl)
instance : TZero Tryz.prog 16 [.pointer none] := .of (v := .pointer none) (n := 1) (by kernel_rfl) rfl rfl
instance : TRow Tryz.prog 16 1 8 := .of (by kernel_rfl)
-- type 17: *abi.Type
instance : TSize Tryz.prog 17 1 := .of (by kernel_rfl)
instance : TOne Tryz.prog 17 := .of (by kernel_rfl)
instance : TConcrete Tryz.prog 17 := .of (by kernel_rfl)
instance : TZero Tryz.prog 17 [.pointer none] := .of (v := .pointer none) (n := 1) (by kernel_rfl) rfl rfl
instance : TRow Tryz.prog 17 1 8 := .of (by kernel_rfl)
-- type 18: struct { typ *abi.Type }
instance : TSize Tryz.prog 18 1 := .of (by kernel_rfl)
instance : TAgg Tryz.prog 18 1 := .of (by kernel_rfl)
instance : TConcrete Tryz.prog 18 := .of (by kernel_rfl)
instance : TField Tryz.prog 18 0 0 := .of (by kernel_rfl)
instance : TStruct Tryz.prog 18 [(0, 1)] := .of (by kernel_rfl)
instance : TZero Tryz.prog 18 [.pointer none] := .of (v := .agg #[.pointer none]) (n := 1) (by kernel_rfl) rfl rfl
instance : TRow Tryz.prog 18 1 8 := .of (by kernel_rfl)
-- type 19: maps.unhashableTypeError
instance : TSize Tryz.prog 19 1 := .of (by kernel_rfl)
instance : TAgg Tryz.prog 19 1 := .of (by kernel_rfl)
instance : TConcrete Tryz.prog 19 := .of (by kernel_rfl)
instance : TField Tryz.prog 19 0 0 := .of (by kernel_rfl)
instance : TStruct Tryz.prog 19 [(0, 1)] := .of (by kernel_rfl)
instance : TZero Tryz.prog 19 [.pointer none] := .of (v := .agg #[.pointer none]) (n := 1) (by kernel_rfl) rfl rfl
instance : TRow Tryz.prog 19 1 8 := .of (by kernel_rfl)
-- type 20: interface {}
instance : TSize Tryz.prog 20 1 := .of (by kernel_rfl)
instance : TOne Tryz.prog 20 := .of (by kernel_rfl)
instance : TZero Tryz.prog 20 [.nilIface] := .of (v := .nilIface) (n := 1) (by kernel_rfl) rfl rfl
instance : TRow Tryz.prog 20 1 16 := .of (by kernel_rfl)
-- type 21: int32
instance : TSize Tryz.prog 21 1 := .of (by kernel_rfl)
instance : TOne Tryz.prog 21 := .of (by kernel_rfl)
instance : TKind Tryz.prog 21 .i32 := .of (by kernel_rfl)
instance : TConcrete Tryz.prog 21 := .of (by kernel_rfl)
instance : TZero Tryz.prog 21 [.int .i32 0] := .of (v := .int .i32 0) (n := 1) (by kernel_rfl) rfl rfl
instance : TRow Tryz.prog 21 1 4 := .of (by kernel_rfl)
-- type 22: func() bool
instance : TSize Tryz.prog 22 1 := .of (by kernel_rfl)
instance : TOne Tryz.prog 22 := .of (by kernel_rfl)
instance : TConcrete Tryz.prog 22 := .of (by kernel_rfl)
instance : TZero Tryz.prog 22 [.nilFunc] := .of (v := .nilFunc) (n := 1) (by kernel_rfl) rfl rfl
instance : TRow Tryz.prog 22 1 8 := .of (by kernel_rfl)
-- type 23: []string
instance : TSize Tryz.prog 23 1 := .of (by kernel_rfl)
instance : TOne Tryz.prog 23 := .of (by kernel_rfl)
instance : TSlice Tryz.prog 23 9 1 := .of (by kernel_rfl)
instance : TConcrete Tryz.prog 23 := .of (by kernel_rfl)
instance : TZero Tryz.prog 23 [.slice none 0 0] := .of (v := .slice none 0 0) (n := 1) (by kernel_rfl) rfl rfl
instance : TRow Tryz.prog 23 1 24 := .of (by kernel_rfl)
-- type 24: []api.Array
instance : TSize Tryz.prog 24 1 := .of (by kernel_rfl)
instance : TOne Tryz.prog 24 := .of (by kernel_rfl)
instance : TSlice Tryz.prog 24 70 2 := .of (by kernel_rfl)
instance : TConcrete Tryz.prog 24 := .of (by kernel_rfl)
instance : TZero Tryz.prog 24 [.slice none 0 0] := .of (v := .slice none 0 0) (n := 1) (by kernel_rfl) rfl rfl
instance : TRow Tryz.prog 24 1 24 := .of (by kernel_rfl)
-- type 25: []api.Func
instance : TSize Tryz.prog 25 1 := .of (by kernel_rfl)
instance : TOne Tryz.prog 25 := .of (by kernel_rfl)
instance : TSlice Tryz.prog 25 53 4 := .of (by kernel_rfl)
instance : TConcrete Tryz.prog 25 := .of (by kernel_rfl)
instance : TZero Tryz.prog 25 [.slice none 0 0] := .of (v := .slice none 0 0) (n := 1) (by kernel_rfl) rfl rfl
instance : TRow Tryz.prog 25 1 24 := .of (by kernel_rfl)
-- type 26: struct { Vars []string; Arrays []api.Array; Funcs []api.Func }
instance : TSize Tryz.prog 26 3 := .of (by kernel_rfl)
instance : TAgg Tryz.prog 26 3 := .of (by kernel_rfl)
instance : TConcrete Tryz.prog 26 := .of (by kernel_rfl)
instance : TField Tryz.prog 26 0 0 := .of (by kernel_rfl)
instance : TField Tryz.prog 26 1 1 := .of (by kernel_rfl)
instance : TField Tryz.prog 26 2 2 := .of (by kernel_rfl)
instance : TStruct Tryz.prog 26 [(0, 1), (1, 1), (2, 1)] := .of (by kernel_rfl)
instance : TZero Tryz.prog 26 [.slice none 0 0, .slice none 0 0, .slice none 0 0] := .of (v := .agg #[.slice none 0 0, .slice none 0 0, .slice none 0 0]) (n := 3) (by kernel_rfl) rfl rfl
instance : TRow Tryz.prog 26 3 72 := .of (by kernel_rfl)
-- type 27: api.Program
instance : TSize Tryz.prog 27 3 := .of (by kernel_rfl)
instance : TAgg Tryz.prog 27 3 := .of (by kernel_rfl)
instance : TConcrete Tryz.prog 27 := .of (by kernel_rfl)
instance : TField Tryz.prog 27 0 0 := .of (by kernel_rfl)
instance : TField Tryz.prog 27 1 1 := .of (by kernel_rfl)
instance : TField Tryz.prog 27 2 2 := .of (by kernel_rfl)
instance : TStruct Tryz.prog 27 [(0, 1), (1, 1), (2, 1)] := .of (by kernel_rfl)
instance : TZero Tryz.prog 27 [.slice none 0 0, .slice none 0 0, .slice none 0 0] := .of (v := .agg #[.slice none 0 0, .slice none 0 0, .slice none 0 0]) (n := 3) (by kernel_rfl) rfl rfl
instance : TRow Tryz.prog 27 3 72 := .of (by kernel_rfl)
-- type 28: api.Errno
instance : TSize Tryz.prog 28 1 := .of (by kernel_rfl)
instance : TOne Tryz.prog 28 := .of (by kernel_rfl)
instance : TKind Tryz.prog 28 .i64 := .of (by kernel_rfl)
instance : TConcrete Tryz.prog 28 := .of (by kernel_rfl)
instance : TZero Tryz.prog 28 [.int .i64 0] := .of (v := .int .i64 0) (n := 1) (by kernel_rfl) rfl rfl
instance : TRow Tryz.prog 28 1 8 := .of (by kernel_rfl)
-- type 30: func(string) (api.Program, int, api.Errno)
instance : TSize Tryz.prog 30 1 := .of (by kernel_rfl)
instance : TOne Tryz.prog 30 := .of (by kernel_rfl)
instance : TConcrete Tryz.prog 30 := .of (by kernel_rfl)
instance : TZero Tryz.prog 30 [.nilFunc] := .of (v := .nilFunc) (n := 1) (by kernel_rfl) rfl rfl
instance : TRow Tryz.prog 30 1 8 := .of (by kernel_rfl)
-- type 31: func(api.Program, api.Program) bool
instance : TSize Tryz.prog 31 1 := .of (by kernel_rfl)
instance : TOne Tryz.prog 31 := .of (by kernel_rfl)
instance : TConcrete Tryz.prog 31 := .of (by kernel_rfl)
instance : TZero Tryz.prog 31 [.nilFunc] := .of (v := .nilFunc) (n := 1) (by kernel_rfl) rfl rfl
instance : TRow Tryz.prog 31 1 8 := .of (by kernel_rfl)
-- type 32: func(string) bool
instance : TSize Tryz.prog 32 1 := .of (by kernel_rfl)
instance : TOne Tryz.prog 32 := .of (by kernel_rfl)
instance : TConcrete Tryz.prog 32 := .of (by kernel_rfl)
instance : TZero Tryz.prog 32 [.nilFunc] := .of (v := .nilFunc) (n := 1) (by kernel_rfl) rfl rfl
instance : TRow Tryz.prog 32 1 8 := .of (by kernel_rfl)
-- type 33: func(string) string
instance : TSize Tryz.prog 33 1 := .of (by kernel_rfl)
instance : TOne Tryz.prog 33 := .of (by kernel_rfl)
instance : TConcrete Tryz.prog 33 := .of (by kernel_rfl)
instance : TZero Tryz.prog 33 [.nilFunc] := .of (v := .nilFunc) (n := 1) (by kernel_rfl) rfl rfl
instance : TRow Tryz.prog 33 1 8 := .of (by kernel_rfl)
-- type 34: func(string) int
instance : TSize Tryz.prog 34 1 := .of (by kernel_rfl)
instance : TOne Tryz.prog 34 := .of (by kernel_rfl)
instance : TConcrete Tryz.prog 34 := .of (by kernel_rfl)
instance : TZero Tryz.prog 34 [.nilFunc] := .of (v := .nilFunc) (n := 1) (by kernel_rfl) rfl rfl
instance : TRow Tryz.prog 34 1 8 := .of (by kernel_rfl)
-- type 35: uint32
instance : TSize Tryz.prog 35 1 := .of (by kernel_rfl)
instance : TOne Tryz.prog 35 := .of (by kernel_rfl)
instance : TKind Tryz.prog 35 .u32 := .of (by kernel_rfl)
instance : TConcrete Tryz.prog 35 := .of (by kernel_rfl)
instance : TZero Tryz.prog 35 [.int .u32 0] := .of (v := .int .u32 0) (n := 1) (by kernel_rfl) rfl rfl
instance : TRow Tryz.prog 35 1 4 := .of (by kernel_rfl)
-- type 36: []api.Expr
instance : TSize Tryz.prog 36 1 := .of (by kernel_rfl)
instance : TOne Tryz.prog 36 := .of (by kernel_rfl)
instance : TSlice Tryz.prog 36 38 4 := .of (by kernel_rfl)
instance : TConcrete Tryz.prog 36 := .of (by kernel_rfl)
instance : TZero Tryz.prog 36 [.slice none 0 0] := .of (v := .slice none 0 0) (n := 1) (by kernel_rfl) rfl rfl
instance : TRow Tryz.prog 36 1 24 := .of (by kernel_rfl)
-- type 37: struct { Op string; Num uint32; Name string; Args []api.Expr }
instance : TSize Tryz.prog 37 4 := .of (by kernel_rfl)
instance : TAgg Tryz.prog 37 4 := .of (by kernel_rfl)
instance : TConcrete Tryz.prog 37 := .of (by kernel_rfl)
instance : TField Tryz.prog 37 0 0 := .of (by kernel_rfl)
instance : TField Tryz.prog 37 1 1 := .of (by kernel_rfl)
instance : TField Tryz.prog 37 2 2 := .of (by kernel_rfl)
instance : TField Tryz.prog 37 3 3 := .of (by kernel_rfl)
instance : TStruct Tryz.prog 37 [(0, 1), (1, 1), (2, 1), (3, 1)] := .of (by kernel_rfl)
instance : TZero Tryz.prog 37 [.string ⟨#[]⟩, .int .u32 0, .string ⟨#[]⟩, .slice none 0 0] := .of (v := .agg #[.string ⟨#[]⟩, .int .u32 0, .string ⟨#[]⟩, .slice none 0 0]) (n := 4) (by kernel_rfl) rfl rfl
instance : TRow Tryz.prog 37 4 64 := .of (by kernel_rfl)
-- type 38: api.Expr
instance : TSize Tryz.prog 38 4 := .of (by kernel_rfl)
instance : TAgg Tryz.prog 38 4 := .of (by kernel_rfl)
instance : TConcrete Tryz.prog 38 := .of (by kernel_rfl)
instance : TField Tryz.prog 38 0 0 := .of (by kernel_rfl)
instance : TField Tryz.prog 38 1 1 := .of (by kernel_rfl)
instance : TField Tryz.prog 38 2 2 := .of (by kernel_rfl)
instance : TField Tryz.prog 38 3 3 := .of (by kernel_rfl)
instance : TStruct Tryz.prog 38 [(0, 1), (1, 1), (2, 1), (3, 1)] := .of (by kernel_rfl)
instance : TZero Tryz.prog 38 [.string ⟨#[]⟩, .int .u32 0, .string ⟨#[]⟩, .slice none 0 0] := .of (v := .agg #[.string ⟨#[]⟩, .int .u32 0, .string ⟨#[]⟩, .slice none 0 0]) (n := 4) (by kernel_rfl) rfl rfl
instance : TRow Tryz.prog 38 4 64 := .of (by kernel_rfl)
-- type 39: func(string, api.Expr, api.Expr) api.Expr
instance : TSize Tryz.prog 39 1 := .of (by kernel_rfl)
instance : TOne Tryz.prog 39 := .of (by kernel_rfl)
instance : TConcrete Tryz.prog 39 := .of (by kernel_rfl)
instance : TZero Tryz.prog 39 [.nilFunc] := .of (v := .nilFunc) (n := 1) (by kernel_rfl) rfl rfl
instance : TRow Tryz.prog 39 1 8 := .of (by kernel_rfl)
-- type 40: func(string) api.Expr
instance : TSize Tryz.prog 40 1 := .of (by kernel_rfl)
instance : TOne Tryz.prog 40 := .of (by kernel_rfl)
instance : TConcrete Tryz.prog 40 := .of (by kernel_rfl)
instance : TZero Tryz.prog 40 [.nilFunc] := .of (v := .nilFunc) (n := 1) (by kernel_rfl) rfl rfl
instance : TRow Tryz.prog 40 1 8 := .of (by kernel_rfl)
-- type 41: func(api.Expr) api.Program
instance : TSize Tryz.prog 41 1 := .of (by kernel_rfl)
instance : TOne Tryz.prog 41 := .of (by kernel_rfl)
instance : TConcrete Tryz.prog 41 := .of (by kernel_rfl)
instance : TZero Tryz.prog 41 [.nilFunc] := .of (v := .nilFunc) (n := 1) (by kernel_rfl) rfl rfl
instance : TRow Tryz.prog 41 1 8 := .of (by kernel_rfl)
-- type 42: func(uint8, uint8) bool
instance : TSize Tryz.prog 42 1 := .of (by kernel_rfl)
instance : TOne Tryz.prog 42 := .of (by kernel_rfl)
instance : TConcrete Tryz.prog 42 := .of (by kernel_rfl)
instance : TZero Tryz.prog 42 [.nilFunc] := .of (v := .nilFunc) (n := 1) (by kernel_rfl) rfl rfl
instance : TRow Tryz.prog 42 1 8 := .of (by kernel_rfl)
-- type 43: func(string, string) bool
instance : TSize Tryz.prog 43 1 := .of (by kernel_rfl)
instance : TOne Tryz.prog 43 := .of (by kernel_rfl)
instance : TConcrete Tryz.prog 43 := .of (by kernel_rfl)
instance : TZero Tryz.prog 43 [.nilFunc] := .of (v := .nilFunc) (n := 1) (by kernel_rfl) rfl rfl
instance : TRow Tryz.prog 43 1 8 := .of (by kernel_rfl)
-- type 44: []api.Token
instance : TSize Tryz.prog 44 1 := .of (by kernel_rfl)
instance : TOne Tryz.prog 44 := .of (by kernel_rfl)
instance : TSlice Tryz.prog 44 48 3 := .of (by kernel_rfl)
instance : TConcrete Tryz.prog 44 := .of (by kernel_rfl)
instance : TZero Tryz.prog 44 [.slice none 0 0] := .of (v := .slice none 0 0) (n := 1) (by kernel_rfl) rfl rfl
instance : TRow Tryz.prog 44 1 24 := .of (by kernel_rfl)
-- type 46: func(string) ([]api.Token, int, api.Errno)
instance : TSize Tryz.prog 46 1 := .of (by kernel_rfl)
instance : TOne Tryz.prog 46 := .of (by kernel_rfl)
instance : TConcrete Tryz.prog 46 := .of (by kernel_rfl)
instance : TZero Tryz.prog 46 [.nilFunc] := .of (v := .nilFunc) (n := 1) (by kernel_rfl) rfl rfl
instance : TRow Tryz.prog 46 1 8 := .of (by kernel_rfl)
-- type 47: struct { Kind int; Text string; Line int }
instance : TSize Tryz.prog 47 3 := .of (by kernel_rfl)
instance : TAgg Tryz.prog 47 3 := .of (by kernel_rfl)
instance : TConcrete Tryz.prog 47 := .of (by kernel_rfl)
instance : TField Tryz.prog 47 0 0 := .of (by kernel_rfl)
instance : TField Tryz.prog 47 1 1 := .of (by kernel_rfl)
instance : TField Tryz.prog 47 2 2 := .of (by kernel_rfl)
instance : TStruct Tryz.prog 47 [(0, 1), (1, 1), (2, 1)] := .of (by kernel_rfl)
instance : TZero Tryz.prog 47 [.int .i64 0, .string ⟨#[]⟩, .int .i64 0] := .of (v := .agg #[.int .i64 0, .string ⟨#[]⟩, .int .i64 0]) (n := 3) (by kernel_rfl) rfl rfl
instance : TRow Tryz.prog 47 3 32 := .of (by kernel_rfl)
-- type 48: api.Token
instance : TSize Tryz.prog 48 3 := .of (by kernel_rfl)
instance : TAgg Tryz.prog 48 3 := .of (by kernel_rfl)
instance : TConcrete Tryz.prog 48 := .of (by kernel_rfl)
instance : TField Tryz.prog 48 0 0 := .of (by kernel_rfl)
instance : TField Tryz.prog 48 1 1 := .of (by kernel_rfl)
instance : TField Tryz.prog 48 2 2 := .of (by kernel_rfl)
instance : TStruct Tryz.prog 48 [(0, 1), (1, 1), (2, 1)] := .of (by kernel_rfl)
instance : TZero Tryz.prog 48 [.int .i64 0, .string ⟨#[]⟩, .int .i64 0] := .of (v := .agg #[.int .i64 0, .string ⟨#[]⟩, .int .i64 0]) (n := 3) (by kernel_rfl) rfl rfl
instance : TRow Tryz.prog 48 3 32 := .of (by kernel_rfl)
-- type 49: func([]string, string) string
instance : TSize Tryz.prog 49 1 := .of (by kernel_rfl)
instance : TOne Tryz.prog 49 := .of (by kernel_rfl)
instance : TConcrete Tryz.prog 49 := .of (by kernel_rfl)
instance : TZero Tryz.prog 49 [.nilFunc] := .of (v := .nilFunc) (n := 1) (by kernel_rfl) rfl rfl
instance : TRow Tryz.prog 49 1 8 := .of (by kernel_rfl)
-- type 50: func(api.Program) string
instance : TSize Tryz.prog 50 1 := .of (by kernel_rfl)
instance : TOne Tryz.prog 50 := .of (by kernel_rfl)
instance : TConcrete Tryz.prog 50 := .of (by kernel_rfl)
instance : TZero Tryz.prog 50 [.nilFunc] := .of (v := .nilFunc) (n := 1) (by kernel_rfl) rfl rfl
instance : TRow Tryz.prog 50 1 8 := .of (by kernel_rfl)
-- type 51: []api.Stmt
instance : TSize Tryz.prog 51 1 := .of (by kernel_rfl)
instance : TOne Tryz.prog 51 := .of (by kernel_rfl)
instance : TSlice Tryz.prog 51 80 6 := .of (by kernel_rfl)
instance : TConcrete Tryz.prog 51 := .of (by kernel_rfl)
instance : TZero Tryz.prog 51 [.slice none 0 0] := .of (v := .slice none 0 0) (n := 1) (by kernel_rfl) rfl rfl
instance : TRow Tryz.prog 51 1 24 := .of (by kernel_rfl)
-- type 52: struct { Name string; Params []string; Locals []string; Body []api.Stmt }
instance : TSize Tryz.prog 52 4 := .of (by kernel_rfl)
instance : TAgg Tryz.prog 52 4 := .of (by kernel_rfl)
instance : TConcrete Tryz.prog 52 := .of (by kernel_rfl)
instance : TField Tryz.prog 52 0 0 := .of (by kernel_rfl)
instance : TField Tryz.prog 52 1 1 := .of (by kernel_rfl)
instance : TField Tryz.prog 52 2 2 := .of (by kernel_rfl)
instance : TField Tryz.prog 52 3 3 := .of (by kernel_rfl)
instance : TStruct Tryz.prog 52 [(0, 1), (1, 1), (2, 1), (3, 1)] := .of (by kernel_rfl)
instance : TZero Tryz.prog 52 [.string ⟨#[]⟩, .slice none 0 0, .slice none 0 0, .slice none 0 0] := .of (v := .agg #[.string ⟨#[]⟩, .slice none 0 0, .slice none 0 0, .slice none 0 0]) (n := 4) (by kernel_rfl) rfl rfl
instance : TRow Tryz.prog 52 4 88 := .of (by kernel_rfl)
-- type 53: api.Func
instance : TSize Tryz.prog 53 4 := .of (by kernel_rfl)
instance : TAgg Tryz.prog 53 4 := .of (by kernel_rfl)
instance : TConcrete Tryz.prog 53 := .of (by kernel_rfl)
instance : TField Tryz.prog 53 0 0 := .of (by kernel_rfl)
instance : TField Tryz.prog 53 1 1 := .of (by kernel_rfl)
instance : TField Tryz.prog 53 2 2 := .of (by kernel_rfl)
instance : TField Tryz.prog 53 3 3 := .of (by kernel_rfl)
instance : TStruct Tryz.prog 53 [(0, 1), (1, 1), (2, 1), (3, 1)] := .of (by kernel_rfl)
instance : TZero Tryz.prog 53 [.string ⟨#[]⟩, .slice none 0 0, .slice none 0 0, .slice none 0 0] := .of (v := .agg #[.string ⟨#[]⟩, .slice none 0 0, .slice none 0 0, .slice none 0 0]) (n := 4) (by kernel_rfl) rfl rfl
instance : TRow Tryz.prog 53 4 88 := .of (by kernel_rfl)
-- type 54: func(string, int) string
instance : TSize Tryz.prog 54 1 := .of (by kernel_rfl)
instance : TOne Tryz.prog 54 := .of (by kernel_rfl)
instance : TConcrete Tryz.prog 54 := .of (by kernel_rfl)
instance : TZero Tryz.prog 54 [.nilFunc] := .of (v := .nilFunc) (n := 1) (by kernel_rfl) rfl rfl
instance : TRow Tryz.prog 54 1 8 := .of (by kernel_rfl)
-- type 55: func(string, uint8) bool
instance : TSize Tryz.prog 55 1 := .of (by kernel_rfl)
instance : TOne Tryz.prog 55 := .of (by kernel_rfl)
instance : TConcrete Tryz.prog 55 := .of (by kernel_rfl)
instance : TZero Tryz.prog 55 [.nilFunc] := .of (v := .nilFunc) (n := 1) (by kernel_rfl) rfl rfl
instance : TRow Tryz.prog 55 1 8 := .of (by kernel_rfl)
-- type 56: struct { line int; err api.Errno }
instance : TSize Tryz.prog 56 2 := .of (by kernel_rfl)
instance : TAgg Tryz.prog 56 2 := .of (by kernel_rfl)
instance : TConcrete Tryz.prog 56 := .of (by kernel_rfl)
instance : TField Tryz.prog 56 0 0 := .of (by kernel_rfl)
instance : TField Tryz.prog 56 1 1 := .of (by kernel_rfl)
instance : TStruct Tryz.prog 56 [(0, 1), (1, 1)] := .of (by kernel_rfl)
instance : TZero Tryz.prog 56 [.int .i64 0, .int .i64 0] := .of (v := .agg #[.int .i64 0, .int .i64 0]) (n := 2) (by kernel_rfl) rfl rfl
instance : TRow Tryz.prog 56 2 16 := .of (by kernel_rfl)
-- type 57: parser.failure
instance : TSize Tryz.prog 57 2 := .of (by kernel_rfl)
instance : TAgg Tryz.prog 57 2 := .of (by kernel_rfl)
instance : TConcrete Tryz.prog 57 := .of (by kernel_rfl)
instance : TField Tryz.prog 57 0 0 := .of (by kernel_rfl)
instance : TField Tryz.prog 57 1 1 := .of (by kernel_rfl)
instance : TStruct Tryz.prog 57 [(0, 1), (1, 1)] := .of (by kernel_rfl)
instance : TZero Tryz.prog 57 [.int .i64 0, .int .i64 0] := .of (v := .agg #[.int .i64 0, .int .i64 0]) (n := 2) (by kernel_rfl) rfl rfl
instance : TRow Tryz.prog 57 2 16 := .of (by kernel_rfl)
-- type 59: *parser.source
instance : TSize Tryz.prog 59 1 := .of (by kernel_rfl)
instance : TOne Tryz.prog 59 := .of (by kernel_rfl)
instance : TConcrete Tryz.prog 59 := .of (by kernel_rfl)
instance : TZero Tryz.prog 59 [.pointer none] := .of (v := .pointer none) (n := 1) (by kernel_rfl) rfl rfl
instance : TRow Tryz.prog 59 1 8 := .of (by kernel_rfl)
-- type 60: struct { tokens []api.Token; at int; open int }
instance : TSize Tryz.prog 60 3 := .of (by kernel_rfl)
instance : TAgg Tryz.prog 60 3 := .of (by kernel_rfl)
instance : TConcrete Tryz.prog 60 := .of (by kernel_rfl)
instance : TField Tryz.prog 60 0 0 := .of (by kernel_rfl)
instance : TField Tryz.prog 60 1 1 := .of (by kernel_rfl)
instance : TField Tryz.prog 60 2 2 := .of (by kernel_rfl)
instance : TStruct Tryz.prog 60 [(0, 1), (1, 1), (2, 1)] := .of (by kernel_rfl)
instance : TZero Tryz.prog 60 [.slice none 0 0, .int .i64 0, .int .i64 0] := .of (v := .agg #[.slice none 0 0, .int .i64 0, .int .i64 0]) (n := 3) (by kernel_rfl) rfl rfl
instance : TRow Tryz.prog 60 3 40 := .of (by kernel_rfl)
-- type 61: parser.source
instance : TSize Tryz.prog 61 3 := .of (by kernel_rfl)
instance : TAgg Tryz.prog 61 3 := .of (by kernel_rfl)
instance : TConcrete Tryz.prog 61 := .of (by kernel_rfl)
instance : TField Tryz.prog 61 0 0 := .of (by kernel_rfl)
instance : TField Tryz.prog 61 1 1 := .of (by kernel_rfl)
instance : TField Tryz.prog 61 2 2 := .of (by kernel_rfl)
instance : TStruct Tryz.prog 61 [(0, 1), (1, 1), (2, 1)] := .of (by kernel_rfl)
instance : TZero Tryz.prog 61 [.slice none 0 0, .int .i64 0, .int .i64 0] := .of (v := .agg #[.slice none 0 0, .int .i64 0, .int .i64 0]) (n := 3) (by kernel_rfl) rfl rfl
instance : TRow Tryz.prog 61 3 40 := .of (by kernel_rfl)
-- type 62: func() api.Program
instance : TSize Tryz.prog 62 1 := .of (by kernel_rfl)
instance : TOne Tryz.prog 62 := .of (by kernel_rfl)
instance : TConcrete Tryz.prog 62 := .of (by kernel_rfl)
instance : TZero Tryz.prog 62 [.nilFunc] := .of (v := .nilFunc) (n := 1) (by kernel_rfl) rfl rfl
instance : TRow Tryz.prog 62 1 8 := .of (by kernel_rfl)
-- type 63: *steleref20.reader
instance : TSize Tryz.prog 63 1 := .of (by kernel_rfl)
instance : TOne Tryz.prog 63 := .of (by kernel_rfl)
instance : TConcrete Tryz.prog 63 := .of (by kernel_rfl)
instance : TZero Tryz.prog 63 [.pointer none] := .of (v := .pointer none) (n := 1) (by kernel_rfl) rfl rfl
instance : TRow Tryz.prog 63 1 8 := .of (by kernel_rfl)
-- type 64: struct { l []api.Token; at int; open int; line int; err api.Errno }
instance : TSize Tryz.prog 64 5 := .of (by kernel_rfl)
instance : TAgg Tryz.prog 64 5 := .of (by kernel_rfl)
instance : TConcrete Tryz.prog 64 := .of (by kernel_rfl)
instance : TField Tryz.prog 64 0 0 := .of (by kernel_rfl)
instance : TField Tryz.prog 64 1 1 := .of (by kernel_rfl)
instance : TField Tryz.prog 64 2 2 := .of (by kernel_rfl)
instance : TField Tryz.prog 64 3 3 := .of (by kernel_rfl)
instance : TField Tryz.prog 64 4 4 := .of (by kernel_rfl)
instance : TStruct Tryz.prog 64 [(0, 1), (1, 1), (2, 1), (3, 1), (4, 1)] := .of (by kernel_rfl)
instance : TZero Tryz.prog 64 [.slice none 0 0, .int .i64 0, .int .i64 0, .int .i64 0, .int .i64 0] := .of (v := .agg #[.slice none 0 0, .int .i64 0, .int .i64 0, .int .i64 0, .int .i64 0]) (n := 5) (by kernel_rfl) rfl rfl
instance : TRow Tryz.prog 64 5 56 := .of (by kernel_rfl)
-- type 65: steleref20.reader
instance : TSize Tryz.prog 65 5 := .of (by kernel_rfl)
instance : TAgg Tryz.prog 65 5 := .of (by kernel_rfl)
instance : TConcrete Tryz.prog 65 := .of (by kernel_rfl)
instance : TField Tryz.prog 65 0 0 := .of (by kernel_rfl)
instance : TField Tryz.prog 65 1 1 := .of (by kernel_rfl)
instance : TField Tryz.prog 65 2 2 := .of (by kernel_rfl)
instance : TField Tryz.prog 65 3 3 := .of (by kernel_rfl)
instance : TField Tryz.prog 65 4 4 := .of (by kernel_rfl)
instance : TStruct Tryz.prog 65 [(0, 1), (1, 1), (2, 1), (3, 1), (4, 1)] := .of (by kernel_rfl)
instance : TZero Tryz.prog 65 [.slice none 0 0, .int .i64 0, .int .i64 0, .int .i64 0, .int .i64 0] := .of (v := .agg #[.slice none 0 0, .int .i64 0, .int .i64 0, .int .i64 0, .int .i64 0]) (n := 5) (by kernel_rfl) rfl rfl
instance : TRow Tryz.prog 65 5 56 := .of (by kernel_rfl)
-- type 66: func() []string
instance : TSize Tryz.prog 66 1 := .of (by kernel_rfl)
instance : TOne Tryz.prog 66 := .of (by kernel_rfl)
instance : TConcrete Tryz.prog 66 := .of (by kernel_rfl)
instance : TZero Tryz.prog 66 [.nilFunc] := .of (v := .nilFunc) (n := 1) (by kernel_rfl) rfl rfl
instance : TRow Tryz.prog 66 1 8 := .of (by kernel_rfl)
-- type 67: func(string)
instance : TSize Tryz.prog 67 1 := .of (by kernel_rfl)
instance : TOne Tryz.prog 67 := .of (by kernel_rfl)
instance : TConcrete Tryz.prog 67 := .of (by kernel_rfl)
instance : TZero Tryz.prog 67 [.nilFunc] := .of (v := .nilFunc) (n := 1) (by kernel_rfl) rfl rfl
instance : TRow Tryz.prog 67 1 8 := .of (by kernel_rfl)
-- type 68: func() string
instance : TSize Tryz.prog 68 1 := .of (by kernel_rfl)
instance : TOne Tryz.prog 68 := .of (by kernel_rfl)
instance : TConcrete Tryz.prog 68 := .of (by kernel_rfl)
instance : TZero Tryz.prog 68 [.nilFunc] := .of (v := .nilFunc) (n := 1) (by kernel_rfl) rfl rfl
instance : TRow Tryz.prog 68 1 8 := .of (by kernel_rfl)
-- type 69: struct { Name string; Size int }
instance : TSize Tryz.prog 69 2 := .of (by kernel_rfl)
instance : TAgg Tryz.prog 69 2 := .of (by kernel_rfl)
instance : TConcrete Tryz.prog 69 := .of (by kernel_rfl)
instance : TField Tryz.prog 69 0 0 := .of (by kernel_rfl)
instance : TField Tryz.prog 69 1 1 := .of (by kernel_rfl)
instance : TStruct Tryz.prog 69 [(0, 1), (1, 1)] := .of (by kernel_rfl)
instance : TZero Tryz.prog 69 [.string ⟨#[]⟩, .int .i64 0] := .of (v := .agg #[.string ⟨#[]⟩, .int .i64 0]) (n := 2) (by kernel_rfl) rfl rfl
instance : TRow Tryz.prog 69 2 24 := .of (by kernel_rfl)
-- type 70: api.Array
instance : TSize Tryz.prog 70 2 := .of (by kernel_rfl)
instance : TAgg Tryz.prog 70 2 := .of (by kernel_rfl)
instance : TConcrete Tryz.prog 70 := .of (by kernel_rfl)
instance : TField Tryz.prog 70 0 0 := .of (by kernel_rfl)
instance : TField Tryz.prog 70 1 1 := .of (by kernel_rfl)
instance : TStruct Tryz.prog 70 [(0, 1), (1, 1)] := .of (by kernel_rfl)
instance : TZero Tryz.prog 70 [.string ⟨#[]⟩, .int .i64 0] := .of (v := .agg #[.string ⟨#[]⟩, .int .i64 0]) (n := 2) (by kernel_rfl) rfl rfl
instance : TRow Tryz.prog 70 2 24 := .of (by kernel_rfl)
-- type 71: func() uint32
instance : TSize Tryz.prog 71 1 := .of (by kernel_rfl)
instance : TOne Tryz.prog 71 := .of (by kernel_rfl)
instance : TConcrete Tryz.prog 71 := .of (by kernel_rfl)
instance : TZero Tryz.prog 71 [.nilFunc] := .of (v := .nilFunc) (n := 1) (by kernel_rfl) rfl rfl
instance : TRow Tryz.prog 71 1 8 := .of (by kernel_rfl)
-- type 72: func() api.Func
instance : TSize Tryz.prog 72 1 := .of (by kernel_rfl)
instance : TOne Tryz.prog 72 := .of (by kernel_rfl)
instance : TConcrete Tryz.prog 72 := .of (by kernel_rfl)
instance : TZero Tryz.prog 72 [.nilFunc] := .of (v := .nilFunc) (n := 1) (by kernel_rfl) rfl rfl
instance : TRow Tryz.prog 72 1 8 := .of (by kernel_rfl)
-- type 73: func(api.Errno)
instance : TSize Tryz.prog 73 1 := .of (by kernel_rfl)
instance : TOne Tryz.prog 73 := .of (by kernel_rfl)
instance : TConcrete Tryz.prog 73 := .of (by kernel_rfl)
instance : TZero Tryz.prog 73 [.nilFunc] := .of (v := .nilFunc) (n := 1) (by kernel_rfl) rfl rfl
instance : TRow Tryz.prog 73 1 8 := .of (by kernel_rfl)
-- type 74: func([]string, []string) bool
instance : TSize Tryz.prog 74 1 := .of (by kernel_rfl)
instance : TOne Tryz.prog 74 := .of (by kernel_rfl)
instance : TConcrete Tryz.prog 74 := .of (by kernel_rfl)
instance : TZero Tryz.prog 74 [.nilFunc] := .of (v := .nilFunc) (n := 1) (by kernel_rfl) rfl rfl
instance : TRow Tryz.prog 74 1 8 := .of (by kernel_rfl)
-- type 75: func([]api.Stmt, []api.Stmt) bool
instance : TSize Tryz.prog 75 1 := .of (by kernel_rfl)
instance : TOne Tryz.prog 75 := .of (by kernel_rfl)
instance : TConcrete Tryz.prog 75 := .of (by kernel_rfl)
instance : TZero Tryz.prog 75 [.nilFunc] := .of (v := .nilFunc) (n := 1) (by kernel_rfl) rfl rfl
instance : TRow Tryz.prog 75 1 8 := .of (by kernel_rfl)
-- type 76: func([]api.Array, []api.Array) bool
instance : TSize Tryz.prog 76 1 := .of (by kernel_rfl)
instance : TOne Tryz.prog 76 := .of (by kernel_rfl)
instance : TConcrete Tryz.prog 76 := .of (by kernel_rfl)
instance : TZero Tryz.prog 76 [.nilFunc] := .of (v := .nilFunc) (n := 1) (by kernel_rfl) rfl rfl
instance : TRow Tryz.prog 76 1 8 := .of (by kernel_rfl)
-- type 77: func([]api.Func, []api.Func, func(api.Func, api.Func) bool) bool
instance : TSize Tryz.prog 77 1 := .of (by kernel_rfl)
instance : TOne Tryz.prog 77 := .of (by kernel_rfl)
instance : TConcrete Tryz.prog 77 := .of (by kernel_rfl)
instance : TZero Tryz.prog 77 [.nilFunc] := .of (v := .nilFunc) (n := 1) (by kernel_rfl) rfl rfl
instance : TRow Tryz.prog 77 1 8 := .of (by kernel_rfl)
-- type 78: func(api.Func, api.Func) bool
instance : TSize Tryz.prog 78 1 := .of (by kernel_rfl)
instance : TOne Tryz.prog 78 := .of (by kernel_rfl)
instance : TConcrete Tryz.prog 78 := .of (by kernel_rfl)
instance : TZero Tryz.prog 78 [.nilFunc] := .of (v := .nilFunc) (n := 1) (by kernel_rfl) rfl rfl
instance : TRow Tryz.prog 78 1 8 := .of (by kernel_rfl)
-- type 79: struct { Kind int; Name string; Index []api.Expr; Value []api.Expr; Then []api.S
instance : TSize Tryz.prog 79 6 := .of (by kernel_rfl)
instance : TAgg Tryz.prog 79 6 := .of (by kernel_rfl)
instance : TConcrete Tryz.prog 79 := .of (by kernel_rfl)
instance : TField Tryz.prog 79 0 0 := .of (by kernel_rfl)
instance : TField Tryz.prog 79 1 1 := .of (by kernel_rfl)
instance : TField Tryz.prog 79 2 2 := .of (by kernel_rfl)
instance : TField Tryz.prog 79 3 3 := .of (by kernel_rfl)
instance : TField Tryz.prog 79 4 4 := .of (by kernel_rfl)
instance : TField Tryz.prog 79 5 5 := .of (by kernel_rfl)
instance : TStruct Tryz.prog 79 [(0, 1), (1, 1), (2, 1), (3, 1), (4, 1), (5, 1)] := .of (by kernel_rfl)
instance : TZero Tryz.prog 79 [.int .i64 0, .string ⟨#[]⟩, .slice none 0 0, .slice none 0 0, .slice none 0 0, .slice none 0 0] := .of (v := .agg #[.int .i64 0, .string ⟨#[]⟩, .slice none 0 0, .slice none 0 0, .slice none 0 0, .slice none 0 0]) (n := 6) (by kernel_rfl) rfl rfl
instance : TRow Tryz.prog 79 6 120 := .of (by kernel_rfl)
-- type 80: api.Stmt
instance : TSize Tryz.prog 80 6 := .of (by kernel_rfl)
instance : TAgg Tryz.prog 80 6 := .of (by kernel_rfl)
instance : TConcrete Tryz.prog 80 := .of (by kernel_rfl)
instance : TField Tryz.prog 80 0 0 := .of (by kernel_rfl)
instance : TField Tryz.prog 80 1 1 := .of (by kernel_rfl)
instance : TField Tryz.prog 80 2 2 := .of (by kernel_rfl)
instance : TField Tryz.prog 80 3 3 := .of (by kernel_rfl)
instance : TField Tryz.prog 80 4 4 := .of (by kernel_rfl)
instance : TField Tryz.prog 80 5 5 := .of (by kernel_rfl)
instance : TStruct Tryz.prog 80 [(0, 1), (1, 1), (2, 1), (3, 1), (4, 1), (5, 1)] := .of (by kernel_rfl)
instance : TZero Tryz.prog 80 [.int .i64 0, .string ⟨#[]⟩, .slice none 0 0, .slice none 0 0, .slice none 0 0, .slice none 0 0] := .of (v := .agg #[.int .i64 0, .string ⟨#[]⟩, .slice none 0 0, .slice none 0 0, .slice none 0 0, .slice none 0 0]) (n := 6) (by kernel_rfl) rfl rfl
instance : TRow Tryz.prog 80 6 120 := .of (by kernel_rfl)
-- type 82: func(string) (api.Token, int, api.Errno)
instance : TSize Tryz.prog 82 1 := .of (by kernel_rfl)
instance : TOne Tryz.prog 82 := .of (by kernel_rfl)
instance : TConcrete Tryz.prog 82 := .of (by kernel_rfl)
instance : TZero Tryz.prog 82 [.nilFunc] := .of (v := .nilFunc) (n := 1) (by kernel_rfl) rfl rfl
instance : TRow Tryz.prog 82 1 8 := .of (by kernel_rfl)
-- type 83: func(string, string) int
instance : TSize Tryz.prog 83 1 := .of (by kernel_rfl)
instance : TOne Tryz.prog 83 := .of (by kernel_rfl)
instance : TConcrete Tryz.prog 83 := .of (by kernel_rfl)
instance : TZero Tryz.prog 83 [.nilFunc] := .of (v := .nilFunc) (n := 1) (by kernel_rfl) rfl rfl
instance : TRow Tryz.prog 83 1 8 := .of (by kernel_rfl)
-- type 84: *strings.Builder
instance : TSize Tryz.prog 84 1 := .of (by kernel_rfl)
instance : TOne Tryz.prog 84 := .of (by kernel_rfl)
instance : TConcrete Tryz.prog 84 := .of (by kernel_rfl)
instance : TZero Tryz.prog 84 [.pointer none] := .of (v := .pointer none) (n := 1) (by kernel_rfl) rfl rfl
instance : TRow Tryz.prog 84 1 8 := .of (by kernel_rfl)
-- type 85: []uint8
instance : TSize Tryz.prog 85 1 := .of (by kernel_rfl)
instance : TOne Tryz.prog 85 := .of (by kernel_rfl)
instance : TSlice Tryz.prog 85 5 1 := .of (by kernel_rfl)
instance : TConcrete Tryz.prog 85 := .of (by kernel_rfl)
instance : TZero Tryz.prog 85 [.slice none 0 0] := .of (v := .slice none 0 0) (n := 1) (by kernel_rfl) rfl rfl
instance : TRow Tryz.prog 85 1 24 := .of (by kernel_rfl)
-- type 86: struct { addr *strings.Builder; buf []uint8 }
instance : TSize Tryz.prog 86 2 := .of (by kernel_rfl)
instance : TAgg Tryz.prog 86 2 := .of (by kernel_rfl)
instance : TConcrete Tryz.prog 86 := .of (by kernel_rfl)
instance : TField Tryz.prog 86 0 0 := .of (by kernel_rfl)
instance : TField Tryz.prog 86 1 1 := .of (by kernel_rfl)
instance : TStruct Tryz.prog 86 [(0, 1), (1, 1)] := .of (by kernel_rfl)
instance : TZero Tryz.prog 86 [.pointer none, .slice none 0 0] := .of (v := .agg #[.pointer none, .slice none 0 0]) (n := 2) (by kernel_rfl) rfl rfl
instance : TRow Tryz.prog 86 2 32 := .of (by kernel_rfl)
-- type 87: strings.Builder
instance : TSize Tryz.prog 87 2 := .of (by kernel_rfl)
instance : TAgg Tryz.prog 87 2 := .of (by kernel_rfl)
instance : TConcrete Tryz.prog 87 := .of (by kernel_rfl)
instance : TField Tryz.prog 87 0 0 := .of (by kernel_rfl)
instance : TField Tryz.prog 87 1 1 := .of (by kernel_rfl)
instance : TStruct Tryz.prog 87 [(0, 1), (1, 1)] := .of (by kernel_rfl)
instance : TZero Tryz.prog 87 [.pointer none, .slice none 0 0] := .of (v := .agg #[.pointer none, .slice none 0 0]) (n := 2) (by kernel_rfl) rfl rfl
instance : TRow Tryz.prog 87 2 32 := .of (by kernel_rfl)
-- type 88: func(int)
instance : TSize Tryz.prog 88 1 := .of (by kernel_rfl)
instance : TOne Tryz.prog 88 := .of (by kernel_rfl)
instance : TConcrete Tryz.prog 88 := .of (by kernel_rfl)
instance : TZero Tryz.prog 88 [.nilFunc] := .of (v := .nilFunc) (n := 1) (by kernel_rfl) rfl rfl
instance : TRow Tryz.prog 88 1 8 := .of (by kernel_rfl)
-- type 89: interface { Error() string }
instance : TSize Tryz.prog 89 1 := .of (by kernel_rfl)
instance : TOne Tryz.prog 89 := .of (by kernel_rfl)
instance : TZero Tryz.prog 89 [.nilIface] := .of (v := .nilIface) (n := 1) (by kernel_rfl) rfl rfl
instance : TRow Tryz.prog 89 1 16 := .of (by kernel_rfl)
-- type 90: error
instance : TSize Tryz.prog 90 1 := .of (by kernel_rfl)
instance : TOne Tryz.prog 90 := .of (by kernel_rfl)
instance : TZero Tryz.prog 90 [.nilIface] := .of (v := .nilIface) (n := 1) (by kernel_rfl) rfl rfl
instance : TRow Tryz.prog 90 1 16 := .of (by kernel_rfl)
-- type 92: func(string) (int, error)
instance : TSize Tryz.prog 92 1 := .of (by kernel_rfl)
instance : TOne Tryz.prog 92 := .of (by kernel_rfl)
instance : TConcrete Tryz.prog 92 := .of (by kernel_rfl)
instance : TZero Tryz.prog 92 [.nilFunc] := .of (v := .nilFunc) (n := 1) (by kernel_rfl) rfl rfl
instance : TRow Tryz.prog 92 1 8 := .of (by kernel_rfl)
-- type 93: func(int) string
instance : TSize Tryz.prog 93 1 := .of (by kernel_rfl)
instance : TOne Tryz.prog 93 := .of (by kernel_rfl)
instance : TConcrete Tryz.prog 93 := .of (by kernel_rfl)
instance : TZero Tryz.prog 93 [.nilFunc] := .of (v := .nilFunc) (n := 1) (by kernel_rfl) rfl rfl
instance : TRow Tryz.prog 93 1 8 := .of (by kernel_rfl)
-- type 94: func(*strings.Builder, []api.Stmt, string)
instance : TSize Tryz.prog 94 1 := .of (by kernel_rfl)
instance : TOne Tryz.prog 94 := .of (by kernel_rfl)
instance : TConcrete Tryz.prog 94 := .of (by kernel_rfl)
instance : TZero Tryz.prog 94 [.nilFunc] := .of (v := .nilFunc) (n := 1) (by kernel_rfl) rfl rfl
instance : TRow Tryz.prog 94 1 8 := .of (by kernel_rfl)
-- type 95: uint
instance : TSize Tryz.prog 95 1 := .of (by kernel_rfl)
instance : TOne Tryz.prog 95 := .of (by kernel_rfl)
instance : TKind Tryz.prog 95 .u64 := .of (by kernel_rfl)
instance : TConcrete Tryz.prog 95 := .of (by kernel_rfl)
instance : TZero Tryz.prog 95 [.int .u64 0] := .of (v := .int .u64 0) (n := 1) (by kernel_rfl) rfl rfl
instance : TRow Tryz.prog 95 1 8 := .of (by kernel_rfl)
-- type 97: func(uint, uint) (uint, uint)
instance : TSize Tryz.prog 97 1 := .of (by kernel_rfl)
instance : TOne Tryz.prog 97 := .of (by kernel_rfl)
instance : TConcrete Tryz.prog 97 := .of (by kernel_rfl)
instance : TZero Tryz.prog 97 [.nilFunc] := .of (v := .nilFunc) (n := 1) (by kernel_rfl) rfl rfl
instance : TRow Tryz.prog 97 1 8 := .of (by kernel_rfl)
-- type 98: func() int
instance : TSize Tryz.prog 98 1 := .of (by kernel_rfl)
instance : TOne Tryz.prog 98 := .of (by kernel_rfl)
instance : TConcrete Tryz.prog 98 := .of (by kernel_rfl)
instance : TZero Tryz.prog 98 [.nilFunc] := .of (v := .nilFunc) (n := 1) (by kernel_rfl) rfl rfl
instance : TRow Tryz.prog 98 1 8 := .of (by kernel_rfl)
-- type 99: func([]string) string
instance : TSize Tryz.prog 99 1 := .of (by kernel_rfl)
instance : TOne Tryz.prog 99 := .of (by kernel_rfl)
instance : TConcrete Tryz.prog 99 := .of (by kernel_rfl)
instance : TZero Tryz.prog 99 [.nilFunc] := .of (v := .nilFunc) (n := 1) (by kernel_rfl) rfl rfl
instance : TRow Tryz.prog 99 1 8 := .of (by kernel_rfl)
-- type 100: func(uint32) string
instance : TSize Tryz.prog 100 1 := .of (by kernel_rfl)
instance : TOne Tryz.prog 100 := .of (by kernel_rfl)
instance : TConcrete Tryz.prog 100 := .of (by kernel_rfl)
instance : TZero Tryz.prog 100 [.nilFunc] := .of (v := .nilFunc) (n := 1) (by kernel_rfl) rfl rfl
instance : TRow Tryz.prog 100 1 8 := .of (by kernel_rfl)
-- type 101: func([]api.Stmt, string) string
instance : TSize Tryz.prog 101 1 := .of (by kernel_rfl)
instance : TOne Tryz.prog 101 := .of (by kernel_rfl)
instance : TConcrete Tryz.prog 101 := .of (by kernel_rfl)
instance : TZero Tryz.prog 101 [.nilFunc] := .of (v := .nilFunc) (n := 1) (by kernel_rfl) rfl rfl
instance : TRow Tryz.prog 101 1 8 := .of (by kernel_rfl)
-- type 102: func(...string) bool
instance : TSize Tryz.prog 102 1 := .of (by kernel_rfl)
instance : TOne Tryz.prog 102 := .of (by kernel_rfl)
instance : TConcrete Tryz.prog 102 := .of (by kernel_rfl)
instance : TZero Tryz.prog 102 [.nilFunc] := .of (v := .nilFunc) (n := 1) (by kernel_rfl) rfl rfl
instance : TRow Tryz.prog 102 1 8 := .of (by kernel_rfl)
-- type 103: func() api.Array
instance : TSize Tryz.prog 103 1 := .of (by kernel_rfl)
instance : TOne Tryz.prog 103 := .of (by kernel_rfl)
instance : TConcrete Tryz.prog 103 := .of (by kernel_rfl)
instance : TZero Tryz.prog 103 [.nilFunc] := .of (v := .nilFunc) (n := 1) (by kernel_rfl) rfl rfl
instance : TRow Tryz.prog 103 1 8 := .of (by kernel_rfl)
-- type 104: struct { Token api.Token; Size int; Err api.Errno }
instance : TSize Tryz.prog 104 5 := .of (by kernel_rfl)
instance : TAgg Tryz.prog 104 5 := .of (by kernel_rfl)
instance : TConcrete Tryz.prog 104 := .of (by kernel_rfl)
instance : TField Tryz.prog 104 0 0 := .of (by kernel_rfl)
instance : TField Tryz.prog 104 1 3 := .of (by kernel_rfl)
instance : TField Tryz.prog 104 2 4 := .of (by kernel_rfl)
instance : TStruct Tryz.prog 104 [(0, 3), (3, 1), (4, 1)] := .of (by kernel_rfl)
instance : TZero Tryz.prog 104 [.int .i64 0, .string ⟨#[]⟩, .int .i64 0, .int .i64 0, .int .i64 0] := .of (v := .agg #[.int .i64 0, .string ⟨#[]⟩, .int .i64 0, .int .i64 0, .int .i64 0]) (n := 5) (by kernel_rfl) rfl rfl
instance : TRow Tryz.prog 104 5 48 := .of (by kernel_rfl)
-- type 105: steleref19.T
instance : TSize Tryz.prog 105 5 := .of (by kernel_rfl)
instance : TAgg Tryz.prog 105 5 := .of (by kernel_rfl)
instance : TConcrete Tryz.prog 105 := .of (by kernel_rfl)
instance : TField Tryz.prog 105 0 0 := .of (by kernel_rfl)
instance : TField Tryz.prog 105 1 3 := .of (by kernel_rfl)
instance : TField Tryz.prog 105 2 4 := .of (by kernel_rfl)
instance : TStruct Tryz.prog 105 [(0, 3), (3, 1), (4, 1)] := .of (by kernel_rfl)
instance : TZero Tryz.prog 105 [.int .i64 0, .string ⟨#[]⟩, .int .i64 0, .int .i64 0, .int .i64 0] := .of (v := .agg #[.int .i64 0, .string ⟨#[]⟩, .int .i64 0, .int .i64 0, .int .i64 0]) (n := 5) (by kernel_rfl) rfl rfl
instance : TRow Tryz.prog 105 5 48 := .of (by kernel_rfl)
-- type 106: func(string) steleref19.T
instance : TSize Tryz.prog 106 1 := .of (by kernel_rfl)
instance : TOne Tryz.prog 106 := .of (by kernel_rfl)
instance : TConcrete Tryz.prog 106 := .of (by kernel_rfl)
instance : TZero Tryz.prog 106 [.nilFunc] := .of (v := .nilFunc) (n := 1) (by kernel_rfl) rfl rfl
instance : TRow Tryz.prog 106 1 8 := .of (by kernel_rfl)
-- type 107: func(int) bool
instance : TSize Tryz.prog 107 1 := .of (by kernel_rfl)
instance : TOne Tryz.prog 107 := .of (by kernel_rfl)
instance : TConcrete Tryz.prog 107 := .of (by kernel_rfl)
instance : TZero Tryz.prog 107 [.nilFunc] := .of (v := .nilFunc) (n := 1) (by kernel_rfl) rfl rfl
instance : TRow Tryz.prog 107 1 8 := .of (by kernel_rfl)
-- type 108: func() []api.Stmt
instance : TSize Tryz.prog 108 1 := .of (by kernel_rfl)
instance : TOne Tryz.prog 108 := .of (by kernel_rfl)
instance : TConcrete Tryz.prog 108 := .of (by kernel_rfl)
instance : TZero Tryz.prog 108 [.nilFunc] := .of (v := .nilFunc) (n := 1) (by kernel_rfl) rfl rfl
instance : TRow Tryz.prog 108 1 8 := .of (by kernel_rfl)
-- type 109: func([]api.Expr, []api.Expr) bool
instance : TSize Tryz.prog 109 1 := .of (by kernel_rfl)
instance : TOne Tryz.prog 109 := .of (by kernel_rfl)
instance : TConcrete Tryz.prog 109 := .of (by kernel_rfl)
instance : TZero Tryz.prog 109 [.nilFunc] := .of (v := .nilFunc) (n := 1) (by kernel_rfl) rfl rfl
instance : TRow Tryz.prog 109 1 8 := .of (by kernel_rfl)
-- type 110: func([]api.Stmt, []api.Stmt, func(api.Stmt, api.Stmt) bool) bool
instance : TSize Tryz.prog 110 1 := .of (by kernel_rfl)
instance : TOne Tryz.prog 110 := .of (by kernel_rfl)
instance : TConcrete Tryz.prog 110 := .of (by kernel_rfl)
instance : TZero Tryz.prog 110 [.nilFunc] := .of (v := .nilFunc) (n := 1) (by kernel_rfl) rfl rfl
instance : TRow Tryz.prog 110 1 8 := .of (by kernel_rfl)
-- type 111: func(api.Stmt, api.Stmt) bool
instance : TSize Tryz.prog 111 1 := .of (by kernel_rfl)
instance : TOne Tryz.prog 111 := .of (by kernel_rfl)
instance : TConcrete Tryz.prog 111 := .of (by kernel_rfl)
instance : TZero Tryz.prog 111 [.nilFunc] := .of (v := .nilFunc) (n := 1) (by kernel_rfl) rfl rfl
instance : TRow Tryz.prog 111 1 8 := .of (by kernel_rfl)
-- type 112: func(string, func(uint8) bool) string
instance : TSize Tryz.prog 112 1 := .of (by kernel_rfl)
instance : TOne Tryz.prog 112 := .of (by kernel_rfl)
instance : TConcrete Tryz.prog 112 := .of (by kernel_rfl)
instance : TZero Tryz.prog 112 [.nilFunc] := .of (v := .nilFunc) (n := 1) (by kernel_rfl) rfl rfl
instance : TRow Tryz.prog 112 1 8 := .of (by kernel_rfl)
-- type 113: func(uint8) bool
instance : TSize Tryz.prog 113 1 := .of (by kernel_rfl)
instance : TOne Tryz.prog 113 := .of (by kernel_rfl)
instance : TConcrete Tryz.prog 113 := .of (by kernel_rfl)
instance : TZero Tryz.prog 113 [.nilFunc] := .of (v := .nilFunc) (n := 1) (by kernel_rfl) rfl rfl
instance : TRow Tryz.prog 113 1 8 := .of (by kernel_rfl)
-- type 114: func(string, uint8) int
instance : TSize Tryz.prog 114 1 := .of (by kernel_rfl)
instance : TOne Tryz.prog 114 := .of (by kernel_rfl)
instance : TConcrete Tryz.prog 114 := .of (by kernel_rfl)
instance : TZero Tryz.prog 114 [.nilFunc] := .of (v := .nilFunc) (n := 1) (by kernel_rfl) rfl rfl
instance : TRow Tryz.prog 114 1 8 := .of (by kernel_rfl)
-- type 115: *uint8
instance : TSize Tryz.prog 115 1 := .of (by kernel_rfl)
instance : TOne Tryz.prog 115 := .of (by kernel_rfl)
instance : TConcrete Tryz.prog 115 := .of (by kernel_rfl)
instance : TZero Tryz.prog 115 [.pointer none] := .of (v := .pointer none) (n := 1) (by kernel_rfl) rfl rfl
instance : TRow Tryz.prog 115 1 8 := .of (by kernel_rfl)
-- type 116: func([]api.Expr) string
instance : TSize Tryz.prog 116 1 := .of (by kernel_rfl)
instance : TOne Tryz.prog 116 := .of (by kernel_rfl)
instance : TConcrete Tryz.prog 116 := .of (by kernel_rfl)
instance : TZero Tryz.prog 116 [.nilFunc] := .of (v := .nilFunc) (n := 1) (by kernel_rfl) rfl rfl
instance : TRow Tryz.prog 116 1 8 := .of (by kernel_rfl)
-- type 118: func(uint32, uint32) (uint32, uint32)
instance : TSize Tryz.prog 118 1 := .of (by kernel_rfl)
instance : TOne Tryz.prog 118 := .of (by kernel_rfl)
instance : TConcrete Tryz.prog 118 := .of (by kernel_rfl)
instance : TZero Tryz.prog 118 [.nilFunc] := .of (v := .nilFunc) (n := 1) (by kernel_rfl) rfl rfl
instance : TRow Tryz.prog 118 1 8 := .of (by kernel_rfl)
-- type 119: uint64
instance : TSize Tryz.prog 119 1 := .of (by kernel_rfl)
instance : TOne Tryz.prog 119 := .of (by kernel_rfl)
instance : TKind Tryz.prog 119 .u64 := .of (by kernel_rfl)
instance : TConcrete Tryz.prog 119 := .of (by kernel_rfl)
instance : TZero Tryz.prog 119 [.int .u64 0] := .of (v := .int .u64 0) (n := 1) (by kernel_rfl) rfl rfl
instance : TRow Tryz.prog 119 1 8 := .of (by kernel_rfl)
-- type 121: func(uint64, uint64) (uint64, uint64)
instance : TSize Tryz.prog 121 1 := .of (by kernel_rfl)
instance : TOne Tryz.prog 121 := .of (by kernel_rfl)
instance : TConcrete Tryz.prog 121 := .of (by kernel_rfl)
instance : TZero Tryz.prog 121 [.nilFunc] := .of (v := .nilFunc) (n := 1) (by kernel_rfl) rfl rfl
instance : TRow Tryz.prog 121 1 8 := .of (by kernel_rfl)
-- type 122: func(api.Expr) string
instance : TSize Tryz.prog 122 1 := .of (by kernel_rfl)
instance : TOne Tryz.prog 122 := .of (by kernel_rfl)
instance : TConcrete Tryz.prog 122 := .of (by kernel_rfl)
instance : TZero Tryz.prog 122 [.nilFunc] := .of (v := .nilFunc) (n := 1) (by kernel_rfl) rfl rfl
instance : TRow Tryz.prog 122 1 8 := .of (by kernel_rfl)
-- type 123: func([]api.Expr) api.Expr
instance : TSize Tryz.prog 123 1 := .of (by kernel_rfl)
instance : TOne Tryz.prog 123 := .of (by kernel_rfl)
instance : TConcrete Tryz.prog 123 := .of (by kernel_rfl)
instance : TZero Tryz.prog 123 [.nilFunc] := .of (v := .nilFunc) (n := 1) (by kernel_rfl) rfl rfl
instance : TRow Tryz.prog 123 1 8 := .of (by kernel_rfl)
-- type 124: func([]string, string) bool
instance : TSize Tryz.prog 124 1 := .of (by kernel_rfl)
instance : TOne Tryz.prog 124 := .of (by kernel_rfl)
instance : TConcrete Tryz.prog 124 := .of (by kernel_rfl)
instance : TZero Tryz.prog 124 [.nilFunc] := .of (v := .nilFunc) (n := 1) (by kernel_rfl) rfl rfl
instance : TRow Tryz.prog 124 1 8 := .of (by kernel_rfl)
-- type 125: func() api.Stmt
instance : TSize Tryz.prog 125 1 := .of (by kernel_rfl)
instance : TOne Tryz.prog 125 := .of (by kernel_rfl)
instance : TConcrete Tryz.prog 125 := .of (by kernel_rfl)
instance : TZero Tryz.prog 125 [.nilFunc] := .of (v := .nilFunc) (n := 1) (by kernel_rfl) rfl rfl
instance : TRow Tryz.prog 125 1 8 := .of (by kernel_rfl)
-- type 126: func([]api.Expr, []api.Expr, func(api.Expr, api.Expr) bool) bool
instance : TSize Tryz.prog 126 1 := .of (by kernel_rfl)
instance : TOne Tryz.prog 126 := .of (by kernel_rfl)
instance : TConcrete Tryz.prog 126 := .of (by kernel_rfl)
instance : TZero Tryz.prog 126 [.nilFunc] := .of (v := .nilFunc) (n := 1) (by kernel_rfl) rfl rfl
instance : TRow Tryz.prog 126 1 8 := .of (by kernel_rfl)
-- type 127: func(api.Expr, api.Expr) bool
instance : TSize Tryz.prog 127 1 := .of (by kernel_rfl)
instance : TOne Tryz.prog 127 := .of (by kernel_rfl)
instance : TConcrete Tryz.prog 127 := .of (by kernel_rfl)
instance : TZero Tryz.prog 127 [.nilFunc] := .of (v := .nilFunc) (n := 1) (by kernel_rfl) rfl rfl
instance : TRow Tryz.prog 127 1 8 := .of (by kernel_rfl)
-- type 129: func(string, int, int) (uint64, error)
instance : TSize Tryz.prog 129 1 := .of (by kernel_rfl)
instance : TOne Tryz.prog 129 := .of (by kernel_rfl)
instance : TConcrete Tryz.prog 129 := .of (by kernel_rfl)
instance : TZero Tryz.prog 129 [.nilFunc] := .of (v := .nilFunc) (n := 1) (by kernel_rfl) rfl rfl
instance : TRow Tryz.prog 129 1 8 := .of (by kernel_rfl)
-- type 130: func(uint64, int) string
instance : TSize Tryz.prog 130 1 := .of (by kernel_rfl)
instance : TOne Tryz.prog 130 := .of (by kernel_rfl)
instance : TConcrete Tryz.prog 130 := .of (by kernel_rfl)
instance : TZero Tryz.prog 130 [.nilFunc] := .of (v := .nilFunc) (n := 1) (by kernel_rfl) rfl rfl
instance : TRow Tryz.prog 130 1 8 := .of (by kernel_rfl)
-- type 131: unsafe.Pointer
instance : TSize Tryz.prog 131 1 := .of (by kernel_rfl)
instance : TOne Tryz.prog 131 := .of (by kernel_rfl)
instance : TConcrete Tryz.prog 131 := .of (by kernel_rfl)
instance : TZero Tryz.prog 131 [.pointer none] := .of (v := .pointer none) (n := 1) (by kernel_rfl) rfl rfl
instance : TRow Tryz.prog 131 1 8 := .of (by kernel_rfl)
-- type 132: func(unsafe.Pointer) unsafe.Pointer
instance : TSize Tryz.prog 132 1 := .of (by kernel_rfl)
instance : TOne Tryz.prog 132 := .of (by kernel_rfl)
instance : TConcrete Tryz.prog 132 := .of (by kernel_rfl)
instance : TZero Tryz.prog 132 [.nilFunc] := .of (v := .nilFunc) (n := 1) (by kernel_rfl) rfl rfl
instance : TRow Tryz.prog 132 1 8 := .of (by kernel_rfl)
-- type 133: func(int) []uint8
instance : TSize Tryz.prog 133 1 := .of (by kernel_rfl)
instance : TOne Tryz.prog 133 := .of (by kernel_rfl)
instance : TConcrete Tryz.prog 133 := .of (by kernel_rfl)
instance : TZero Tryz.prog 133 [.nilFunc] := .of (v := .nilFunc) (n := 1) (by kernel_rfl) rfl rfl
instance : TRow Tryz.prog 133 1 8 := .of (by kernel_rfl)
-- type 134: func(int64, int) string
instance : TSize Tryz.prog 134 1 := .of (by kernel_rfl)
instance : TOne Tryz.prog 134 := .of (by kernel_rfl)
instance : TConcrete Tryz.prog 134 := .of (by kernel_rfl)
instance : TZero Tryz.prog 134 [.nilFunc] := .of (v := .nilFunc) (n := 1) (by kernel_rfl) rfl rfl
instance : TRow Tryz.prog 134 1 8 := .of (by kernel_rfl)
-- type 135: func(api.Expr, int) api.Expr
instance : TSize Tryz.prog 135 1 := .of (by kernel_rfl)
instance : TOne Tryz.prog 135 := .of (by kernel_rfl)
instance : TConcrete Tryz.prog 135 := .of (by kernel_rfl)
instance : TZero Tryz.prog 135 [.nilFunc] := .of (v := .nilFunc) (n := 1) (by kernel_rfl) rfl rfl
instance : TRow Tryz.prog 135 1 8 := .of (by kernel_rfl)
-- type 136: func(api.Expr, int) string
instance : TSize Tryz.prog 136 1 := .of (by kernel_rfl)
instance : TOne Tryz.prog 136 := .of (by kernel_rfl)
instance : TConcrete Tryz.prog 136 := .of (by kernel_rfl)
instance : TZero Tryz.prog 136 [.nilFunc] := .of (v := .nilFunc) (n := 1) (by kernel_rfl) rfl rfl
instance : TRow Tryz.prog 136 1 8 := .of (by kernel_rfl)
-- type 137: func([]string, string) int
instance : TSize Tryz.prog 137 1 := .of (by kernel_rfl)
instance : TOne Tryz.prog 137 := .of (by kernel_rfl)
instance : TConcrete Tryz.prog 137 := .of (by kernel_rfl)
instance : TZero Tryz.prog 137 [.nilFunc] := .of (v := .nilFunc) (n := 1) (by kernel_rfl) rfl rfl
instance : TRow Tryz.prog 137 1 8 := .of (by kernel_rfl)
-- type 138: func(int) api.Expr
instance : TSize Tryz.prog 138 1 := .of (by kernel_rfl)
instance : TOne Tryz.prog 138 := .of (by kernel_rfl)
instance : TConcrete Tryz.prog 138 := .of (by kernel_rfl)
instance : TZero Tryz.prog 138 [.nilFunc] := .of (v := .nilFunc) (n := 1) (by kernel_rfl) rfl rfl
instance : TRow Tryz.prog 138 1 8 := .of (by kernel_rfl)
-- type 139: func() []api.Expr
instance : TSize Tryz.prog 139 1 := .of (by kernel_rfl)
instance : TOne Tryz.prog 139 := .of (by kernel_rfl)
instance : TConcrete Tryz.prog 139 := .of (by kernel_rfl)
instance : TZero Tryz.prog 139 [.nilFunc] := .of (v := .nilFunc) (n := 1) (by kernel_rfl) rfl rfl
instance : TRow Tryz.prog 139 1 8 := .of (by kernel_rfl)
-- type 140: func(string, string, int, int, error) error
instance : TSize Tryz.prog 140 1 := .of (by kernel_rfl)
instance : TOne Tryz.prog 140 := .of (by kernel_rfl)
instance : TConcrete Tryz.prog 140 := .of (by kernel_rfl)
instance : TZero Tryz.prog 140 [.nilFunc] := .of (v := .nilFunc) (n := 1) (by kernel_rfl) rfl rfl
instance : TRow Tryz.prog 140 1 8 := .of (by kernel_rfl)
-- type 141: func(int) int
instance : TSize Tryz.prog 141 1 := .of (by kernel_rfl)
instance : TOne Tryz.prog 141 := .of (by kernel_rfl)
instance : TConcrete Tryz.prog 141 := .of (by kernel_rfl)
instance : TZero Tryz.prog 141 [.nilFunc] := .of (v := .nilFunc) (n := 1) (by kernel_rfl) rfl rfl
instance : TRow Tryz.prog 141 1 8 := .of (by kernel_rfl)
-- type 142: [24]uint8
instance : TSize Tryz.prog 142 24 := .of (by kernel_rfl)
instance : TAgg Tryz.prog 142 24 := .of (by kernel_rfl)
instance : TConcrete Tryz.prog 142 := .of (by kernel_rfl)
instance : TZero Tryz.prog 142 [.int .u8 0, .int .u8 0, .int .u8 0, .int .u8 0, .int .u8 0, .int .u8 0, .int .u8 0, .int .u8 0, .int .u8 0, .int .u8 0, .int .u8 0, .int .u8 0, .int .u8 0, .int .u8 0, .int .u8 0, .int .u8 0, .int .u8 0, .int .u8 0, .int .u8 0, .int .u8 0, .int .u8 0, .int .u8 0, .int .u8 0, .int .u8 0] := .of (v := .agg #[.int .u8 0, .int .u8 0, .int .u8 0, .int .u8 0, .int .u8 0, .int .u8 0, .int .u8 0, .int .u8 0, .int .u8 0, .int .u8 0, .int .u8 0, .int .u8 0, .int .u8 0, .int .u8 0, .int .u8 0, .int .u8 0, .int .u8 0, .int .u8 0, .int .u8 0, .int .u8 0, .int .u8 0, .int .u8 0, .int .u8 0, .int .u8 0]) (n := 24) (by kernel_rfl) rfl rfl
instance : TRow Tryz.prog 142 24 24 := .of (by kernel_rfl)
-- type 143: func(uint64) int
instance : TSize Tryz.prog 143 1 := .of (by kernel_rfl)
instance : TOne Tryz.prog 143 := .of (by kernel_rfl)
instance : TConcrete Tryz.prog 143 := .of (by kernel_rfl)
instance : TZero Tryz.prog 143 [.nilFunc] := .of (v := .nilFunc) (n := 1) (by kernel_rfl) rfl rfl
instance : TRow Tryz.prog 143 1 8 := .of (by kernel_rfl)
-- type 144: func([]uint8, uint64)
instance : TSize Tryz.prog 144 1 := .of (by kernel_rfl)
instance : TOne Tryz.prog 144 := .of (by kernel_rfl)
instance : TConcrete Tryz.prog 144 := .of (by kernel_rfl)
instance : TZero Tryz.prog 144 [.nilFunc] := .of (v := .nilFunc) (n := 1) (by kernel_rfl) rfl rfl
instance : TRow Tryz.prog 144 1 8 := .of (by kernel_rfl)
-- type 146: func([]uint8, uint64, int, bool, bool) ([]uint8, string)
instance : TSize Tryz.prog 146 1 := .of (by kernel_rfl)
instance : TOne Tryz.prog 146 := .of (by kernel_rfl)
instance : TConcrete Tryz.prog 146 := .of (by kernel_rfl)
instance : TZero Tryz.prog 146 [.nilFunc] := .of (v := .nilFunc) (n := 1) (by kernel_rfl) rfl rfl
instance : TRow Tryz.prog 146 1 8 := .of (by kernel_rfl)
-- type 147: func(api.Expr) int
instance : TSize Tryz.prog 147 1 := .of (by kernel_rfl)
instance : TOne Tryz.prog 147 := .of (by kernel_rfl)
instance : TConcrete Tryz.prog 147 := .of (by kernel_rfl)
instance : TZero Tryz.prog 147 [.nilFunc] := .of (v := .nilFunc) (n := 1) (by kernel_rfl) rfl rfl
instance : TRow Tryz.prog 147 1 8 := .of (by kernel_rfl)
-- type 148: func() api.Expr
instance : TSize Tryz.prog 148 1 := .of (by kernel_rfl)
instance : TOne Tryz.prog 148 := .of (by kernel_rfl)
instance : TConcrete Tryz.prog 148 := .of (by kernel_rfl)
instance : TZero Tryz.prog 148 [.nilFunc] := .of (v := .nilFunc) (n := 1) (by kernel_rfl) rfl rfl
instance : TRow Tryz.prog 148 1 8 := .of (by kernel_rfl)
-- type 149: strconv.Error
instance : TSize Tryz.prog 149 1 := .of (by kernel_rfl)
instance : TOne Tryz.prog 149 := .of (by kernel_rfl)
instance : TKind Tryz.prog 149 .i64 := .of (by kernel_rfl)
instance : TConcrete Tryz.prog 149 := .of (by kernel_rfl)
instance : TZero Tryz.prog 149 [.int .i64 0] := .of (v := .int .i64 0) (n := 1) (by kernel_rfl) rfl rfl
instance : TRow Tryz.prog 149 1 8 := .of (by kernel_rfl)
-- type 150: func(uint8) uint8
instance : TSize Tryz.prog 150 1 := .of (by kernel_rfl)
instance : TOne Tryz.prog 150 := .of (by kernel_rfl)
instance : TConcrete Tryz.prog 150 := .of (by kernel_rfl)
instance : TZero Tryz.prog 150 [.nilFunc] := .of (v := .nilFunc) (n := 1) (by kernel_rfl) rfl rfl
instance : TRow Tryz.prog 150 1 8 := .of (by kernel_rfl)
-- type 151: *strconv.NumError
instance : TSize Tryz.prog 151 1 := .of (by kernel_rfl)
instance : TOne Tryz.prog 151 := .of (by kernel_rfl)
instance : TConcrete Tryz.prog 151 := .of (by kernel_rfl)
instance : TZero Tryz.prog 151 [.pointer none] := .of (v := .pointer none) (n := 1) (by kernel_rfl) rfl rfl
instance : TRow Tryz.prog 151 1 8 := .of (by kernel_rfl)
-- type 152: func(string, string) *strconv.NumError
instance : TSize Tryz.prog 152 1 := .of (by kernel_rfl)
instance : TOne Tryz.prog 152 := .of (by kernel_rfl)
instance : TConcrete Tryz.prog 152 := .of (by kernel_rfl)
instance : TZero Tryz.prog 152 [.nilFunc] := .of (v := .nilFunc) (n := 1) (by kernel_rfl) rfl rfl
instance : TRow Tryz.prog 152 1 8 := .of (by kernel_rfl)
-- type 153: func(string, string, int) *strconv.NumError
instance : TSize Tryz.prog 153 1 := .of (by kernel_rfl)
instance : TOne Tryz.prog 153 := .of (by kernel_rfl)
instance : TConcrete Tryz.prog 153 := .of (by kernel_rfl)
instance : TZero Tryz.prog 153 [.nilFunc] := .of (v := .nilFunc) (n := 1) (by kernel_rfl) rfl rfl
instance : TRow Tryz.prog 153 1 8 := .of (by kernel_rfl)
-- type 154: func(string) (uint32, uint32)
instance : TSize Tryz.prog 154 1 := .of (by kernel_rfl)
instance : TOne Tryz.prog 154 := .of (by kernel_rfl)
instance : TConcrete Tryz.prog 154 := .of (by kernel_rfl)
instance : TZero Tryz.prog 154 [.nilFunc] := .of (v := .nilFunc) (n := 1) (by kernel_rfl) rfl rfl
instance : TRow Tryz.prog 154 1 8 := .of (by kernel_rfl)
-- type 155: func(bool) int
instance : TSize Tryz.prog 155 1 := .of (by kernel_rfl)
instance : TOne Tryz.prog 155 := .of (by kernel_rfl)
instance : TConcrete Tryz.prog 155 := .of (by kernel_rfl)
instance : TZero Tryz.prog 155 [.nilFunc] := .of (v := .nilFunc) (n := 1) (by kernel_rfl) rfl rfl
instance : TRow Tryz.prog 155 1 8 := .of (by kernel_rfl)
-- type 156: [20]uint64
instance : TSize Tryz.prog 156 20 := .of (by kernel_rfl)
instance : TAgg Tryz.prog 156 20 := .of (by kernel_rfl)
instance : TConcrete Tryz.prog 156 := .of (by kernel_rfl)
instance : TZero Tryz.prog 156 [.int .u64 0, .int .u64 0, .int .u64 0, .int .u64 0, .int .u64 0, .int .u64 0, .int .u64 0, .int .u64 0, .int .u64 0, .int .u64 0, .int .u64 0, .int .u64 0, .int .u64 0, .int .u64 0, .int .u64 0, .int .u64 0, .int .u64 0, .int .u64 0, .int .u64 0, .int .u64 0] := .of (v := .agg #[.int .u64 0, .int .u64 0, .int .u64 0, .int .u64 0, .int .u64 0, .int .u64 0, .int .u64 0, .int .u64 0, .int .u64 0, .int .u64 0, .int .u64 0, .int .u64 0, .int .u64 0, .int .u64 0, .int .u64 0, .int .u64 0, .int .u64 0, .int .u64 0, .int .u64 0, .int .u64 0]) (n := 20) (by kernel_rfl) rfl rfl
instance : TRow Tryz.prog 156 20 160 := .of (by kernel_rfl)
-- type 158: func(uint) int
instance : TSize Tryz.prog 158 1 := .of (by kernel_rfl)
instance : TOne Tryz.prog 158 := .of (by kernel_rfl)
instance : TConcrete Tryz.prog 158 := .of (by kernel_rfl)
instance : TZero Tryz.prog 158 [.nilFunc] := .of (v := .nilFunc) (n := 1) (by kernel_rfl) rfl rfl
instance : TRow Tryz.prog 158 1 8 := .of (by kernel_rfl)
-- type 159: [][]string
instance : TSize Tryz.prog 159 1 := .of (by kernel_rfl)
instance : TOne Tryz.prog 159 := .of (by kernel_rfl)
instance : TSlice Tryz.prog 159 23 1 := .of (by kernel_rfl)
instance : TConcrete Tryz.prog 159 := .of (by kernel_rfl)
instance : TZero Tryz.prog 159 [.slice none 0 0] := .of (v := .slice none 0 0) (n := 1) (by kernel_rfl) rfl rfl
instance : TRow Tryz.prog 159 1 24 := .of (by kernel_rfl)
-- type 160: func() [][]string
instance : TSize Tryz.prog 160 1 := .of (by kernel_rfl)
instance : TOne Tryz.prog 160 := .of (by kernel_rfl)
instance : TConcrete Tryz.prog 160 := .of (by kernel_rfl)
instance : TZero Tryz.prog 160 [.nilFunc] := .of (v := .nilFunc) (n := 1) (by kernel_rfl) rfl rfl
instance : TRow Tryz.prog 160 1 8 := .of (by kernel_rfl)
-- type 161: func(func(int, []string) bool)
instance : TSize Tryz.prog 161 1 := .of (by kernel_rfl)
instance : TOne Tryz.prog 161 := .of (by kernel_rfl)
instance : TConcrete Tryz.prog 161 := .of (by kernel_rfl)
instance : TZero Tryz.prog 161 [.nilFunc] := .of (v := .nilFunc) (n := 1) (by kernel_rfl) rfl rfl
instance : TRow Tryz.prog 161 1 8 := .of (by kernel_rfl)
-- type 162: iter.Seq2[int,[]string]
instance : TSize Tryz.prog 162 1 := .of (by kernel_rfl)
instance : TOne Tryz.prog 162 := .of (by kernel_rfl)
instance : TConcrete Tryz.prog 162 := .of (by kernel_rfl)
instance : TZero Tryz.prog 162 [.nilFunc] := .of (v := .nilFunc) (n := 1) (by kernel_rfl) rfl rfl
instance : TRow Tryz.prog 162 1 8 := .of (by kernel_rfl)
-- type 163: func([][]string) iter.Seq2[int,[]string]
instance : TSize Tryz.prog 163 1 := .of (by kernel_rfl)
instance : TOne Tryz.prog 163 := .of (by kernel_rfl)
instance : TConcrete Tryz.prog 163 := .of (by kernel_rfl)
instance : TZero Tryz.prog 163 [.nilFunc] := .of (v := .nilFunc) (n := 1) (by kernel_rfl) rfl rfl
instance : TRow Tryz.prog 163 1 8 := .of (by kernel_rfl)
-- type 164: func([]string, bool, func() api.Expr) func() api.Expr
instance : TSize Tryz.prog 164 1 := .of (by kernel_rfl)
instance : TOne Tryz.prog 164 := .of (by kernel_rfl)
instance : TConcrete Tryz.prog 164 := .of (by kernel_rfl)
instance : TZero Tryz.prog 164 [.nilFunc] := .of (v := .nilFunc) (n := 1) (by kernel_rfl) rfl rfl
instance : TRow Tryz.prog 164 1 8 := .of (by kernel_rfl)
-- type 165: struct { Func string; Num string; Err error }
instance : TSize Tryz.prog 165 3 := .of (by kernel_rfl)
instance : TAgg Tryz.prog 165 3 := .of (by kernel_rfl)
instance : TConcrete Tryz.prog 165 := .of (by kernel_rfl)
instance : TField Tryz.prog 165 0 0 := .of (by kernel_rfl)
instance : TField Tryz.prog 165 1 1 := .of (by kernel_rfl)
instance : TField Tryz.prog 165 2 2 := .of (by kernel_rfl)
instance : TStruct Tryz.prog 165 [(0, 1), (1, 1), (2, 1)] := .of (by kernel_rfl)
instance : TZero Tryz.prog 165 [.string ⟨#[]⟩, .string ⟨#[]⟩, .nilIface] := .of (v := .agg #[.string ⟨#[]⟩, .string ⟨#[]⟩, .nilIface]) (n := 3) (by kernel_rfl) rfl rfl
instance : TRow Tryz.prog 165 3 48 := .of (by kernel_rfl)
-- type 166: strconv.NumError
instance : TSize Tryz.prog 166 3 := .of (by kernel_rfl)
instance : TAgg Tryz.prog 166 3 := .of (by kernel_rfl)
instance : TConcrete Tryz.prog 166 := .of (by kernel_rfl)
instance : TField Tryz.prog 166 0 0 := .of (by kernel_rfl)
instance : TField Tryz.prog 166 1 1 := .of (by kernel_rfl)
instance : TField Tryz.prog 166 2 2 := .of (by kernel_rfl)
instance : TStruct Tryz.prog 166 [(0, 1), (1, 1), (2, 1)] := .of (by kernel_rfl)
instance : TZero Tryz.prog 166 [.string ⟨#[]⟩, .string ⟨#[]⟩, .nilIface] := .of (v := .agg #[.string ⟨#[]⟩, .string ⟨#[]⟩, .nilIface]) (n := 3) (by kernel_rfl) rfl rfl
instance : TRow Tryz.prog 166 3 48 := .of (by kernel_rfl)
-- type 167: func(string) error
instance : TSize Tryz.prog 167 1 := .of (by kernel_rfl)
instance : TOne Tryz.prog 167 := .of (by kernel_rfl)
instance : TConcrete Tryz.prog 167 := .of (by kernel_rfl)
instance : TZero Tryz.prog 167 [.nilFunc] := .of (v := .nilFunc) (n := 1) (by kernel_rfl) rfl rfl
instance : TRow Tryz.prog 167 1 8 := .of (by kernel_rfl)
-- type 168: func(uint32) int
instance : TSize Tryz.prog 168 1 := .of (by kernel_rfl)
instance : TOne Tryz.prog 168 := .of (by kernel_rfl)
instance : TConcrete Tryz.prog 168 := .of (by kernel_rfl)
instance : TZero Tryz.prog 168 [.nilFunc] := .of (v := .nilFunc) (n := 1) (by kernel_rfl) rfl rfl
instance : TRow Tryz.prog 168 1 8 := .of (by kernel_rfl)
-- type 169: map[string]string
instance : TSize Tryz.prog 169 1 := .of (by kernel_rfl)
instance : TOne Tryz.prog 169 := .of (by kernel_rfl)
instance : TConcrete Tryz.prog 169 := .of (by kernel_rfl)
instance : TZero Tryz.prog 169 [.map none] := .of (v := .map none) (n := 1) (by kernel_rfl) rfl rfl
instance : TRow Tryz.prog 169 1 8 := .of (by kernel_rfl)
-- type 170: func(int, []string) bool
instance : TSize Tryz.prog 170 1 := .of (by kernel_rfl)
instance : TOne Tryz.prog 170 := .of (by kernel_rfl)
instance : TConcrete Tryz.prog 170 := .of (by kernel_rfl)
instance : TZero Tryz.prog 170 [.nilFunc] := .of (v := .nilFunc) (n := 1) (by kernel_rfl) rfl rfl
instance : TRow Tryz.prog 170 1 8 := .of (by kernel_rfl)
-- type 171: *errors.errorString
instance : TSize Tryz.prog 171 1 := .of (by kernel_rfl)
instance : TOne Tryz.prog 171 := .of (by kernel_rfl)
instance : TConcrete Tryz.prog 171 := .of (by kernel_rfl)
instance : TZero Tryz.prog 171 [.pointer none] := .of (v := .pointer none) (n := 1) (by kernel_rfl) rfl rfl
instance : TRow Tryz.prog 171 1 8 := .of (by kernel_rfl)
-- type 172: struct { s string }
instance : TSize Tryz.prog 172 1 := .of (by kernel_rfl)
instance : TAgg Tryz.prog 172 1 := .of (by kernel_rfl)
instance : TConcrete Tryz.prog 172 := .of (by kernel_rfl)
instance : TField Tryz.prog 172 0 0 := .of (by kernel_rfl)
instance : TStruct Tryz.prog 172 [(0, 1)] := .of (by kernel_rfl)
instance : TZero Tryz.prog 172 [.string ⟨#[]⟩] := .of (v := .agg #[.string ⟨#[]⟩]) (n := 1) (by kernel_rfl) rfl rfl
instance : TRow Tryz.prog 172 1 16 := .of (by kernel_rfl)
-- type 173: errors.errorString
instance : TSize Tryz.prog 173 1 := .of (by kernel_rfl)
instance : TAgg Tryz.prog 173 1 := .of (by kernel_rfl)
instance : TConcrete Tryz.prog 173 := .of (by kernel_rfl)
instance : TField Tryz.prog 173 0 0 := .of (by kernel_rfl)
instance : TStruct Tryz.prog 173 [(0, 1)] := .of (by kernel_rfl)
instance : TZero Tryz.prog 173 [.string ⟨#[]⟩] := .of (v := .agg #[.string ⟨#[]⟩]) (n := 1) (by kernel_rfl) rfl rfl
instance : TRow Tryz.prog 173 1 16 := .of (by kernel_rfl)
-- type 174: [32]uint8
instance : TSize Tryz.prog 174 32 := .of (by kernel_rfl)
instance : TAgg Tryz.prog 174 32 := .of (by kernel_rfl)
instance : TConcrete Tryz.prog 174 := .of (by kernel_rfl)
instance : TZero Tryz.prog 174 [.int .u8 0, .int .u8 0, .int .u8 0, .int .u8 0, .int .u8 0, .int .u8 0, .int .u8 0, .int .u8 0, .int .u8 0, .int .u8 0, .int .u8 0, .int .u8 0, .int .u8 0, .int .u8 0, .int .u8 0, .int .u8 0, .int .u8 0, .int .u8 0, .int .u8 0, .int .u8 0, .int .u8 0, .int .u8 0, .int .u8 0, .int .u8 0, .int .u8 0, .int .u8 0, .int .u8 0, .int .u8 0, .int .u8 0, .int .u8 0, .int .u8 0, .int .u8 0] := .of (v := .agg #[.int .u8 0, .int .u8 0, .int .u8 0, .int .u8 0, .int .u8 0, .int .u8 0, .int .u8 0, .int .u8 0, .int .u8 0, .int .u8 0, .int .u8 0, .int .u8 0, .int .u8 0, .int .u8 0, .int .u8 0, .int .u8 0, .int .u8 0, .int .u8 0, .int .u8 0, .int .u8 0, .int .u8 0, .int .u8 0, .int .u8 0, .int .u8 0, .int .u8 0, .int .u8 0, .int .u8 0, .int .u8 0, .int .u8 0, .int .u8 0, .int .u8 0, .int .u8 0]) (n := 32) (by kernel_rfl) rfl rfl
instance : TRow Tryz.prog 174 32 32 := .of (by kernel_rfl)
-- type 175: [64]uint8
instance : TSize Tryz.prog 175 64 := .of (by kernel_rfl)
instance : TAgg Tryz.prog 175 64 := .of (by kernel_rfl)
instance : TConcrete Tryz.prog 175 := .of (by kernel_rfl)
-- type 176: struct { _interface *abi.Type; concrete *abi.Type; asserted *abi.Type; missingMe
instance : TSize Tryz.prog 176 4 := .of (by kernel_rfl)
instance : TAgg Tryz.prog 176 4 := .of (by kernel_rfl)
instance : TConcrete Tryz.prog 176 := .of (by kernel_rfl)
instance : TField Tryz.prog 176 0 0 := .of (by kernel_rfl)
instance : TField Tryz.prog 176 1 1 := .of (by kernel_rfl)
instance : TField Tryz.prog 176 2 2 := .of (by kernel_rfl)
instance : TField Tryz.prog 176 3 3 := .of (by kernel_rfl)
instance : TStruct Tryz.prog 176 [(0, 1), (1, 1), (2, 1), (3, 1)] := .of (by kernel_rfl)
instance : TZero Tryz.prog 176 [.pointer none, .pointer none, .pointer none, .string ⟨#[]⟩] := .of (v := .agg #[.pointer none, .pointer none, .pointer none, .string ⟨#[]⟩]) (n := 4) (by kernel_rfl) rfl rfl
instance : TRow Tryz.prog 176 4 40 := .of (by kernel_rfl)
-- type 177: runtime.TypeAssertionError
instance : TSize Tryz.prog 177 4 := .of (by kernel_rfl)
instance : TAgg Tryz.prog 177 4 := .of (by kernel_rfl)
instance : TConcrete Tryz.prog 177 := .of (by kernel_rfl)
instance : TField Tryz.prog 177 0 0 := .of (by kernel_rfl)
instance : TField Tryz.prog 177 1 1 := .of (by kernel_rfl)
instance : TField Tryz.prog 177 2 2 := .of (by kernel_rfl)
instance : TField Tryz.prog 177 3 3 := .of (by kernel_rfl)
instance : TStruct Tryz.prog 177 [(0, 1), (1, 1), (2, 1), (3, 1)] := .of (by kernel_rfl)
instance : TZero Tryz.prog 177 [.pointer none, .pointer none, .pointer none, .string ⟨#[]⟩] := .of (v := .agg #[.pointer none, .pointer none, .pointer none, .string ⟨#[]⟩]) (n := 4) (by kernel_rfl) rfl rfl
instance : TRow Tryz.prog 177 4 40 := .of (by kernel_rfl)
-- type 178: [0]*runtime.PanicNilError
instance : TSize Tryz.prog 178 0 := .of (by kernel_rfl)
instance : TAgg Tryz.prog 178 0 := .of (by kernel_rfl)
instance : TConcrete Tryz.prog 178 := .of (by kernel_rfl)
instance : TZero Tryz.prog 178 [] := .of (v := .agg #[]) (n := 0) (by kernel_rfl) rfl rfl
-- type 179: struct { _ [0]*runtime.PanicNilError }
instance : TSize Tryz.prog 179 0 := .of (by kernel_rfl)
instance : TAgg Tryz.prog 179 0 := .of (by kernel_rfl)
instance : TConcrete Tryz.prog 179 := .of (by kernel_rfl)
instance : TStruct Tryz.prog 179 [(0, 0)] := .of (by kernel_rfl)
instance : TZero Tryz.prog 179 [] := .of (v := .agg #[]) (n := 0) (by kernel_rfl) rfl rfl
-- type 180: runtime.PanicNilError
instance : TSize Tryz.prog 180 0 := .of (by kernel_rfl)
instance : TAgg Tryz.prog 180 0 := .of (by kernel_rfl)
instance : TConcrete Tryz.prog 180 := .of (by kernel_rfl)
instance : TStruct Tryz.prog 180 [(0, 0)] := .of (by kernel_rfl)
instance : TZero Tryz.prog 180 [] := .of (v := .agg #[]) (n := 0) (by kernel_rfl) rfl rfl
-- type 181: abi.TFlag
instance : TSize Tryz.prog 181 1 := .of (by kernel_rfl)
instance : TOne Tryz.prog 181 := .of (by kernel_rfl)
instance : TKind Tryz.prog 181 .u8 := .of (by kernel_rfl)
instance : TConcrete Tryz.prog 181 := .of (by kernel_rfl)
instance : TZero Tryz.prog 181 [.int .u8 0] := .of (v := .int .u8 0) (n := 1) (by kernel_rfl) rfl rfl
instance : TRow Tryz.prog 181 1 1 := .of (by kernel_rfl)
-- type 182: abi.Kind
instance : TSize Tryz.prog 182 1 := .of (by kernel_rfl)
instance : TOne Tryz.prog 182 := .of (by kernel_rfl)
instance : TKind Tryz.prog 182 .u8 := .of (by kernel_rfl)
instance : TConcrete Tryz.prog 182 := .of (by kernel_rfl)
instance : TZero Tryz.prog 182 [.int .u8 0] := .of (v := .int .u8 0) (n := 1) (by kernel_rfl) rfl rfl
instance : TRow Tryz.prog 182 1 1 := .of (by kernel_rfl)
-- type 183: func(unsafe.Pointer, unsafe.Pointer) bool
instance : TSize Tryz.prog 183 1 := .of (by kernel_rfl)
instance : TOne Tryz.prog 183 := .of (by kernel_rfl)
instance : TConcrete Tryz.prog 183 := .of (by kernel_rfl)
instance : TZero Tryz.prog 183 [.nilFunc] := .of (v := .nilFunc) (n := 1) (by kernel_rfl) rfl rfl
instance : TRow Tryz.prog 183 1 8 := .of (by kernel_rfl)
-- type 184: abi.NameOff
instance : TSize Tryz.prog 184 1 := .of (by kernel_rfl)
instance : TOne Tryz.prog 184 := .of (by kernel_rfl)
instance : TKind Tryz.prog 184 .i32 := .of (by kernel_rfl)
instance : TConcrete Tryz.prog 184 := .of (by kernel_rfl)
instance : TZero Tryz.prog 184 [.int .i32 0] := .of (v := .int .i32 0) (n := 1) (by kernel_rfl) rfl rfl
instance : TRow Tryz.prog 184 1 4 := .of (by kernel_rfl)
-- type 185: abi.TypeOff
instance : TSize Tryz.prog 185 1 := .of (by kernel_rfl)
instance : TOne Tryz.prog 185 := .of (by kernel_rfl)
instance : TKind Tryz.prog 185 .i32 := .of (by kernel_rfl)
instance : TConcrete Tryz.prog 185 := .of (by kernel_rfl)
instance : TZero Tryz.prog 185 [.int .i32 0] := .of (v := .int .i32 0) (n := 1) (by kernel_rfl) rfl rfl
instance : TRow Tryz.prog 185 1 4 := .of (by kernel_rfl)
-- type 186: struct { Size_ uintptr; PtrBytes uintptr; Hash uint32; TFlag abi.TFlag; Align_ u
instance : TSize Tryz.prog 186 11 := .of (by kernel_rfl)
instance : TAgg Tryz.prog 186 11 := .of (by kernel_rfl)
instance : TConcrete Tryz.prog 186 := .of (by kernel_rfl)
instance : TField Tryz.prog 186 0 0 := .of (by kernel_rfl)
instance : TField Tryz.prog 186 1 1 := .of (by kernel_rfl)
instance : TField Tryz.prog 186 2 2 := .of (by kernel_rfl)
instance : TField Tryz.prog 186 3 3 := .of (by kernel_rfl)
instance : TField Tryz.prog 186 4 4 := .of (by kernel_rfl)
instance : TField Tryz.prog 186 5 5 := .of (by kernel_rfl)
instance : TField Tryz.prog 186 6 6 := .of (by kernel_rfl)
instance : TField Tryz.prog 186 7 7 := .of (by kernel_rfl)
instance : TField Tryz.prog 186 8 8 := .of (by kernel_rfl)
instance : TField Tryz.prog 186 9 9 := .of (by kernel_rfl)
instance : TField Tryz.prog 186 10 10 := .of (by kernel_rfl)
instance : TStruct Tryz.prog 186 [(0, 1), (1, 1), (2, 1), (3, 1), (4, 1), (5, 1), (6, 1), (7, 1), (8, 1), (9, 1), (10, 1)] := .of (by kernel_rfl)
instance : TZero Tryz.prog 186 [.int .u64 0, .int .u64 0, .int .u32 0, .int .u8 0, .int .u8 0, .int .u8 0, .int .u8 0, .nilFunc, .pointer none, .int .i32 0, .int .i32 0] := .of (v := .agg #[.int .u64 0, .int .u64 0, .int .u32 0, .int .u8 0, .int .u8 0, .int .u8 0, .int .u8 0, .nilFunc, .pointer none, .int .i32 0, .int .i32 0]) (n := 11) (by kernel_rfl) rfl rfl
instance : TRow Tryz.prog 186 11 48 := .of (by kernel_rfl)
-- type 187: abi.Type
instance : TSize Tryz.prog 187 11 := .of (by kernel_rfl)
instance : TAgg Tryz.prog 187 11 := .of (by kernel_rfl)
instance : TConcrete Tryz.prog 187 := .of (by kernel_rfl)
instance : TField Tryz.prog 187 0 0 := .of (by kernel_rfl)
instance : TField Tryz.prog 187 1 1 := .of (by kernel_rfl)
instance : TField Tryz.prog 187 2 2 := .of (by kernel_rfl)
instance : TField Tryz.prog 187 3 3 := .of (by kernel_rfl)
instance : TField Tryz.prog 187 4 4 := .of (by kernel_rfl)
instance : TField Tryz.prog 187 5 5 := .of (by kernel_rfl)
instance : TField Tryz.prog 187 6 6 := .of (by kernel_rfl)
instance : TField Tryz.prog 187 7 7 := .of (by kernel_rfl)
instance : TField Tryz.prog 187 8 8 := .of (by kernel_rfl)
instance : TField Tryz.prog 187 9 9 := .of (by kernel_rfl)
instance : TField Tryz.prog 187 10 10 := .of (by kernel_rfl)
instance : TStruct Tryz.prog 187 [(0, 1), (1, 1), (2, 1), (3, 1), (4, 1), (5, 1), (6, 1), (7, 1), (8, 1), (9, 1), (10, 1)] := .of (by kernel_rfl)
instance : TZero Tryz.prog 187 [.int .u64 0, .int .u64 0, .int .u32 0, .int .u8 0, .int .u8 0, .int .u8 0, .int .u8 0, .nilFunc, .pointer none, .int .i32 0, .int .i32 0] := .of (v := .agg #[.int .u64 0, .int .u64 0, .int .u32 0, .int .u8 0, .int .u8 0, .int .u8 0, .int .u8 0, .nilFunc, .pointer none, .int .i32 0, .int .i32 0]) (n := 11) (by kernel_rfl) rfl rfl
instance : TRow Tryz.prog 187 11 48 := .of (by kernel_rfl)
instance : TEnter Tryz.prog 3 := .of (by kernel_rfl)
instance : TEnter Tryz.prog 4 := .of (by kernel_rfl)
instance : TEnter Tryz.prog 5 := .of (by kernel_rfl)
instance : TEnter Tryz.prog 6 := .of (by kernel_rfl)
instance : TEnter Tryz.prog 7 := .of (by kernel_rfl)
instance : TEnter Tryz.prog 8 := .of (by kernel_rfl)
instance : TEnter Tryz.prog 9 := .of (by kernel_rfl)
instance : TEnter Tryz.prog 10 := .of (by kernel_rfl)
instance : TEnter Tryz.prog 11 := .of (by kernel_rfl)
instance : TEnter Tryz.prog 12 := .of (by kernel_rfl)
instance : TEnter Tryz.prog 13 := .of (by kernel_rfl)
instance : TEnter Tryz.prog 14 := .of (by kernel_rfl)
instance : TEnter Tryz.prog 15 := .of (by kernel_rfl)
instance : TEnter Tryz.prog 16 := .of (by kernel_rfl)
instance : TEnter Tryz.prog 17 := .of (by kernel_rfl)
instance : TEnter Tryz.prog 18 := .of (by kernel_rfl)
instance : TEnter Tryz.prog 19 := .of (by kernel_rfl)
instance : TEnter Tryz.prog 20 := .of (by kernel_rfl)
instance : TEnter Tryz.prog 21 := .of (by kernel_rfl)
instance : TEnter Tryz.prog 22 := .of (by kernel_rfl)
instance : TEnter Tryz.prog 23 := .of (by kernel_rfl)
instance : TEnter Tryz.prog 24 := .of (by kernel_rfl)
instance : TEnter Tryz.prog 25 := .of (by kernel_rfl)
instance : TEnter Tryz.prog 26 := .of (by kernel_rfl)
instance : TEnter Tryz.prog 27 := .of (by kernel_rfl)
instance : TEnter Tryz.prog 28 := .of (by kernel_rfl)
instance : TEnter Tryz.prog 29 := .of (by kernel_rfl)
instance : TEnter Tryz.prog 30 := .of (by kernel_rfl)
instance : TEnter Tryz.prog 31 := .of (by kernel_rfl)
instance : TEnter Tryz.prog 32 := .of (by kernel_rfl)
instance : TEnter Tryz.prog 33 := .of (by kernel_rfl)
instance : TEnter Tryz.prog 34 := .of (by kernel_rfl)
instance : TEnter Tryz.prog 35 := .of (by kernel_rfl)
instance : TEnter Tryz.prog 36 := .of (by kernel_rfl)
instance : TEnter Tryz.prog 37 := .of (by kernel_rfl)
instance : TEnter Tryz.prog 38 := .of (by kernel_rfl)
instance : TEnter Tryz.prog 39 := .of (by kernel_rfl)
instance : TEnter Tryz.prog 40 := .of (by kernel_rfl)
instance : TEnter Tryz.prog 41 := .of (by kernel_rfl)
instance : TEnter Tryz.prog 42 := .of (by kernel_rfl)
instance : TEnter Tryz.prog 43 := .of (by kernel_rfl)
instance : TEnter Tryz.prog 44 := .of (by kernel_rfl)
instance : TEnter Tryz.prog 45 := .of (by kernel_rfl)
instance : TEnter Tryz.prog 46 := .of (by kernel_rfl)
instance : TEnter Tryz.prog 47 := .of (by kernel_rfl)
instance : TEnter Tryz.prog 48 := .of (by kernel_rfl)
instance : TEnter Tryz.prog 49 := .of (by kernel_rfl)
instance : TEnter Tryz.prog 50 := .of (by kernel_rfl)
instance : TEnter Tryz.prog 51 := .of (by kernel_rfl)
instance : TEnter Tryz.prog 52 := .of (by kernel_rfl)
instance : TEnter Tryz.prog 53 := .of (by kernel_rfl)
instance : TEnter Tryz.prog 54 := .of (by kernel_rfl)
instance : TEnter Tryz.prog 55 := .of (by kernel_rfl)
instance : TEnter Tryz.prog 56 := .of (by kernel_rfl)
instance : TEnter Tryz.prog 57 := .of (by kernel_rfl)
instance : TEnter Tryz.prog 58 := .of (by kernel_rfl)
instance : TEnter Tryz.prog 59 := .of (by kernel_rfl)
instance : TEnter Tryz.prog 60 := .of (by kernel_rfl)
instance : TEnter Tryz.prog 61 := .of (by kernel_rfl)
instance : TEnter Tryz.prog 62 := .of (by kernel_rfl)
instance : TEnter Tryz.prog 63 := .of (by kernel_rfl)
instance : TEnter Tryz.prog 64 := .of (by kernel_rfl)
instance : TEnter Tryz.prog 65 := .of (by kernel_rfl)
instance : TEnter Tryz.prog 66 := .of (by kernel_rfl)
instance : TEnter Tryz.prog 67 := .of (by kernel_rfl)
instance : TEnter Tryz.prog 68 := .of (by kernel_rfl)
instance : TEnter Tryz.prog 69 := .of (by kernel_rfl)
instance : TEnter Tryz.prog 70 := .of (by kernel_rfl)
instance : TEnter Tryz.prog 71 := .of (by kernel_rfl)
instance : TEnter Tryz.prog 72 := .of (by kernel_rfl)
instance : TEnter Tryz.prog 73 := .of (by kernel_rfl)
instance : TEnter Tryz.prog 74 := .of (by kernel_rfl)
instance : TEnter Tryz.prog 75 := .of (by kernel_rfl)
instance : TEnter Tryz.prog 76 := .of (by kernel_rfl)
instance : TEnter Tryz.prog 77 := .of (by kernel_rfl)
instance : TEnter Tryz.prog 78 := .of (by kernel_rfl)
instance : TEnter Tryz.prog 79 := .of (by kernel_rfl)
instance : TEnter Tryz.prog 80 := .of (by kernel_rfl)
instance : TEnter Tryz.prog 82 := .of (by kernel_rfl)
instance : TEnter Tryz.prog 83 := .of (by kernel_rfl)
instance : TEnter Tryz.prog 84 := .of (by kernel_rfl)
instance : TEnter Tryz.prog 85 := .of (by kernel_rfl)
instance : TEnter Tryz.prog 86 := .of (by kernel_rfl)
instance : TEnter Tryz.prog 87 := .of (by kernel_rfl)
instance : TEnter Tryz.prog 88 := .of (by kernel_rfl)
instance : TEnter Tryz.prog 89 := .of (by kernel_rfl)
instance : TEnter Tryz.prog 90 := .of (by kernel_rfl)
instance : TEnter Tryz.prog 91 := .of (by kernel_rfl)
instance : TEnter Tryz.prog 92 := .of (by kernel_rfl)
instance : TEnter Tryz.prog 93 := .of (by kernel_rfl)
instance : TEnter Tryz.prog 94 := .of (by kernel_rfl)
instance : TEnter Tryz.prog 95 := .of (by kernel_rfl)
instance : TEnter Tryz.prog 96 := .of (by kernel_rfl)
instance : TEnter Tryz.prog 97 := .of (by kernel_rfl)
instance : TEnter Tryz.prog 98 := .of (by kernel_rfl)
instance : TEnter Tryz.prog 99 := .of (by kernel_rfl)
instance : TEnter Tryz.prog 100 := .of (by kernel_rfl)
instance : TEnter Tryz.prog 101 := .of (by kernel_rfl)
instance : TEnter Tryz.prog 102 := .of (by kernel_rfl)
instance : TEnter Tryz.prog 103 := .of (by kernel_rfl)
instance : TEnter Tryz.prog 104 := .of (by kernel_rfl)
instance : TEnter Tryz.prog 105 := .of (by kernel_rfl)
instance : TEnter Tryz.prog 106 := .of (by kernel_rfl)
instance : TEnter Tryz.prog 107 := .of (by kernel_rfl)
instance : TEnter Tryz.prog 108 := .of (by kernel_rfl)
instance : TEnter Tryz.prog 109 := .of (by kernel_rfl)
instance : TEnter Tryz.prog 110 := .of (by kernel_rfl)
instance : TEnter Tryz.prog 111 := .of (by kernel_rfl)
instance : TEnter Tryz.prog 112 := .of (by kernel_rfl)
instance : TEnter Tryz.prog 113 := .of (by kernel_rfl)
instance : TEnter Tryz.prog 114 := .of (by kernel_rfl)
instance : TEnter Tryz.prog 117 := .of (by kernel_rfl)
instance : TEnter Tryz.prog 118 := .of (by kernel_rfl)
instance : TEnter Tryz.prog 119 := .of (by kernel_rfl)
instance : TEnter Tryz.prog 120 := .of (by kernel_rfl)
instance : TEnter Tryz.prog 121 := .of (by kernel_rfl)
instance : TEnter Tryz.prog 122 := .of (by kernel_rfl)
instance : TEnter Tryz.prog 123 := .of (by kernel_rfl)
instance : TEnter Tryz.prog 124 := .of (by kernel_rfl)
instance : TEnter Tryz.prog 125 := .of (by kernel_rfl)
instance : TEnter Tryz.prog 126 := .of (by kernel_rfl)
instance : TEnter Tryz.prog 127 := .of (by kernel_rfl)
instance : TEnter Tryz.prog 128 := .of (by kernel_rfl)
instance : TEnter Tryz.prog 129 := .of (by kernel_rfl)
instance : TEnter Tryz.prog 130 := .of (by kernel_rfl)
instance : TEnter Tryz.prog 131 := .of (by kernel_rfl)
instance : TEnter Tryz.prog 132 := .of (by kernel_rfl)
instance : TEnter Tryz.prog 133 := .of (by kernel_rfl)
instance : TEnter Tryz.prog 135 := .of (by kernel_rfl)
instance : TEnter Tryz.prog 136 := .of (by kernel_rfl)
instance : TEnter Tryz.prog 137 := .of (by kernel_rfl)
instance : TEnter Tryz.prog 138 := .of (by kernel_rfl)
instance : TEnter Tryz.prog 139 := .of (by kernel_rfl)
instance : TEnter Tryz.prog 140 := .of (by kernel_rfl)
instance : TEnter Tryz.prog 141 := .of (by kernel_rfl)
instance : TEnter Tryz.prog 142 := .of (by kernel_rfl)
instance : TEnter Tryz.prog 143 := .of (by kernel_rfl)
instance : TEnter Tryz.prog 144 := .of (by kernel_rfl)
instance : TEnter Tryz.prog 145 := .of (by kernel_rfl)
instance : TEnter Tryz.prog 146 := .of (by kernel_rfl)
instance : TEnter Tryz.prog 147 := .of (by kernel_rfl)
instance : TEnter Tryz.prog 148 := .of (by kernel_rfl)
instance : TEnter Tryz.prog 149 := .of (by kernel_rfl)
instance : TEnter Tryz.prog 150 := .of (by kernel_rfl)
instance : TEnter Tryz.prog 151 := .of (by kernel_rfl)
instance : TEnter Tryz.prog 152 := .of (by kernel_rfl)
instance : TEnter Tryz.prog 153 := .of (by kernel_rfl)
instance : TEnter Tryz.prog 154 := .of (by kernel_rfl)
instance : TEnter Tryz.prog 155 := .of (by kernel_rfl)
instance : TEnter Tryz.prog 157 := .of (by kernel_rfl)
instance : TEnter Tryz.prog 158 := .of (by kernel_rfl)
instance : TEnter Tryz.prog 159 := .of (by kernel_rfl)
instance : TEnter Tryz.prog 160 := .of (by kernel_rfl)
instance : TEnter Tryz.prog 161 := .of (by kernel_rfl)
instance : TEnter Tryz.prog 162 := .of (by kernel_rfl)
instance : TEnter Tryz.prog 163 := .of (by kernel_rfl)
instance : TEnter Tryz.prog 164 := .of (by kernel_rfl)
instance : TEnter Tryz.prog 165 := .of (by kernel_rfl)
instance : TEnter Tryz.prog 166 := .of (by kernel_rfl)
instance : TEnter Tryz.prog 167 := .of (by kernel_rfl)
instance : TEnter Tryz.prog 168 := .of (by kernel_rfl)
instance : TEnter Tryz.prog 169 := .of (by kernel_rfl)
instance : TEnter Tryz.prog 170 := .of (by kernel_rfl)
instance : TEnter Tryz.prog 171 := .of (by kernel_rfl)
instance : TEnter Tryz.prog 172 := .of (by kernel_rfl)
instance : TEnter Tryz.prog 173 := .of (by kernel_rfl)
instance : TEnter Tryz.prog 174 := .of (by kernel_rfl)
instance : TEnter Tryz.prog 175 := .of (by kernel_rfl)
instance : TEnter Tryz.prog 176 := .of (by kernel_rfl)
end Go.Proofs.YtfodkbchknknjaaGreatDoor
namespace Go.GL
open Go.RowKit

/-- The call hands back this value, and no block. -/
@[reducible] def Ret (v : LV) : LRes → Heap → Prop := fun r H => r = .ret v ∧ H = []
/-- The call hands back a value of this kind, and no block. -/
@[reducible] def RetIf (p : LV → Prop) : LRes → Heap → Prop := fun r H => ∃ v, r = .ret v ∧ p v ∧ H = []

section
variable {C : Ctx} {e : Env} {H : Heap} {dst : Option Nat} {ty : TypeId} {pos : String} {aft : Array Edge} {g : Option (Nat × Bool)} {K : LV → Heap → Prop} {X : List PanicEntry → Heap → Prop}
theorem S.fn {f : FuncId} [TEnter C.P f] (args : List Operand) {ats : Array TypeId} {avs : List LV} {lv : LV} (has : args.map e.ev = avs) (hc : LCalls C f avs [] (Ret lv)) (hk : K lv H) :
    LStep C ⟨dst, .call { callee := .value (.func f), args := args.toArray, argTypes := ats }, ty, pos, aft, g⟩ e H K X :=
  S.call0 args has hc (by rintro v H' ⟨h, rfl⟩; cases h; exact hk) (by rintro ch H' ⟨h, _⟩; cases h)
theorem S.fnIf {f : FuncId} [TEnter C.P f] (args : List Operand) {ats : Array TypeId} {avs : List LV} {p : LV → Prop} (has : args.map e.ev = avs) (hc : LCalls C f avs [] (RetIf p)) (hk : ∀ lv, p lv → K lv H) :
    LStep C ⟨dst, .call { callee := .value (.func f), args := args.toArray, argTypes := ats }, ty, pos, aft, g⟩ e H K X :=
  S.call0 args has hc (by rintro v H' ⟨u, h, hp, rfl⟩; cases h; exact hk _ hp) (by rintro ch H' ⟨u, h, _⟩; cases h)
theorem S.fnV {fo : Operand} {f : FuncId} [TEnter C.P f] {first caps : Array Value} (args : List Operand) {ats : Array TypeId} {avs : List LV} {lv : LV} (hf : e.ev fo = .atom (.func (.func f) first caps))
    (has : first.toList.map .atom ++ args.map e.ev ++ caps.toList.map .atom = avs) (hc : LCalls C f avs [] (Ret lv)) (hk : K lv H) :
    LStep C ⟨dst, .call { callee := .value fo, args := args.toArray, argTypes := ats }, ty, pos, aft, g⟩ e H K X :=
  S.callV (H1 := []) (F := H) args hf has (List.Perm.refl _) hc (by rintro v H' ⟨h, rfl⟩; cases h; exact hk) (by rintro ch H' ⟨h, _⟩; cases h)
theorem retRet {n : Nat} {rs : List ResultVar} {vs : List LV} {lv : LV} (hd : e.ds = []) (h : AllRes C n e H rs vs) (hv : resLV vs = lv) : RetPost C n rs (Ret lv) .ret e H :=
  RetPost.ret hd h (HSub.nil _) ⟨by rw [hv], rfl⟩
theorem retRetIf {n : Nat} {rs : List ResultVar} {vs : List LV} {p : LV → Prop} (hd : e.ds = []) (h : AllRes C n e H rs vs) (hv : p (resLV vs)) : RetPost C n rs (RetIf p) .ret e H :=
  RetPost.ret hd h (HSub.nil _) ⟨_, rfl, hv, rfl⟩
end

/-- What a world becomes that only grew. -/
theorem fr_below {C : Ctx} {w w' : World} {L : Live} (hH : RelH C w L []) (h : Below w.heap.size w w') : Fr (keys []) w L w' L [] ∧ RelH C w' L [] := by
  refine ⟨⟨h.os, h.tape, h.output, ⟨h.size, fun b hb => shape_of_heap (h.block b hb), fun b i hi => ?_, fun _ => Nat.le_refl _⟩, fun b hb _ => h.block b hb, fun _ _ _ => rfl, by simp⟩,
    ⟨hH.base.trans (h.mono hH.b0), hH.lbase, Nat.le_trans hH.b0 h.size, fun b hb => hH.wf b (Nat.le_trans h.size hb), List.nodup_nil, by simp⟩⟩
  have hb : b < w.heap.size := by
    rcases Nat.lt_or_ge b w.heap.size with h1 | h1
    · exact h1
    · have := hH.wf b h1; omega
  exact cell_of_heap (h.block b hb) i

/-- A call of flat values, whose law is known elsewhere: it hands back a flat value, and nothing old turns. -/
theorem LCalls.of_below {C : Ctx} {f : FuncId} {vs : List Value} {p : Value → Prop}
    (h : ∀ w, Below C.B0 C.w0 w → Calls C.P f vs.toArray w (fun e w' => ∃ v, e = .returned v ∧ p v ∧ Below w.heap.size w w')) : LCalls C f (vs.map .atom) [] (fun r H => ∃ v, r = .ret (.atom v) ∧ p v ∧ H = []) := fun xs w L hv hH => by
  have hx : xs = vs := by
    clear h hH
    induction vs generalizing xs with
    | nil => simpa [RepL] using hv
    | cons v vs ih =>
      simp only [List.map_cons, RepL, Rep] at hv
      obtain ⟨y, ys, rfl, rfl, hv⟩ := hv
      rw [ih _ hv]
  subst hx
  refine (h w hH.base).mono fun e w' he => ?_
  obtain ⟨v, rfl, hp, hb⟩ := he
  obtain ⟨h1, h2⟩ := fr_below hH hb
  exact ⟨.atom v, [], L, h1, h2, rep_atom, v, rfl, hp, rfl⟩

/-- The same, for a tuple of flat values. -/
theorem LCalls.of_belowT {C : Ctx} {f : FuncId} {vs : List Value} {p : List Value → Prop}
    (h : ∀ w, Below C.B0 C.w0 w → Calls C.P f vs.toArray w (fun e w' => ∃ us : List Value, e = .returned (.tuple us.toArray) ∧ p us ∧ Below w.heap.size w w')) : LCalls C f (vs.map .atom) [] (RetIf fun lv => ∃ us, p us ∧ lv = .tuple (us.map .atom)) := fun xs w L hv hH => by
  have hx : xs = vs := by
    clear h hH
    induction vs generalizing xs with
    | nil => simpa [RepL] using hv
    | cons v vs ih =>
      simp only [List.map_cons, RepL, Rep] at hv
      obtain ⟨y, ys, rfl, rfl, hv⟩ := hv
      rw [ih _ hv]
  subst hx
  refine (h w hH.base).mono fun e w' he => ?_
  obtain ⟨us, rfl, hp, hb⟩ := he
  obtain ⟨h1, h2⟩ := fr_below hH hb
  exact ⟨.tuple (us.map .atom), [], L, h1, h2, by simp only [Rep]; exact ⟨us, rfl, repL_atoms _⟩, _, rfl, ⟨us, hp, rfl⟩, rfl⟩
theorem LCalls.ret_of {C : Ctx} {f : FuncId} {vs : List Value} {u : Value}
    (h : ∀ w, Below C.B0 C.w0 w → Calls C.P f vs.toArray w (fun e w' => e = .returned u ∧ Below w.heap.size w w')) : LCalls C f (vs.map .atom) [] (Ret (.atom u)) :=
  LCalls.mono (LCalls.of_below (p := fun v => v = u) fun w hw => (h w hw).mono fun e w' he => ⟨u, he.1, rfl, he.2⟩) fun r H' ⟨v, h1, h2, h3⟩ => ⟨by rw [h1, h2], h3⟩

/-- The slots hold these. -/
def AllSlots (e : Env) : List (Nat × LV) → Prop
  | [] => True
  | (d, v) :: r => e.s d = v ∧ AllSlots e r
theorem AllSlots.mem {e : Env} : ∀ {l : List (Nat × LV)}, AllSlots e l → ∀ p ∈ l, e.s p.1 = p.2
  | [], _, p, hp => by cases hp
  | (d, v) :: r, h, p, hp => by
    rcases List.mem_cons.1 hp with rfl | hp
    · exact h.1
    · exact AllSlots.mem h.2 p hp
/-- The loop goes on. -/
def Again (I : Nat → List (Nat × LV) → Heap → Prop) (k : Nat) (ds : List Deferred) (e' : Env) (H' : Heap) : Prop :=
  ∃ m l' H'', m < k ∧ I m l' H'' ∧ AllSlots e' l' ∧ HSub H'' H' ∧ e'.ds = ds
/-- A loop, by what its slots hold. -/
theorem LCode.loopI {C : Ctx} {n : Nat} {c : Code} {Q : Post} {e : Env} {H : Heap} (I : Nat → List (Nat × LV) → Heap → Prop) (h0 : ∃ k l H0, I k l H0 ∧ AllSlots e l ∧ HSub H0 H)
    (round : ∀ k l H, I k l H → ∀ j : Env, j.ds = e.ds → LCode C n c (QThen (Again I k e.ds) Q) (Env.slots j l) H) : LCode C n (.loop c) Q e H := by
  obtain ⟨k, l, H0, h0, h1, h2⟩ := h0
  refine LCode.weak h2 (LCode.loop (fun k e' H' => ∃ l H0, I k l H0 ∧ AllSlots e' l ∧ HSub H0 H' ∧ e'.ds = e.ds) k ⟨l, H0, h0, h1, HSub.refl _, rfl⟩ ?_)
  rintro k e' H' ⟨l, H0, g0, g1, g2, g3⟩
  have := round k l H0 g0 e' g3
  rw [Env.slots_self g1.mem] at this
  refine LCode.weak g2 (LCode.conseq this ?_)
  rintro ex e2 H2 hq
  cases ex with
  | normal =>
    obtain ⟨m, l', H3, r1, r2, r3, r4, r5⟩ := hq
    exact ⟨m, r1, l', H3, r2, r3, r4, r5⟩
  | exit id => exact hq
  | goto id => exact hq
  | ret => exact hq
  | panic ch => exact hq
  | outgrown => exact hq
theorem bool_eq {a b : Bool} (h : a = b) : bool a = bool b := by rw [h]
/-- A place that more than one way comes to: what is known there. -/
def At (l : List (Nat × LV)) (H1 : Heap) (ds : List Deferred) (e' : Env) (H' : Heap) : Prop := AllSlots e' l ∧ H' = H1 ∧ e'.ds = ds
theorem LOps.cutTo {C : Ctx} {n : Nat} {ops : Array Oper} {rest : List Oper} {Q : Post} {e : Env} {H : Heap} {k : Env → Heap → Prop} (l : List (Nat × LV)) (H1 : Heap)
    (hx : LOps C n ops (QThen (At l H1 e.ds) Q) rest e H) (hy : ∀ j : Env, j.ds = e.ds → k (Env.slots j l) H1) : LOps C n ops (QThen k Q) rest e H := by
  refine LOps.conseq hx ?_
  rintro ex e' H' hq
  cases ex with
  | normal =>
    obtain ⟨h1, rfl, h3⟩ := hq
    have := hy e' h3
    rw [Env.slots_self h1.mem] at this
    exact this
  | exit id => exact hq
  | goto id => exact hq
  | ret => exact hq
  | panic ch => exact hq
  | outgrown => exact hq
theorem LCode.cutTo {C : Ctx} {n : Nat} {c : Code} {Q : Post} {e : Env} {H : Heap} {k : Env → Heap → Prop} (l : List (Nat × LV)) (H1 : Heap)
    (hx : LCode C n c (QThen (At l H1 e.ds) Q) e H) (hy : ∀ j : Env, j.ds = e.ds → k (Env.slots j l) H1) : LCode C n c (QThen k Q) e H := by
  refine LCode.conseq hx ?_
  rintro ex e' H' hq
  cases ex with
  | normal =>
    obtain ⟨h1, rfl, h3⟩ := hq
    have := hy e' h3
    rw [Env.slots_self h1.mem] at this
    exact this
  | exit id => exact hq
  | goto id => exact hq
  | ret => exact hq
  | panic ch => exact hq
  | outgrown => exact hq
theorem LOps.cut {C : Ctx} {n : Nat} {ops : Array Oper} {rest : List Oper} {Q : Post} {e : Env} {H : Heap} {k : Env → Heap → Prop} (l : List (Nat × LV))
    (hx : LOps C n ops (QThen (At l H e.ds) Q) rest e H) (hy : ∀ j : Env, j.ds = e.ds → k (Env.slots j l) H) : LOps C n ops (QThen k Q) rest e H := LOps.cutTo l H hx hy
theorem LCode.cut {C : Ctx} {n : Nat} {c : Code} {Q : Post} {e : Env} {H : Heap} {k : Env → Heap → Prop} (l : List (Nat × LV))
    (hx : LCode C n c (QThen (At l H e.ds) Q) e H) (hy : ∀ j : Env, j.ds = e.ds → k (Env.slots j l) H) : LCode C n c (QThen k Q) e H := LCode.cutTo l H hx hy
theorem yielded_undef {ops : Array Oper} {n : Nat} {a : Act} {e : Env} {w : World} {L : Live} (hE : RelE n a e w L) {j d : Nat} (hj : (ops[j]?).bind (·.dst) = some d) (hb : e.s d = .atom undef) : yielded ops a.tmps j = none := by
  have h := hE.vals d
  rw [hb] at h
  simp only [Rep] at h
  unfold yielded
  rw [hj]
  simp only [Option.bind_some]
  rw [Array.getD_eq_getD_getElem?] at h
  cases hx : a.tmps[d]? with
  | none => rfl
  | some x => rw [hx] at h; simp only [Option.getD_some] at h; subst h; rfl
/-- An operation whose guard was itself passed over. -/
theorem LOps.skipU {C : Ctx} {n : Nat} {ops : Array Oper} {Q : Post} {e : Env} {H : Heap} {dst : Option Nat} {op : Op} {ty : TypeId} {pos : String} {aft : Array Edge} {rest : List Oper} {j d : Nat} {c : Bool}
    (hj : (ops[j]?).bind (·.dst) = some d) (hb : e.s d = .atom undef) (hd : dstOk n dst)
    (k : LOps C n ops Q rest (e.put dst (.atom undef)) H) : LOps C n ops Q (⟨dst, op, ty, pos, aft, some (j, c)⟩ :: rest) e H := fun a w L hE hH => by
  unfold wpList
  rw [if_neg (by simp [Region.wanted, yielded_undef hE hj hb])]
  exact k _ w L (hE.put hd (by simp only [Rep])) hH
theorem LQ.skipU {C : Ctx} {n : Nat} {ops : Array Oper} {K : Env → Prop} {e : Env} {H : Heap} {dst : Option Nat} {op : Op} {ty : TypeId} {pos : String} {aft : Array Edge} {rest : List Oper} {j d : Nat} {c : Bool} (hj : (ops[j]?).bind (·.dst) = some d) (hb : e.s d = .atom undef) (hd : dstOk n dst)
    (k : LQ C n ops K rest (e.put dst (.atom undef)) H) : LQ C n ops K (⟨dst, op, ty, pos, aft, some (j, c)⟩ :: rest) e H := fun a w L hE hH => by
  unfold wpQuiet
  rw [if_neg (by simp [Region.wanted, yielded_undef hE hj hb])]
  exact k _ w L (hE.put hd rep_atom) hH
theorem int_eq {k : IntKind} {a b : Int} (h : a = b) : int k a = int k b := by rw [h]
end Go.GL
namespace Go.Stele
@[reducible] def cv (c : UInt8) : Int := (c.toNat : Int)
def isDigit (c : UInt8) : Bool := decide (48 ≤ cv c) && decide (cv c ≤ 57)
def isLetter (c : UInt8) : Bool := decide (97 ≤ cv c) && decide (cv c ≤ 122)
def isInner (c : UInt8) : Bool := isLetter c || isDigit c || decide (cv c = 95)
def notNl (c : UInt8) : Bool := !decide (cv c = 10)
def isWhite (c : UInt8) : Bool := decide (cv c = 32) || decide (cv c = 9) || decide (cv c = 10)
structure Tok where
  kind : Int
  text : List UInt8
  line : Int
  deriving DecidableEq, Inhabited
end Go.Stele
namespace Go.Stele
theorem takeWhile_step {p : UInt8 → Bool} {s : List UInt8} {m : Nat} (hm : m < s.length) (h : s.takeWhile p = s.take m ++ (s.drop m).takeWhile p) :
    (p s[m] = true → s.takeWhile p = s.take (m + 1) ++ (s.drop (m + 1)).takeWhile p) ∧ (p s[m] = false → s.takeWhile p = s.take m) := by
  have h1 : s.drop m = s[m] :: s.drop (m + 1) := List.drop_eq_getElem_cons hm
  constructor
  · intro hp
    rw [h, h1, List.takeWhile_cons_of_pos hp, List.take_succ_eq_append_getElem hm]
    simp only [List.append_assoc, List.singleton_append]
  · intro hp
    rw [h, h1, List.takeWhile_cons_of_neg (by simp [hp])]
    simp
theorem takeWhile_end {p : UInt8 → Bool} {s : List UInt8} {m : Nat} (hm : s.length ≤ m) (h : s.takeWhile p = s.take m ++ (s.drop m).takeWhile p) : s.takeWhile p = s.take m := by
  rw [h, List.drop_eq_nil_of_le hm]
  simp
def skipLen (s : List UInt8) : Nat := if [47, 47].isPrefixOf s then (s.takeWhile notNl).length else (s.takeWhile isWhite).length
end Go.Stele
/- What the lexer computes, in plain Lean: tokens. -/
namespace Go.Stele
def zeroTok : Tok := ⟨0, [], 0⟩
/-- A token, its length, an error. -/
abbrev TokR := Tok × Nat × Int
def tokErr (e : Int) : TokR := (zeroTok, 0, e)
def wordNext (s : List UInt8) (n : Nat) : Bool := match s[n]? with
  | some c => isLetter c || decide (cv c = 95)
  | none => false
def lexNumber (s : List UInt8) : TokR :=
  if wordNext s (s.takeWhile isDigit).length then tokErr 3 else
    match Go.Lib.parseUintB 32 (s.takeWhile isDigit) with
    | .ok u => (⟨1, Go.Lib.decDigits u, 0⟩, (s.takeWhile isDigit).length, 0)
    | _ => tokErr 2
def lexLiteral : List UInt8 → TokR
  | _ :: b :: c :: _ => if (!decide (cv c = 39)) || decide (cv b < 32) || decide (126 < cv b) || decide (cv b = 39) || decide (cv b = 92) then tokErr 3 else (⟨1, Go.Lib.decDigits b.toNat, 0⟩, 3, 0)
  | _ => tokErr 3
def keywords : List (List UInt8) := [[97, 114, 114, 97, 121], [101, 108, 115, 101], [102, 117, 110, 99], [104, 97, 108, 116], [105, 102], [114, 101, 116, 117, 114, 110], [118, 97, 114], [119, 104, 105, 108, 101]]
def signs : List (List UInt8) := [[38, 38], [124, 124], [61, 61], [33, 61], [60, 61], [62, 61], [60], [62], [94], [43], [45], [42], [47], [37], [33], [61], [40], [41], [123], [125], [91], [93], [44], [59]]
def lexName (s : List UInt8) : TokR :=
  if 24 < (s.takeWhile isInner).length then tokErr 7 else (⟨if keywords.contains (s.takeWhile isInner) then 3 else 2, s.takeWhile isInner, 0⟩, (s.takeWhile isInner).length, 0)
def lexSign (s : List UInt8) : TokR := match signs.find? (fun x => x.isPrefixOf s) with
  | some x => (⟨4, x, 0⟩, x.length, 0)
  | none => tokErr 3
def lexToken (s : List UInt8) : TokR := match s with
  | [] => tokErr 3
  | c :: _ => if isDigit c then lexNumber s else if isLetter c then lexName s else if decide (cv c = 39) then lexLiteral s else lexSign s
/-- The tokens of s, whose first line has this number; or the line and the error. -/
def lexP : Nat → List UInt8 → Int → Except (Int × Int) (List Tok)
  | 0, _, _ => .ok []
  | fuel + 1, s, line =>
    if s = [] then .ok [] else
    if skipLen s = 0 then
      if (lexToken s).2.2 ≠ 0 then .error (line, (lexToken s).2.2)
      else (lexP fuel (s.drop (lexToken s).2.1) (line + ((s.take (lexToken s).2.1).count 10 : Nat))).map ({ (lexToken s).1 with line := line } :: ·)
    else lexP fuel (s.drop (skipLen s)) (line + ((s.take (skipLen s)).count 10 : Nat))
end Go.Stele
namespace Go.Stele
theorem takeWhile_le (p : UInt8 → Bool) (s : List UInt8) : (s.takeWhile p).length ≤ s.length := (List.takeWhile_prefix p).length_le
theorem lexToken_size (s : List UInt8) (h : (lexToken s).2.2 = 0) : 0 < (lexToken s).2.1 ∧ (lexToken s).2.1 ≤ s.length := by
  match s with
  | [] => simp [lexToken, tokErr] at h
  | c :: r =>
    simp only [lexToken] at h ⊢
    split at h <;> rename_i hc
    · rw [if_pos hc]
      unfold lexNumber at h ⊢
      split at h
      · simp [tokErr] at h
      · rename_i hw
        rw [if_neg hw]
        split at h
        · rename_i u hu
          refine ⟨?_, takeWhile_le _ _⟩
          rw [List.takeWhile_cons_of_pos hc]
          simp
        · simp [tokErr] at h
    · rw [if_neg hc]
      split at h <;> rename_i hl
      · rw [if_pos hl]
        unfold lexName at h ⊢
        split at h
        · simp [tokErr] at h
        · rename_i hw
          rw [if_neg hw]
          refine ⟨?_, takeWhile_le _ _⟩
          rw [List.takeWhile_cons_of_pos (by simp [isInner, hl])]
          simp
      · rw [if_neg hl]
        split at h <;> rename_i hq
        · rw [if_pos hq]
          unfold lexLiteral at h ⊢
          split at h
          · split at h
            · simp [tokErr] at h
            · rename_i hx
              rename_i heq
              rw [if_neg hx, heq]
              simp
          · simp [tokErr] at h
        · rw [if_neg hq]
          unfold lexSign at h ⊢
          split at h
          · rename_i x hx
            have h1 := List.find?_some hx
            have h2 := List.mem_of_find?_eq_some hx
            refine ⟨?_, (List.isPrefixOf_iff_prefix.1 h1).length_le⟩
            have : ∀ x ∈ signs, 0 < x.length := by decide
            exact this x h2
          · simp [tokErr] at h
theorem skipLen_le (s : List UInt8) : skipLen s ≤ s.length := by
  unfold skipLen
  split <;> exact takeWhile_le _ _
end Go.Stele
namespace Go.Proofs.YtfodkbchknknjaaGreatDoor
open Go.GL Go.RowKit Go.Stele
set_option maxRecDepth 100000
set_option maxHeartbeats 4000000
noncomputable abbrev KC (B0 : Nat) (w0 : World) : Ctx := ⟨Tryz.prog, B0, w0⟩
attribute [local irreducible] LOps LCode LStep LCalls Go.GL.Pure QThen QBlock RetPost
section
variable {B0 : Nat} {w0 : World}
theorem digit_spec (c : UInt8) : LCalls (KC B0 w0) 74 [int .u8 c.toNat] [] (Ret (bool (isDigit c))) := by
  refine LCalls.intro Tryz.func74 rfl (n := 9) rfl rfl rfl ?_
  repeat first
    | refine LOps.nil ?_
    | refine LCode.seq ?_
    | refine LCode.region ?_
    | refine QThen.normal ?_
    | refine LOps.pure (Pure.as (lv := .atom _) rfl) rfl ?_
    | refine LOps.pure (Pure.mv (lv := .atom _) rfl) rfl ?_
    | refine LOps.pure (Pure.geq rfl rfl) rfl ?_
  refine LOps.bcase 5 rfl (fun ht => ?_) (fun ht => ?_)
  · repeat first
      | refine LOps.nil ?_
      | refine LCode.ret ?_
      | refine QThen.normal ?_
      | refine LOps.pure (Pure.as (lv := .atom _) rfl) rfl ?_
      | refine LOps.pure (Pure.mv (lv := .atom _) rfl) rfl ?_
      | refine LOps.pure (Pure.leq rfl rfl) rfl ?_
      | refine LOps.pure (Pure.pickT (lv := .atom _) rfl rfl) rfl ?_
      | refine LOps.want rfl rfl ?_
    exact retRet rfl (AllRes.cons (ResIs.tmp (v := .atom _) rfl (LV.Sub.refl _)) AllRes.nil) (by simp [resLV, isDigit, ht])
  · repeat first
      | refine LOps.nil ?_
      | refine LCode.ret ?_
      | refine QThen.normal ?_
      | refine LOps.pure (Pure.as (lv := .atom _) rfl) rfl ?_
      | refine LOps.pure (Pure.pickF (lv := .atom _) rfl rfl) rfl ?_
      | refine LOps.skip rfl rfl rfl rfl ?_
    exact retRet rfl (AllRes.cons (ResIs.tmp (v := .atom _) rfl (LV.Sub.refl _)) AllRes.nil) (by simp [resLV, isDigit, ht])
theorem letter_spec (c : UInt8) : LCalls (KC B0 w0) 76 [int .u8 c.toNat] [] (Ret (bool (isLetter c))) := by
  refine LCalls.intro Tryz.func76 rfl (n := 9) rfl rfl rfl ?_
  repeat first
    | refine LOps.nil ?_
    | refine LCode.seq ?_
    | refine LCode.region ?_
    | refine QThen.normal ?_
    | refine LOps.pure (Pure.as (lv := .atom _) rfl) rfl ?_
    | refine LOps.pure (Pure.mv (lv := .atom _) rfl) rfl ?_
    | refine LOps.pure (Pure.geq rfl rfl) rfl ?_
  refine LOps.bcase 5 rfl (fun ht => ?_) (fun ht => ?_)
  · repeat first
      | refine LOps.nil ?_
      | refine LCode.ret ?_
      | refine QThen.normal ?_
      | refine LOps.pure (Pure.as (lv := .atom _) rfl) rfl ?_
      | refine LOps.pure (Pure.mv (lv := .atom _) rfl) rfl ?_
      | refine LOps.pure (Pure.leq rfl rfl) rfl ?_
      | refine LOps.pure (Pure.pickT (lv := .atom _) rfl rfl) rfl ?_
      | refine LOps.want rfl rfl ?_
    exact retRet rfl (AllRes.cons (ResIs.tmp (v := .atom _) rfl (LV.Sub.refl _)) AllRes.nil) (by simp [resLV, isLetter, ht])
  · repeat first
      | refine LOps.nil ?_
      | refine LCode.ret ?_
      | refine QThen.normal ?_
      | refine LOps.pure (Pure.as (lv := .atom _) rfl) rfl ?_
      | refine LOps.pure (Pure.pickF (lv := .atom _) rfl rfl) rfl ?_
      | refine LOps.skip rfl rfl rfl rfl ?_
    exact retRet rfl (AllRes.cons (ResIs.tmp (v := .atom _) rfl (LV.Sub.refl _)) AllRes.nil) (by simp [resLV, isLetter, ht])
theorem notNl_spec (c : UInt8) : LCalls (KC B0 w0) 72 [int .u8 c.toNat] [] (Ret (bool (notNl c))) := by
  refine LCalls.intro Tryz.func72 rfl (n := 5) rfl rfl rfl ?_
  repeat first
    | refine LOps.nil ?_
    | refine LCode.seq ?_
    | refine LCode.region ?_
    | refine LCode.ret ?_
    | refine QThen.normal ?_
    | refine LOps.pure (Pure.as (lv := .atom _) rfl) rfl ?_
    | refine LOps.pure (Pure.mv (lv := .atom _) rfl) rfl ?_
    | refine LOps.pure (Pure.neq rfl rfl) rfl ?_
  exact retRet rfl (AllRes.cons (ResIs.tmp (v := .atom _) rfl (LV.Sub.refl _)) AllRes.nil) rfl
theorem inner_spec (c : UInt8) : LCalls (KC B0 w0) 112 [int .u8 c.toNat] [] (Ret (bool (isInner c))) := by
  refine LCalls.intro Tryz.func112 rfl (n := 13) rfl rfl rfl ?_
  repeat first
    | refine LOps.nil ?_
    | refine LCode.seq ?_
    | refine LCode.region ?_
    | refine QThen.normal ?_
    | refine LOps.pure (Pure.as (lv := .atom _) rfl) rfl ?_
    | refine LOps.pure (Pure.mv (lv := .atom _) rfl) rfl ?_
  refine LOps.step (S.fn [_] rfl (letter_spec c) ?_) rfl
  repeat first
    | refine LOps.pure (Pure.mv (lv := .atom _) rfl) rfl ?_
  refine LOps.bcase 5 rfl (fun ht => ?_) (fun ht => ?_)
  · repeat first
      | refine LOps.nil ?_
      | refine LCode.ret ?_
      | refine QThen.normal ?_
      | refine LOps.pure (Pure.as (lv := .atom _) rfl) rfl ?_
      | refine LOps.pure (Pure.mv (lv := .atom _) rfl) rfl ?_
      | refine LOps.pure (Pure.pickT (lv := .atom _) rfl rfl) rfl ?_
      | refine LOps.skip rfl rfl rfl rfl ?_
    exact retRet rfl (AllRes.cons (ResIs.tmp (v := .atom _) rfl (LV.Sub.refl _)) AllRes.nil) (by simp [resLV, isInner, ht])
  · repeat first
      | refine LOps.pure (Pure.mv (lv := .atom _) rfl) rfl ?_
      | refine LOps.want rfl rfl ?_
    refine LOps.step (S.fn [_] rfl (digit_spec c) ?_) rfl
    repeat first
      | refine LOps.pure (Pure.mv (lv := .atom _) rfl) rfl ?_
      | refine LOps.pure (Pure.pickF (lv := .atom _) rfl rfl) rfl ?_
    refine LOps.bcase 9 rfl (fun hd => ?_) (fun hd => ?_)
    · repeat first
        | refine LOps.nil ?_
        | refine LCode.ret ?_
        | refine QThen.normal ?_
        | refine LOps.pure (Pure.as (lv := .atom _) rfl) rfl ?_
        | refine LOps.pure (Pure.pickT (lv := .atom _) rfl rfl) rfl ?_
        | refine LOps.skip rfl rfl rfl rfl ?_
      exact retRet rfl (AllRes.cons (ResIs.tmp (v := .atom _) rfl (LV.Sub.refl _)) AllRes.nil) (by simp [resLV, isInner, ht, hd])
    · repeat first
        | refine LOps.nil ?_
        | refine LCode.ret ?_
        | refine QThen.normal ?_
        | refine LOps.pure (Pure.as (lv := .atom _) rfl) rfl ?_
        | refine LOps.pure (Pure.mv (lv := .atom _) rfl) rfl ?_
        | refine LOps.pure (Pure.pickF (lv := .atom _) rfl rfl) rfl ?_
        | refine LOps.pure (Pure.eql rfl rfl) rfl ?_
        | refine LOps.want rfl rfl ?_
      exact retRet rfl (AllRes.cons (ResIs.tmp (v := .atom _) rfl (LV.Sub.refl _)) AllRes.nil) (by simp [resLV, isInner, ht, hd])
theorem white_spec (c : UInt8) : LCalls (KC B0 w0) 73 [int .u8 c.toNat] [] (Ret (bool (isWhite c))) := by
  refine LCalls.intro Tryz.func73 rfl (n := 13) rfl rfl rfl ?_
  repeat first
    | refine LOps.nil ?_
    | refine LCode.seq ?_
    | refine LCode.region ?_
    | refine QThen.normal ?_
    | refine LOps.pure (Pure.as (lv := .atom _) rfl) rfl ?_
    | refine LOps.pure (Pure.mv (lv := .atom _) rfl) rfl ?_
    | refine LOps.pure (Pure.eql rfl rfl) rfl ?_
  refine LOps.bcase 5 rfl (fun ht => ?_) (fun ht => ?_)
  · repeat first
      | refine LOps.nil ?_
      | refine LCode.ret ?_
      | refine QThen.normal ?_
      | refine LOps.pure (Pure.as (lv := .atom _) rfl) rfl ?_
      | refine LOps.pure (Pure.mv (lv := .atom _) rfl) rfl ?_
      | refine LOps.pure (Pure.pickT (lv := .atom _) rfl rfl) rfl ?_
      | refine LOps.skip rfl rfl rfl rfl ?_
    exact retRet rfl (AllRes.cons (ResIs.tmp (v := .atom _) rfl (LV.Sub.refl _)) AllRes.nil) (by simp [resLV, isWhite, ht])
  · repeat first
      | refine LOps.pure (Pure.mv (lv := .atom _) rfl) rfl ?_
      | refine LOps.pure (Pure.eql rfl rfl) rfl ?_
      | refine LOps.pure (Pure.pickF (lv := .atom _) rfl rfl) rfl ?_
      | refine LOps.want rfl rfl ?_
    refine LOps.bcase 9 rfl (fun hd => ?_) (fun hd => ?_)
    · repeat first
        | refine LOps.nil ?_
        | refine LCode.ret ?_
        | refine QThen.normal ?_
        | refine LOps.pure (Pure.as (lv := .atom _) rfl) rfl ?_
        | refine LOps.pure (Pure.pickT (lv := .atom _) rfl rfl) rfl ?_
        | refine LOps.skip rfl rfl rfl rfl ?_
      exact retRet rfl (AllRes.cons (ResIs.tmp (v := .atom _) rfl (LV.Sub.refl _)) AllRes.nil) (by simp [resLV, isWhite, ht, hd])
    · repeat first
        | refine LOps.nil ?_
        | refine LCode.ret ?_
        | refine QThen.normal ?_
        | refine LOps.pure (Pure.as (lv := .atom _) rfl) rfl ?_
        | refine LOps.pure (Pure.mv (lv := .atom _) rfl) rfl ?_
        | refine LOps.pure (Pure.eql rfl rfl) rfl ?_
        | refine LOps.pure (Pure.pickF (lv := .atom _) rfl rfl) rfl ?_
        | refine LOps.want rfl rfl ?_
      exact retRet rfl (AllRes.cons (ResIs.tmp (v := .atom _) rfl (LV.Sub.refl _)) AllRes.nil) (by simp [resLV, isWhite, ht, hd])
end
end Go.Proofs.YtfodkbchknknjaaGreatDoor
namespace Go.Proofs
def Tryz.lays156_ren : Go.Shelf.Ren := ⟨fun | 156 => 22 | 165 => 48 | 166 => 49 | 169 => 50 | 240 => 83 | 241 => 84 | 276 => 115 | 277 => 116 | n => n, fun | 31 => 23 | 9 => 9 | 3 => 3 | 4 => 4 | 0 => 0 | 20 => 20 | 72 => 87 | 76 => 91 | 70 => 84 | 37 => 85 | 75 => 90 | 127 => 115 | 164 => 131 | 5 => 5 | 80 => 68 | n => n, fun | n => n⟩
theorem Tryz.lays156 : Go.Proofs.Lays.n156 Tryz.prog Tryz.lays156_ren := {
  mixed := by kernel_rfl
  f156 := Tryz.func22.trans (congrArg some (by kernel_rfl))
  f165 := Tryz.func48.trans (congrArg some (by kernel_rfl))
  f166 := Tryz.func49.trans (congrArg some (by kernel_rfl))
  f169 := Tryz.func50.trans (congrArg some (by kernel_rfl))
  f240 := Tryz.func83.trans (congrArg some (by kernel_rfl))
  f241 := Tryz.func84.trans (congrArg some (by kernel_rfl))
  f276 := Tryz.func115.trans (congrArg some (by kernel_rfl))
  f277 := Tryz.func116.trans (congrArg some (by kernel_rfl))
  t0 := Tryz.underlying0
  a0 := Tryz.isAgg0
  z0 := Tryz.sizeOf0
  v0 := Tryz.zeroValue0
  t3 := Tryz.underlying3
  a3 := Tryz.isAgg3
  z3 := Tryz.sizeOf3
  v3 := Tryz.zeroValue3
  t4 := Tryz.underlying4
  a4 := Tryz.isAgg4
  z4 := Tryz.sizeOf4
  v4 := Tryz.zeroValue4
  t9 := Tryz.underlying9
  a9 := Tryz.isAgg9
  z9 := Tryz.sizeOf9
  v9 := Tryz.zeroValue9
  t20 := Tryz.underlying20
  a20 := Tryz.isAgg20
  z20 := Tryz.sizeOf20
  v20 := Tryz.zeroValue20
  t31 := Tryz.underlying23
  a31 := Tryz.isAgg23
  z31 := Tryz.sizeOf23
  v31 := Tryz.zeroValue23
  t37 := Tryz.underlying85
  a37 := Tryz.isAgg85
  z37 := Tryz.sizeOf85
  v37 := Tryz.zeroValue85
  t70 := Tryz.underlying84
  a70 := Tryz.isAgg84
  z70 := Tryz.sizeOf84
  v70 := Tryz.zeroValue84
  t72 := Tryz.underlying87
  a72 := Tryz.isAgg87
  z72 := Tryz.sizeOf87
  v72 := Tryz.zeroValue87
  t75 := Tryz.underlying90
  a75 := Tryz.isAgg90
  z75 := Tryz.sizeOf90
  v75 := Tryz.zeroValue90
  t76 := Tryz.underlying91
  a76 := Tryz.isAgg91
  z76 := Tryz.sizeOf91
  v76 := Tryz.zeroValue91
  t127 := Tryz.underlying115
  a127 := Tryz.isAgg115
  z127 := Tryz.sizeOf115
  v127 := Tryz.zeroValue115
  t164 := Tryz.underlying131
  a164 := Tryz.isAgg131
  z164 := Tryz.sizeOf131
  v164 := Tryz.zeroValue131 }
theorem Tryz.Builder_Extra_156 : Builder.Extra Tryz.prog Tryz.lays156_ren := {
  sizeBuilder := by kernel_rfl
  liesBuilder := by kernel_rfl
  t5 := Tryz.underlying5
  a5 := Tryz.isAgg5
  z5 := Tryz.sizeOf5
  v5 := Tryz.zeroValue5
  infoByte := by kernel_rfl
  cellsByte := by kernel_rfl
  sizeByte := by kernel_rfl
  neB5 := by decide }
open Go.RowKit in
theorem Tryz.strings_Join_none (a : Option Addr) (c : Nat) (sep : ByteArray) (w : World) :
    Calls Tryz.prog 22 #[.slice a 0 c, .string sep] w fun e w' => e = .returned (.string ⟨#[]⟩) ∧ w' = w := Any.strings_Join_none Tryz.lays156 Tryz.Builder_Extra_156 a c sep w
open Go.RowKit in
theorem Tryz.strings_Join (bk o c : Nat) (xs : List ByteArray) (sep : ByteArray) (w : World) (hcells : ∀ (j : Nat) x, xs[j]? = some x → w.cell? ⟨bk, o + j, none⟩ = some (.string x)) (hbk : bk < w.heap.size) (hN : xs.length ≤ 140737488355328) (hcap : xs.length ≤ c) (hlen : (Lib.join (xs.map (·.data.toList)) sep.data.toList).length ≤ 140737488355328) :
    Calls Tryz.prog 22 #[.slice (some ⟨bk, o, none⟩) xs.length c, .string sep] w fun e w' => e = .returned (.string ⟨(Lib.join (xs.map (·.data.toList)) sep.data.toList).toArray⟩) ∧ Below w.heap.size w w' := Any.strings_Join Tryz.lays156 Tryz.Builder_Extra_156 bk o c xs sep w hcells hbk hN hcap hlen
def Tryz.lays283_ren : Go.Shelf.Ren := ⟨fun | 283 => 137 | n => n, fun | 3 => 3 | 9 => 9 | 4 => 4 | n => n, fun | n => n⟩
theorem Tryz.lays283 : Go.Proofs.Lays.n283 Tryz.prog Tryz.lays283_ren := {
  mixed := by kernel_rfl
  f283 := Tryz.func137.trans (congrArg some (by kernel_rfl))
  t3 := Tryz.underlying3
  a3 := Tryz.isAgg3
  z3 := Tryz.sizeOf3
  v3 := Tryz.zeroValue3
  t4 := Tryz.underlying4
  a4 := Tryz.isAgg4
  z4 := Tryz.sizeOf4
  v4 := Tryz.zeroValue4
  t9 := Tryz.underlying9
  a9 := Tryz.isAgg9
  z9 := Tryz.sizeOf9
  v9 := Tryz.zeroValue9 }
open Go.Lib in
theorem Tryz.internal_strconv_small (i : Nat) (h : i < 100) (w : World) :
    Calls Tryz.prog 137 #[.int .i64 i] w fun e w' => e = .returned (.string ⟨(Lib.decDigits i).toArray⟩) ∧ w' = w := Any.internal_strconv_small Tryz.lays283 i h w
def Tryz.laysM284_ren : Go.Shelf.Ren := ⟨fun | 284 => 138 | 129 => 159 | 317 => 158 | 318 => 160 | n => n, fun | 53 => 119 | 3 => 3 | 212 => 156 | 0 => 0 | 4 => 4 | 46 => 95 | 5 => 5 | 9 => 9 | n => n, fun | 17 => 1 | n => n⟩
theorem Tryz.laysM284 : Go.Proofs.LaysM.n284 Tryz.prog Tryz.laysM284_ren := {
  mixed := by kernel_rfl
  f129 := Tryz.func159.trans (congrArg some (by kernel_rfl))
  f284 := Tryz.func138.trans (congrArg some (by kernel_rfl))
  f317 := Tryz.func158.trans (congrArg some (by kernel_rfl))
  f318 := Tryz.func160.trans (congrArg some (by kernel_rfl))
  t0 := Tryz.underlying0
  a0 := Tryz.isAgg0
  z0 := Tryz.sizeOf0
  v0 := Tryz.zeroValue0
  t3 := Tryz.underlying3
  a3 := Tryz.isAgg3
  z3 := Tryz.sizeOf3
  v3 := Tryz.zeroValue3
  t4 := Tryz.underlying4
  a4 := Tryz.isAgg4
  z4 := Tryz.sizeOf4
  v4 := Tryz.zeroValue4
  t5 := Tryz.underlying5
  a5 := Tryz.isAgg5
  z5 := Tryz.sizeOf5
  v5 := Tryz.zeroValue5
  t9 := Tryz.underlying9
  a9 := Tryz.isAgg9
  z9 := Tryz.sizeOf9
  v9 := Tryz.zeroValue9
  t46 := Tryz.underlying95
  a46 := Tryz.isAgg95
  z46 := Tryz.sizeOf95
  v46 := Tryz.zeroValue95
  t53 := Tryz.underlying119
  a53 := Tryz.isAgg119
  z53 := Tryz.sizeOf119
  v53 := Tryz.zeroValue119
  t212 := Tryz.underlying156
  a212 := Tryz.isAgg156
  z212 := Tryz.sizeOf156
  v212 := Tryz.zeroValue156
  g17 := by kernel_rfl
  i0 := by kernel_rfl
  i3 := by kernel_rfl
  i4 := by kernel_rfl
  i5 := by kernel_rfl
  i9 := by kernel_rfl
  i46 := by kernel_rfl
  i53 := by kernel_rfl
  i212 := by kernel_rfl
  m17 := by kernel_rfl }
open Go.Lib in
theorem Tryz.internal_strconv_numDigits (u : Nat) (h1 : 1 ≤ u) (h2 : u < 18446744073709551616) (w : World) (htab : Lib.TabIs Tryz.prog w "internal/strconv.uint64pow10" .u64 Lib.pow10Tab) :
    Calls Tryz.prog 138 #[.int .u64 u] w fun e w' => e = .returned (.int .i64 (Lib.nDigits u)) ∧ w' = w := Any.internal_strconv_numDigits Tryz.laysM284 u h1 h2 w htab
def Tryz.lays285_ren : Go.Shelf.Ren := ⟨fun | 285 => 139 | n => n, fun | 37 => 85 | 53 => 119 | 3 => 3 | 4 => 4 | 51 => 35 | 9 => 9 | 5 => 5 | 0 => 0 | n => n, fun | n => n⟩
theorem Tryz.lays285 : Go.Proofs.Lays.n285 Tryz.prog Tryz.lays285_ren := {
  mixed := by kernel_rfl
  f285 := Tryz.func139.trans (congrArg some (by kernel_rfl))
  t0 := Tryz.underlying0
  a0 := Tryz.isAgg0
  z0 := Tryz.sizeOf0
  v0 := Tryz.zeroValue0
  t3 := Tryz.underlying3
  a3 := Tryz.isAgg3
  z3 := Tryz.sizeOf3
  v3 := Tryz.zeroValue3
  t4 := Tryz.underlying4
  a4 := Tryz.isAgg4
  z4 := Tryz.sizeOf4
  v4 := Tryz.zeroValue4
  t5 := Tryz.underlying5
  a5 := Tryz.isAgg5
  z5 := Tryz.sizeOf5
  v5 := Tryz.zeroValue5
  t9 := Tryz.underlying9
  a9 := Tryz.isAgg9
  z9 := Tryz.sizeOf9
  v9 := Tryz.zeroValue9
  t37 := Tryz.underlying85
  a37 := Tryz.isAgg85
  z37 := Tryz.sizeOf85
  v37 := Tryz.zeroValue85
  t51 := Tryz.underlying35
  a51 := Tryz.isAgg35
  z51 := Tryz.sizeOf35
  v51 := Tryz.zeroValue35
  t53 := Tryz.underlying119
  a53 := Tryz.isAgg119
  z53 := Tryz.sizeOf119
  v53 := Tryz.zeroValue119 }
open Go.RowKit Go.Sort Go.Lib in
theorem Tryz.internal_strconv_formatBase10 (blk off cap : Nat) (u : Nat) (d : Array UInt8) (w : World) (hH : Holds (fun (b : UInt8) => Value.int .u8 (b.toNat : Int)) w blk off d) (hu : u < 10 ^ d.size) (hu64 : u < 18446744073709551616) (hsz : d.size < 4611686018427387904) :
    Calls Tryz.prog 139 #[.slice (some ⟨blk, off, none⟩) d.size cap, .int .u64 u] w fun e w' =>
      e = .returned (.tuple #[]) ∧ ∃ (n v' : Nat) (dk : Array UInt8), w' = (putRow (fun (b : UInt8) => Value.int .u8 (b.toNat : Int)) w blk off dk).drewN n ∧ FmtInv d.size u 0 v' dk := Any.internal_strconv_formatBase10 Tryz.lays285 blk off cap u d w hH hu hu64 hsz
def Tryz.laysM171_ren : Go.Shelf.Ren := ⟨fun | 171 => 51 | 243 => 85 | 246 => 117 | 283 => 137 | 284 => 138 | 285 => 139 | 286 => 140 | 129 => 159 | 317 => 158 | 318 => 160 | 319 => 161 | 320 => 162 | 337 => 172 | 338 => 173 | n => n, fun | 3 => 3 | 9 => 9 | 2 => 2 | 4 => 4 | 171 => 142 | 0 => 0 | 53 => 119 | 37 => 85 | 5 => 5 | 173 => 145 | 212 => 156 | 51 => 35 | 20 => 20 | 213 => 157 | 46 => 95 | 232 => 174 | 233 => 175 | n => n, fun | 17 => 1 | 18 => 4 | 19 => 5 | n => n⟩
theorem Tryz.laysM171 : Go.Proofs.LaysM.n171 Tryz.prog Tryz.laysM171_ren := {
  mixed := by kernel_rfl
  f129 := Tryz.func159.trans (congrArg some (by kernel_rfl))
  f171 := Tryz.func51.trans (congrArg some (by kernel_rfl))
  f243 := Tryz.func85.trans (congrArg some (by kernel_rfl))
  f246 := Tryz.func117.trans (congrArg some (by kernel_rfl))
  f283 := Tryz.func137.trans (congrArg some (by kernel_rfl))
  f284 := Tryz.func138.trans (congrArg some (by kernel_rfl))
  f285 := Tryz.func139.trans (congrArg some (by kernel_rfl))
  f286 := Tryz.func140.trans (congrArg some (by kernel_rfl))
  f317 := Tryz.func158.trans (congrArg some (by kernel_rfl))
  f318 := Tryz.func160.trans (congrArg some (by kernel_rfl))
  f319 := Tryz.func161.trans (congrArg some (by kernel_rfl))
  f320 := Tryz.func162.trans (congrArg some (by kernel_rfl))
  f337 := Tryz.func172.trans (congrArg some (by kernel_rfl))
  f338 := Tryz.func173.trans (congrArg some (by kernel_rfl))
  t0 := Tryz.underlying0
  a0 := Tryz.isAgg0
  z0 := Tryz.sizeOf0
  v0 := Tryz.zeroValue0
  t2 := Tryz.underlying2
  a2 := Tryz.isAgg2
  z2 := Tryz.sizeOf2
  v2 := Tryz.zeroValue2
  t3 := Tryz.underlying3
  a3 := Tryz.isAgg3
  z3 := Tryz.sizeOf3
  v3 := Tryz.zeroValue3
  t4 := Tryz.underlying4
  a4 := Tryz.isAgg4
  z4 := Tryz.sizeOf4
  v4 := Tryz.zeroValue4
  t5 := Tryz.underlying5
  a5 := Tryz.isAgg5
  z5 := Tryz.sizeOf5
  v5 := Tryz.zeroValue5
  t9 := Tryz.underlying9
  a9 := Tryz.isAgg9
  z9 := Tryz.sizeOf9
  v9 := Tryz.zeroValue9
  t20 := Tryz.underlying20
  a20 := Tryz.isAgg20
  z20 := Tryz.sizeOf20
  v20 := Tryz.zeroValue20
  t37 := Tryz.underlying85
  a37 := Tryz.isAgg85
  z37 := Tryz.sizeOf85
  v37 := Tryz.zeroValue85
  t46 := Tryz.underlying95
  a46 := Tryz.isAgg95
  z46 := Tryz.sizeOf95
  v46 := Tryz.zeroValue95
  t51 := Tryz.underlying35
  a51 := Tryz.isAgg35
  z51 := Tryz.sizeOf35
  v51 := Tryz.zeroValue35
  t53 := Tryz.underlying119
  a53 := Tryz.isAgg119
  z53 := Tryz.sizeOf119
  v53 := Tryz.zeroValue119
  t171 := Tryz.underlying142
  a171 := Tryz.isAgg142
  z171 := Tryz.sizeOf142
  v171 := Tryz.zeroValue142
  t173 := Tryz.underlying145
  a173 := Tryz.isAgg145
  z173 := Tryz.sizeOf145
  v173 := Tryz.zeroValue145
  t212 := Tryz.underlying156
  a212 := Tryz.isAgg156
  z212 := Tryz.sizeOf156
  v212 := Tryz.zeroValue156
  t213 := Tryz.underlying157
  a213 := Tryz.isAgg157
  z213 := Tryz.sizeOf157
  t232 := Tryz.underlying174
  a232 := Tryz.isAgg174
  z232 := Tryz.sizeOf174
  v232 := Tryz.zeroValue174
  t233 := Tryz.underlying175
  a233 := Tryz.isAgg175
  z233 := Tryz.sizeOf175
  v233 := Tryz.zeroValue175
  g17 := by kernel_rfl
  g18 := by kernel_rfl
  g19 := by kernel_rfl
  i0 := by kernel_rfl
  i2 := by kernel_rfl
  i3 := by kernel_rfl
  i4 := by kernel_rfl
  i5 := by kernel_rfl
  i9 := by kernel_rfl
  i20 := by kernel_rfl
  i37 := by kernel_rfl
  i46 := by kernel_rfl
  i51 := by kernel_rfl
  i53 := by kernel_rfl
  i171 := by kernel_rfl
  i173 := by kernel_rfl
  i212 := by kernel_rfl
  i232 := by kernel_rfl
  i233 := by kernel_rfl
  m17 := by kernel_rfl
  m18 := by kernel_rfl
  m19 := by kernel_rfl }
open Go.RowKit Go.Sort Go.Lib in
theorem Tryz.strconv_Itoa (n : Int) (h0 : -9223372036854775808 ≤ n) (h1 : n ≤ 9223372036854775807) (w : World) (htab : Lib.TabIs Tryz.prog w "internal/strconv.uint64pow10" .u64 Lib.pow10Tab) :
    Calls Tryz.prog 51 #[.int .i64 n] w fun e w' => e = .returned (.string ⟨(Lib.itoa n).toArray⟩) ∧ ∃ k os, w' = grow (w.drewN k) os := Any.strconv_Itoa Tryz.laysM171 n h0 h1 w htab
def Tryz.laysPu14_ren : Go.Shelf.Ren := ⟨fun | 14 => 110 | 16 => 130 | 17 => 131 | 19 => 150 | 20 => 151 | 21 => 152 | 22 => 153 | 23 => 154 | 24 => 155 | 25 => 170 | 27 => 51 | 26 => 171 | 28 => 85 | 29 => 117 | 30 => 137 | 31 => 138 | 32 => 139 | 33 => 140 | 35 => 159 | 34 => 158 | 36 => 160 | 37 => 161 | 38 => 162 | 39 => 172 | 40 => 173 | n => n, fun | 9 => 9 | 3 => 3 | 22 => 119 | 24 => 90 | 25 => 128 | 4 => 4 | 34 => 149 | 5 => 5 | 36 => 95 | 37 => 85 | 0 => 0 | 39 => 151 | 21 => 21 | 44 => 166 | 47 => 115 | 50 => 173 | 48 => 171 | 2 => 2 | 52 => 142 | 55 => 145 | 59 => 156 | 60 => 35 | 20 => 20 | 61 => 157 | 65 => 174 | 66 => 175 | 67 => 68 | n => n, fun | 0 => 2 | 1 => 3 | 2 => 1 | 3 => 4 | 4 => 5 | n => n⟩
theorem Tryz.laysPu14 : Go.Proofs.LaysPu.n14 Tryz.prog Tryz.laysPu14_ren := {
  mixed := by kernel_rfl
  f14 := Tryz.func110.trans (congrArg some (by kernel_rfl))
  f16 := Tryz.func130.trans (congrArg some (by kernel_rfl))
  f17 := Tryz.func131.trans (congrArg some (by kernel_rfl))
  f19 := Tryz.func150.trans (congrArg some (by kernel_rfl))
  f20 := Tryz.func151.trans (congrArg some (by kernel_rfl))
  f21 := Tryz.func152.trans (congrArg some (by kernel_rfl))
  f22 := Tryz.func153.trans (congrArg some (by kernel_rfl))
  f23 := Tryz.func154.trans (congrArg some (by kernel_rfl))
  f24 := Tryz.func155.trans (congrArg some (by kernel_rfl))
  f25 := Tryz.func170.trans (congrArg some (by kernel_rfl))
  f26 := Tryz.func171.trans (congrArg some (by kernel_rfl))
  f27 := Tryz.func51.trans (congrArg some (by kernel_rfl))
  f28 := Tryz.func85.trans (congrArg some (by kernel_rfl))
  f29 := Tryz.func117.trans (congrArg some (by kernel_rfl))
  f30 := Tryz.func137.trans (congrArg some (by kernel_rfl))
  f31 := Tryz.func138.trans (congrArg some (by kernel_rfl))
  f32 := Tryz.func139.trans (congrArg some (by kernel_rfl))
  f33 := Tryz.func140.trans (congrArg some (by kernel_rfl))
  f34 := Tryz.func158.trans (congrArg some (by kernel_rfl))
  f35 := Tryz.func159.trans (congrArg some (by kernel_rfl))
  f36 := Tryz.func160.trans (congrArg some (by kernel_rfl))
  f37 := Tryz.func161.trans (congrArg some (by kernel_rfl))
  f38 := Tryz.func162.trans (congrArg some (by kernel_rfl))
  f39 := Tryz.func172.trans (congrArg some (by kernel_rfl))
  f40 := Tryz.func173.trans (congrArg some (by kernel_rfl))
  t0 := Tryz.underlying0
  a0 := Tryz.isAgg0
  z0 := Tryz.sizeOf0
  v0 := Tryz.zeroValue0
  i0 := by kernel_rfl
  t2 := Tryz.underlying2
  a2 := Tryz.isAgg2
  z2 := Tryz.sizeOf2
  v2 := Tryz.zeroValue2
  i2 := by kernel_rfl
  t3 := Tryz.underlying3
  a3 := Tryz.isAgg3
  z3 := Tryz.sizeOf3
  v3 := Tryz.zeroValue3
  i3 := by kernel_rfl
  t4 := Tryz.underlying4
  a4 := Tryz.isAgg4
  z4 := Tryz.sizeOf4
  v4 := Tryz.zeroValue4
  i4 := by kernel_rfl
  t5 := Tryz.underlying5
  a5 := Tryz.isAgg5
  z5 := Tryz.sizeOf5
  v5 := Tryz.zeroValue5
  i5 := by kernel_rfl
  t9 := Tryz.underlying9
  a9 := Tryz.isAgg9
  z9 := Tryz.sizeOf9
  v9 := Tryz.zeroValue9
  i9 := by kernel_rfl
  t20 := Tryz.underlying20
  a20 := Tryz.isAgg20
  z20 := Tryz.sizeOf20
  v20 := Tryz.zeroValue20
  i20 := by kernel_rfl
  t21 := Tryz.underlying21
  a21 := Tryz.isAgg21
  z21 := Tryz.sizeOf21
  v21 := Tryz.zeroValue21
  i21 := by kernel_rfl
  t22 := Tryz.underlying119
  a22 := Tryz.isAgg119
  z22 := Tryz.sizeOf119
  v22 := Tryz.zeroValue119
  i22 := by kernel_rfl
  t24 := Tryz.underlying90
  a24 := Tryz.isAgg90
  z24 := Tryz.sizeOf90
  v24 := Tryz.zeroValue90
  i24 := by kernel_rfl
  t25 := Tryz.underlying128
  a25 := Tryz.isAgg128
  z25 := Tryz.sizeOf128
  v25 := Tryz.zeroValue128
  i25 := by kernel_rfl
  t34 := Tryz.underlying149
  a34 := Tryz.isAgg149
  z34 := Tryz.sizeOf149
  v34 := Tryz.zeroValue149
  i34 := by kernel_rfl
  c34 := by kernel_rfl
  t36 := Tryz.underlying95
  a36 := Tryz.isAgg95
  z36 := Tryz.sizeOf95
  v36 := Tryz.zeroValue95
  i36 := by kernel_rfl
  t37 := Tryz.underlying85
  a37 := Tryz.isAgg85
  z37 := Tryz.sizeOf85
  v37 := Tryz.zeroValue85
  i37 := by kernel_rfl
  t39 := Tryz.underlying151
  a39 := Tryz.isAgg151
  z39 := Tryz.sizeOf151
  v39 := Tryz.zeroValue151
  i39 := by kernel_rfl
  t44 := Tryz.underlying166
  a44 := Tryz.isAgg166
  z44 := Tryz.sizeOf166
  v44 := Tryz.zeroValue166
  i44 := by kernel_rfl
  t47 := Tryz.underlying115
  a47 := Tryz.isAgg115
  z47 := Tryz.sizeOf115
  v47 := Tryz.zeroValue115
  i47 := by kernel_rfl
  t48 := Tryz.underlying171
  a48 := Tryz.isAgg171
  z48 := Tryz.sizeOf171
  v48 := Tryz.zeroValue171
  i48 := by kernel_rfl
  t50 := Tryz.underlying173
  a50 := Tryz.isAgg173
  z50 := Tryz.sizeOf173
  v50 := Tryz.zeroValue173
  i50 := by kernel_rfl
  t52 := Tryz.underlying142
  a52 := Tryz.isAgg142
  z52 := Tryz.sizeOf142
  v52 := Tryz.zeroValue142
  i52 := by kernel_rfl
  t55 := Tryz.underlying145
  a55 := Tryz.isAgg145
  z55 := Tryz.sizeOf145
  v55 := Tryz.zeroValue145
  i55 := by kernel_rfl
  t59 := Tryz.underlying156
  a59 := Tryz.isAgg156
  z59 := Tryz.sizeOf156
  v59 := Tryz.zeroValue156
  i59 := by kernel_rfl
  t60 := Tryz.underlying35
  a60 := Tryz.isAgg35
  z60 := Tryz.sizeOf35
  v60 := Tryz.zeroValue35
  i60 := by kernel_rfl
  t61 := Tryz.underlying157
  a61 := Tryz.isAgg157
  z61 := Tryz.sizeOf157
  t65 := Tryz.underlying174
  a65 := Tryz.isAgg174
  z65 := Tryz.sizeOf174
  v65 := Tryz.zeroValue174
  i65 := by kernel_rfl
  t66 := Tryz.underlying175
  a66 := Tryz.isAgg175
  z66 := Tryz.sizeOf175
  v66 := Tryz.zeroValue175
  i66 := by kernel_rfl
  t67 := Tryz.underlying68
  a67 := Tryz.isAgg68
  z67 := Tryz.sizeOf68
  v67 := Tryz.zeroValue68
  i67 := by kernel_rfl
  g0 := by kernel_rfl
  m0 := by kernel_rfl
  g1 := by kernel_rfl
  m1 := by kernel_rfl
  g2 := by kernel_rfl
  m2 := by kernel_rfl
  g3 := by kernel_rfl
  m3 := by kernel_rfl
  g4 := by kernel_rfl
  m4 := by kernel_rfl }
open Go.RowKit in
theorem Tryz.strconv_ParseUint_10_at32_ok (s : ByteArray) (hmax : s.size ≤ 9223372036854775806) (u : Nat) (h : Lib.parseUintB 32 s.data.toList = .ok u) (w : World) :
    Calls Tryz.prog 110 #[.string s, .int .i64 10, .int .i64 32] w fun e w' => e = .returned (.tuple #[.int .u64 u, .nilIface]) ∧ (w' = w ∨ w' = Lib.bytesWorld w 5 s) := Any.strconv_ParseUint_10_at32_ok Tryz.laysPu14 s hmax u h w
open Go.RowKit in
theorem Tryz.strconv_ParseUint_10_at32_range_var (s : ByteArray) (hlim : s.size ≤ 281474976710656) (h : Lib.parseUintB 32 s.data.toList = .range) (tp : TypeId) (p : Value) (w : World) (hvar : w.var? Tryz.prog "strconv.ErrRange" = some #[.iface tp p]) :
    Calls Tryz.prog 110 #[.string s, .int .i64 10, .int .i64 32] w fun e w' => ∃ N, e = .returned (.tuple #[.int .u64 4294967295, .iface 151 (.pointer (some ⟨N, 0, none⟩))]) ∧ w.heap.size ≤ N ∧ w'.heap[N]? = some (.cells #[.string ⟨#[80, 97, 114, 115, 101, 85, 105, 110, 116]⟩, .string s, .iface tp p] 166 (0, 0)) ∧ Below w.heap.size w w' := Any.strconv_ParseUint_10_at32_range_var Tryz.laysPu14 s hlim h tp p w hvar
def Tryz.lays138_ren : Go.Shelf.Ren := ⟨fun | 138 => 47 | 195 => 80 | 218 => 81 | 143 => 82 | 219 => 114 | 217 => 133 | 225 => 134 | 224 => 135 | 267 => 136 | 266 => 156 | 314 => 157 | n => n, fun | 9 => 9 | 3 => 3 | 4 => 4 | 5 => 5 | 0 => 0 | 46 => 95 | 146 => 117 | 51 => 35 | n => n, fun | 1 => 0 | n => n⟩
theorem Tryz.lays138 : Go.Proofs.Lays.n138 Tryz.prog Tryz.lays138_ren := {
  mixed := by kernel_rfl
  f138 := Tryz.func47.trans (congrArg some (by kernel_rfl))
  f143 := Tryz.func82.trans (congrArg some (by kernel_rfl))
  f195 := Tryz.func80.trans (congrArg some (by kernel_rfl))
  f217 := Tryz.func133.trans (congrArg some (by kernel_rfl))
  f218 := Tryz.func81.trans (congrArg some (by kernel_rfl))
  f219 := Tryz.func114.trans (congrArg some (by kernel_rfl))
  f224 := Tryz.func135.trans (congrArg some (by kernel_rfl))
  f225 := Tryz.func134.trans (congrArg some (by kernel_rfl))
  f266 := Tryz.func156.trans (congrArg some (by kernel_rfl))
  f267 := Tryz.func136.trans (congrArg some (by kernel_rfl))
  f314 := Tryz.func157.trans (congrArg some (by kernel_rfl))
  t0 := Tryz.underlying0
  a0 := Tryz.isAgg0
  z0 := Tryz.sizeOf0
  v0 := Tryz.zeroValue0
  t3 := Tryz.underlying3
  a3 := Tryz.isAgg3
  z3 := Tryz.sizeOf3
  v3 := Tryz.zeroValue3
  t4 := Tryz.underlying4
  a4 := Tryz.isAgg4
  z4 := Tryz.sizeOf4
  v4 := Tryz.zeroValue4
  t5 := Tryz.underlying5
  a5 := Tryz.isAgg5
  z5 := Tryz.sizeOf5
  v5 := Tryz.zeroValue5
  t9 := Tryz.underlying9
  a9 := Tryz.isAgg9
  z9 := Tryz.sizeOf9
  v9 := Tryz.zeroValue9
  t46 := Tryz.underlying95
  a46 := Tryz.isAgg95
  z46 := Tryz.sizeOf95
  v46 := Tryz.zeroValue95
  t51 := Tryz.underlying35
  a51 := Tryz.isAgg35
  z51 := Tryz.sizeOf35
  v51 := Tryz.zeroValue35
  t146 := Tryz.underlying117
  a146 := Tryz.isAgg117
  z146 := Tryz.sizeOf117
  v146 := Tryz.zeroValue117
  g1 := by kernel_rfl }
open Go.RowKit Go.Lib in
theorem Tryz.strings_Count_one (s : ByteArray) (c : UInt8) (w : World) :
    Calls Tryz.prog 47 #[.string s, .string ⟨#[c]⟩] w fun e w' => e = .returned (.int .i64 (Lib.countByte s.data.toList c)) ∧ w' = w := Any.strings_Count_one Tryz.lays138 s c w
def Tryz.lays99_ren : Go.Shelf.Ren := ⟨fun | 99 => 54 | 206 => 90 | n => n, fun | 9 => 9 | 4 => 4 | 3 => 3 | n => n, fun | n => n⟩
theorem Tryz.lays99 : Go.Proofs.Lays.n99 Tryz.prog Tryz.lays99_ren := {
  mixed := by kernel_rfl
  f99 := Tryz.func54.trans (congrArg some (by kernel_rfl))
  f206 := Tryz.func90.trans (congrArg some (by kernel_rfl))
  t3 := Tryz.underlying3
  a3 := Tryz.isAgg3
  z3 := Tryz.sizeOf3
  v3 := Tryz.zeroValue3
  t4 := Tryz.underlying4
  a4 := Tryz.isAgg4
  z4 := Tryz.sizeOf4
  v4 := Tryz.zeroValue4
  t9 := Tryz.underlying9
  a9 := Tryz.isAgg9
  z9 := Tryz.sizeOf9
  v9 := Tryz.zeroValue9 }
open Go.RowKit Go.Lib in
theorem Tryz.strings_HasPrefix (s p : ByteArray) (w : World) :
    Calls Tryz.prog 54 #[.string s, .string p] w fun e w' => e = .returned (.bool (Lib.hasPrefix s.data.toList p.data.toList)) ∧ w' = w := Any.strings_HasPrefix Tryz.lays99 s p w
def Tryz.lays105_ren : Go.Shelf.Ren := ⟨fun | 105 => 25 | 212 => 53 | 99 => 54 | 165 => 48 | 166 => 49 | 170 => 55 | 169 => 50 | 263 => 88 | 264 => 89 | 206 => 90 | 240 => 83 | 241 => 84 | 276 => 115 | 277 => 116 | n => n, fun | 9 => 9 | 3 => 3 | 4 => 4 | 20 => 20 | 0 => 0 | 46 => 95 | 109 => 96 | 5 => 5 | 72 => 87 | 76 => 91 | 51 => 35 | 146 => 117 | 53 => 119 | 148 => 120 | 70 => 84 | 37 => 85 | 75 => 90 | 127 => 115 | 164 => 131 | 80 => 68 | n => n, fun | n => n⟩
theorem Tryz.lays105 : Go.Proofs.Lays.n105 Tryz.prog Tryz.lays105_ren := {
  mixed := by kernel_rfl
  f99 := Tryz.func54.trans (congrArg some (by kernel_rfl))
  f105 := Tryz.func25.trans (congrArg some (by kernel_rfl))
  f165 := Tryz.func48.trans (congrArg some (by kernel_rfl))
  f166 := Tryz.func49.trans (congrArg some (by kernel_rfl))
  f169 := Tryz.func50.trans (congrArg some (by kernel_rfl))
  f170 := Tryz.func55.trans (congrArg some (by kernel_rfl))
  f206 := Tryz.func90.trans (congrArg some (by kernel_rfl))
  f212 := Tryz.func53.trans (congrArg some (by kernel_rfl))
  f240 := Tryz.func83.trans (congrArg some (by kernel_rfl))
  f241 := Tryz.func84.trans (congrArg some (by kernel_rfl))
  f263 := Tryz.func88.trans (congrArg some (by kernel_rfl))
  f264 := Tryz.func89.trans (congrArg some (by kernel_rfl))
  f276 := Tryz.func115.trans (congrArg some (by kernel_rfl))
  f277 := Tryz.func116.trans (congrArg some (by kernel_rfl))
  t0 := Tryz.underlying0
  a0 := Tryz.isAgg0
  z0 := Tryz.sizeOf0
  v0 := Tryz.zeroValue0
  t3 := Tryz.underlying3
  a3 := Tryz.isAgg3
  z3 := Tryz.sizeOf3
  v3 := Tryz.zeroValue3
  t4 := Tryz.underlying4
  a4 := Tryz.isAgg4
  z4 := Tryz.sizeOf4
  v4 := Tryz.zeroValue4
  t5 := Tryz.underlying5
  a5 := Tryz.isAgg5
  z5 := Tryz.sizeOf5
  v5 := Tryz.zeroValue5
  t9 := Tryz.underlying9
  a9 := Tryz.isAgg9
  z9 := Tryz.sizeOf9
  v9 := Tryz.zeroValue9
  t20 := Tryz.underlying20
  a20 := Tryz.isAgg20
  z20 := Tryz.sizeOf20
  v20 := Tryz.zeroValue20
  t37 := Tryz.underlying85
  a37 := Tryz.isAgg85
  z37 := Tryz.sizeOf85
  v37 := Tryz.zeroValue85
  t46 := Tryz.underlying95
  a46 := Tryz.isAgg95
  z46 := Tryz.sizeOf95
  v46 := Tryz.zeroValue95
  t51 := Tryz.underlying35
  a51 := Tryz.isAgg35
  z51 := Tryz.sizeOf35
  v51 := Tryz.zeroValue35
  t53 := Tryz.underlying119
  a53 := Tryz.isAgg119
  z53 := Tryz.sizeOf119
  v53 := Tryz.zeroValue119
  t70 := Tryz.underlying84
  a70 := Tryz.isAgg84
  z70 := Tryz.sizeOf84
  v70 := Tryz.zeroValue84
  t72 := Tryz.underlying87
  a72 := Tryz.isAgg87
  z72 := Tryz.sizeOf87
  v72 := Tryz.zeroValue87
  t75 := Tryz.underlying90
  a75 := Tryz.isAgg90
  z75 := Tryz.sizeOf90
  v75 := Tryz.zeroValue90
  t76 := Tryz.underlying91
  a76 := Tryz.isAgg91
  z76 := Tryz.sizeOf91
  v76 := Tryz.zeroValue91
  t109 := Tryz.underlying96
  a109 := Tryz.isAgg96
  z109 := Tryz.sizeOf96
  v109 := Tryz.zeroValue96
  t127 := Tryz.underlying115
  a127 := Tryz.isAgg115
  z127 := Tryz.sizeOf115
  v127 := Tryz.zeroValue115
  t146 := Tryz.underlying117
  a146 := Tryz.isAgg117
  z146 := Tryz.sizeOf117
  v146 := Tryz.zeroValue117
  t148 := Tryz.underlying120
  a148 := Tryz.isAgg120
  z148 := Tryz.sizeOf120
  v148 := Tryz.zeroValue120
  t164 := Tryz.underlying131
  a164 := Tryz.isAgg131
  z164 := Tryz.sizeOf131
  v164 := Tryz.zeroValue131 }
theorem Tryz.Builder_Extra_105 : Builder.Extra Tryz.prog Tryz.lays105_ren := {
  sizeBuilder := by kernel_rfl
  liesBuilder := by kernel_rfl
  t5 := Tryz.underlying5
  a5 := Tryz.isAgg5
  z5 := Tryz.sizeOf5
  v5 := Tryz.zeroValue5
  infoByte := by kernel_rfl
  cellsByte := by kernel_rfl
  sizeByte := by kernel_rfl
  neB5 := by decide }
open Go.RowKit Go.Lib in
theorem Tryz.strings_Repeat_main (s : ByteArray) (c : Nat) (w : World) (hc2 : 2 ≤ c) (hc : c ≤ 9223372036854775807) (hlen : s.size * c ≤ 140737488355328) (h0 : 0 < s.size) :
    Calls Tryz.prog 25 #[.string s, .int .i64 c] w fun e w' => e = .returned (.string ⟨(Lib.repeatL s.data.toList c).toArray⟩) ∧ Below w.heap.size w w' := Any.strings_Repeat_main Tryz.lays105 Tryz.Builder_Extra_105 s c w hc2 hc hlen h0
open Go.RowKit Go.Lib in
theorem Tryz.strings_Repeat_zero (s : ByteArray) (w : World) :
    Calls Tryz.prog 25 #[.string s, .int .i64 0] w fun e w' => e = .returned (.string ⟨#[]⟩) ∧ w' = w := Any.strings_Repeat_zero Tryz.lays105 s w
open Go.RowKit Go.Lib in
theorem Tryz.strings_Repeat_one (s : ByteArray) (w : World) :
    Calls Tryz.prog 25 #[.string s, .int .i64 1] w fun e w' => e = .returned (.string s) ∧ w' = w := Any.strings_Repeat_one Tryz.lays105 s w
open Go.RowKit Go.Lib in
theorem Tryz.strings_Repeat_empty (s : ByteArray) (c : Nat) (w : World) (hc2 : 2 ≤ c) (hc : c ≤ 9223372036854775807) (h0 : s.size = 0) :
    Calls Tryz.prog 25 #[.string s, .int .i64 c] w fun e w' => e = .returned (.string ⟨#[]⟩) ∧ w' = w := Any.strings_Repeat_empty Tryz.lays105 s c w hc2 hc h0
end Go.Proofs
