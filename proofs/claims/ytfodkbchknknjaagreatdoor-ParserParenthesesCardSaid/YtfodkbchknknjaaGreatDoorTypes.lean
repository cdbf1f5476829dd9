/- What the laws of the small logic ask of this translation's types and functions: closed facts, each by the kernel; written by a program. -/
import Derived.Test.YtfodkbchknknjaaGreatDoorGlRules
import Derived.Test.YtfodkbchknknjaaGreatDoorProg
namespace Go.Proofs.YtfodkbchknknjaaGreatDoor
open Go.GL
set_option maxRecDepth 100000
instance : TMixed Tryz.prog := ⟨by kernel_rfl⟩
-- type 1: func()
instance : TSize Tryz.prog 1 1 := .of (by kernel_rfl)
instance : TOne Tryz.prog 1 := .of (by kernel_rfl)
instance : TConcrete Tryz.prog 1 := .of (by kernel_rfl)
instance : TZero Tryz.prog 1 [.nilFunc] := .of (v := .nilFunc) (n := 1) (by kernel_rfl) rfl rfl
instance : TRow Tryz.prog 1 1 8 := .of (by kernel_rfl)
-- type 2: int64
instance : TSize Tryz.prog 2 1 := .of (by kernel_rfl)
instance : TOne Tryz.prog 2 := .of (by kernel_rfl)
instance : TKind Tryz.prog 2 .i64 := .of (by kernel_rfl)
instance : TConcrete Tryz.prog 2 := .of (by kernel_rfl)
instance : TZero Tryz.prog 2 [.int .i64 0] := .of (v := .int .i64 0) (n := 1) (by kernel_rfl) rfl rfl
instance : TRow Tryz.prog 2 1 8 := .of (by kernel_rfl)
-- type 3: int
instance : TSize Tryz.prog 3 1 := .of (by kernel_rfl)
instance : TOne Tryz.prog 3 := .of (by kernel_rfl)
instance : TKind Tryz.prog 3 .i64 := .of (by kernel_rfl)
instance : TConcrete Tryz.prog 3 := .of (by kernel_rfl)
instance : TZero Tryz.prog 3 [.int .i64 0] := .of (v := .int .i64 0) (n := 1) (by kernel_rfl) rfl rfl
instance : TRow Tryz.prog 3 1 8 := .of (by kernel_rfl)
-- type 4: bool
instance : TSize Tryz.prog 4 1 := .of (by kernel_rfl)
instance : TOne Tryz.prog 4 := .of (by kernel_rfl)
instance : TConcrete Tryz.prog 4 := .of (by kernel_rfl)
instance : TZero Tryz.prog 4 [.bool false] := .of (v := .bool false) (n := 1) (by kernel_rfl) rfl rfl
instance : TRow Tryz.prog 4 1 1 := .of (by kernel_rfl)
-- type 5: uint8
instance : TSize Tryz.prog 5 1 := .of (by kernel_rfl)
instance : TOne Tryz.prog 5 := .of (by kernel_rfl)
instance : TKind Tryz.prog 5 .u8 := .of (by kernel_rfl)
instance : TConcrete Tryz.prog 5 := .of (by kernel_rfl)
instance : TZero Tryz.prog 5 [.int .u8 0] := .of (v := .int .u8 0) (n := 1) (by kernel_rfl) rfl rfl
instance : TRow Tryz.prog 5 1 1 := .of (by kernel_rfl)
-- type 6: abi.BoundsErrorCode
instance : TSize Tryz.prog 6 1 := .of (by kernel_rfl)
instance : TOne Tryz.prog 6 := .of (by kernel_rfl)
instance : TKind Tryz.prog 6 .u8 := .of (by kernel_rfl)
instance : TConcrete Tryz.prog 6 := .of (by kernel_rfl)
instance : TZero Tryz.prog 6 [.int .u8 0] := .of (v := .int .u8 0) (n := 1) (by kernel_rfl) rfl rfl
instance : TRow Tryz.prog 6 1 1 := .of (by kernel_rfl)
-- type 7: struct { x int64; y int; signed bool; code abi.BoundsErrorCode }
instance : TSize Tryz.prog 7 4 := .of (by kernel_rfl)
instance : TAgg Tryz.prog 7 4 := .of (by kernel_rfl)
instance : TConcrete Tryz.prog 7 := .of (by kernel_rfl)
instance : TField Tryz.prog 7 0 0 := .of (by kernel_rfl)
instance : TField Tryz.prog 7 1 1 := .of (by kernel_rfl)
instance : TField Tryz.prog 7 2 2 := .of (by kernel_rfl)
instance : TField Tryz.prog 7 3 3 := .of (by kernel_rfl)
instance : TStruct Tryz.prog 7 [(0, 1), (1, 1), (2, 1), (3, 1)] := .of (by kernel_rfl)
instance : TZero Tryz.prog 7 [.int .i64 0, .int .i64 0, .bool false, .int .u8 0] := .of (v := .agg #[.int .i64 0, .int .i64 0, .bool false, .int .u8 0]) (n := 4) (by kernel_rfl) rfl rfl
instance : TRow Tryz.prog 7 4 24 := .of (by kernel_rfl)
-- type 8: runtime.boundsError
instance : TSize Tryz.prog 8 4 := .of (by kernel_rfl)
instance : TAgg Tryz.prog 8 4 := .of (by kernel_rfl)
instance : TConcrete Tryz.prog 8 := .of (by kernel_rfl)
instance : TField Tryz.prog 8 0 0 := .of (by kernel_rfl)
instance : TField Tryz.prog 8 1 1 := .of (by kernel_rfl)
instance : TField Tryz.prog 8 2 2 := .of (by kernel_rfl)
instance : TField Tryz.prog 8 3 3 := .of (by kernel_rfl)
instance : TStruct Tryz.prog 8 [(0, 1), (1, 1), (2, 1), (3, 1)] := .of (by kernel_rfl)
instance : TZero Tryz.prog 8 [.int .i64 0, .int .i64 0, .bool false, .int .u8 0] := .of (v := .agg #[.int .i64 0, .int .i64 0, .bool false, .int .u8 0]) (n := 4) (by kernel_rfl) rfl rfl
instance : TRow Tryz.prog 8 4 24 := .of (by kernel_rfl)
-- type 9: string
instance : TSize Tryz.prog 9 1 := .of (by kernel_rfl)
instance : TOne Tryz.prog 9 := .of (by kernel_rfl)
instance : TStr Tryz.prog 9 := .of (by kernel_rfl)
instance : TConcrete Tryz.prog 9 := .of (by kernel_rfl)
instance : TZero Tryz.prog 9 [.string ⟨#[]⟩] := .of (v := .string ⟨#[]⟩) (n := 1) (by kernel_rfl) rfl rfl
instance : TRow Tryz.prog 9 1 16 := .of (by kernel_rfl)
-- type 10: runtime.errorString
instance : TSize Tryz.prog 10 1 := .of (by kernel_rfl)
instance : TOne Tryz.prog 10 := .of (by kernel_rfl)
instance : TStr Tryz.prog 10 := .of (by kernel_rfl)
instance : TConcrete Tryz.prog 10 := .of (by kernel_rfl)
instance : TZero Tryz.prog 10 [.string ⟨#[]⟩] := .of (v := .string ⟨#[]⟩) (n := 1) (by kernel_rfl) rfl rfl
instance : TRow Tryz.prog 10 1 16 := .of (by kernel_rfl)
-- type 11: runtime.plainError
instance : TSize Tryz.prog 11 1 := .of (by kernel_rfl)
instance : TOne Tryz.prog 11 := .of (by kernel_rfl)
instance : TStr Tryz.prog 11 := .of (by kernel_rfl)
instance : TConcrete Tryz.prog 11 := .of (by kernel_rfl)
instance : TZero Tryz.prog 11 [.string ⟨#[]⟩] := .of (v := .string ⟨#[]⟩) (n := 1) (by kernel_rfl) rfl rfl
instance : TRow Tryz.prog 11 1 16 := .of (by kernel_rfl)
-- type 12: uintptr
instance : TSize Tryz.prog 12 1 := .of (by kernel_rfl)
instance : TOne Tryz.prog 12 := .of (by kernel_rfl)
instance : TKind Tryz.prog 12 .u64 := .of (by kernel_rfl)
instance : TConcrete Tryz.prog 12 := .of (by kernel_rfl)
instance : TZero Tryz.prog 12 [.int .u64 0] := .of (v := .int .u64 0) (n := 1) (by kernel_rfl) rfl rfl
instance : TRow Tryz.prog 12 1 8 := .of (by kernel_rfl)
-- type 13: struct { msg string; addr uintptr }
instance : TSize Tryz.prog 13 2 := .of (by kernel_rfl)
instance : TAgg Tryz.prog 13 2 := .of (by kernel_rfl)
instance : TConcrete Tryz.prog 13 := .of (by kernel_rfl)
instance : TField Tryz.prog 13 0 0 := .of (by kernel_rfl)
instance : TField Tryz.prog 13 1 1 := .of (by kernel_rfl)
instance : TStruct Tryz.prog 13 [(0, 1), (1, 1)] := .of (by kernel_rfl)
instance : TZero Tryz.prog 13 [.string ⟨#[]⟩, .int .u64 0] := .of (v := .agg #[.string ⟨#[]⟩, .int .u64 0]) (n := 2) (by kernel_rfl) rfl rfl
instance : TRow Tryz.prog 13 2 24 := .of (by kernel_rfl)
-- type 14: runtime.errorAddressString
instance : TSize Tryz.prog 14 2 := .of (by kernel_rfl)
instance : TAgg Tryz.prog 14 2 := .of (by kernel_rfl)
instance : TConcrete Tryz.prog 14 := .of (by kernel_rfl)
instance : TField Tryz.prog 14 0 0 := .of (by kernel_rfl)
instance : TField Tryz.prog 14 1 1 := .of (by kernel_rfl)
instance : TStruct Tryz.prog 14 [(0, 1), (1, 1)] := .of (by kernel_rfl)
instance : TZero Tryz.prog 14 [.string ⟨#[]⟩, .int .u64 0] := .of (v := .agg #[.string ⟨#[]⟩, .int .u64 0]) (n := 2) (by kernel_rfl) rfl rfl
instance : TRow Tryz.prog 14 2 24 := .of (by kernel_rfl)
-- type 15: *runtime.TypeAssertionError
instance : TSize Tryz.prog 15 1 := .of (by kernel_rfl)
instance : TOne Tryz.prog 15 := .of (by kernel_rfl)
instance : TConcrete Tryz.prog 15 := .of (by kernel_rfl)
instance : TZero Tryz.prog 15 [.pointer none] := .of (v := .pointer none) (n := 1) (by kernel_rfl) rfl rfl
instance : TRow Tryz.prog 15 1 8 := .of (by kernel_rfl)
-- type 16: *runtime.PanicNilError
instance : TSize Tryz.prog 16 1 := .of (by kernel_rfl)
instance : TOne Tryz.prog 16 := .of (by kernel_rfl)
instance : TConcrete Tryz.prog 16 := .of (by kernel_rfl)
instance : TZero Tryz.prog 16 [.pointer none] := .of (v := .pointer none) (n := 1) (by kernel_rfl) rfl rfl
instance : TRow Tryz.prog 16 1 8 := .of (by kernel_rfl)
-- type 17: *abi.Type
instance : TSize Tryz.prog 17 1 := .of (by kernel_rfl)
instance : TOne Tryz.prog 17 := .of (by kernel_rfl)
instance : TConcrete Tryz.prog 17 := .of (by kernel_rfl)
instance : TZero Tryz.prog 17 [.pointer none] := .of (v := .pointer none) (n := 1) (by kernel_rfl) rfl rfl
instance : TRow Tryz.prog 17 1 8 := .of (by kernel_rfl)
-- type 18: struct { typ *abi.Type }
instance : TSize Tryz.prog 18 1 := .of (by kernel_rfl)
instance : TAgg Tryz.prog 18 1 := .of (by kernel_rfl)
instance : TConcrete Tryz.prog 18 := .of (by kernel_rfl)
instance : TField Tryz.prog 18 0 0 := .of (by kernel_rfl)
instance : TStruct Tryz.prog 18 [(0, 1)] := .of (by kernel_rfl)
instance : TZero Tryz.prog 18 [.pointer none] := .of (v := .agg #[.pointer none]) (n := 1) (by kernel_rfl) rfl rfl
instance : TRow Tryz.prog 18 1 8 := .of (by kernel_rfl)
-- type 19: maps.unhashableTypeError
instance : TSize Tryz.prog 19 1 := .of (by kernel_rfl)
instance : TAgg Tryz.prog 19 1 := .of (by kernel_rfl)
instance : TConcrete Tryz.prog 19 := .of (by kernel_rfl)
instance : TField Tryz.prog 19 0 0 := .of (by kernel_rfl)
instance : TStruct Tryz.prog 19 [(0, 1)] := .of (by kernel_rfl)
instance : TZero Tryz.prog 19 [.pointer none] := .of (v := .agg #[.pointer none]) (n := 1) (by kernel_rfl) rfl rfl
instance : TRow Tryz.prog 19 1 8 := .of (by kernel_rfl)
-- type 20: interface {}
instance : TSize Tryz.prog 20 1 := .of (by kernel_rfl)
instance : TOne Tryz.prog 20 := .of (by kernel_rfl)
instance : TZero Tryz.prog 20 [.nilIface] := .of (v := .nilIface) (n := 1) (by kernel_rfl) rfl rfl
instance : TRow Tryz.prog 20 1 16 := .of (by kernel_rfl)
-- type 21: int32
instance : TSize Tryz.prog 21 1 := .of (by kernel_rfl)
instance : TOne Tryz.prog 21 := .of (by kernel_rfl)
instance : TKind Tryz.prog 21 .i32 := .of (by kernel_rfl)
instance : TConcrete Tryz.prog 21 := .of (by kernel_rfl)
instance : TZero Tryz.prog 21 [.int .i32 0] := .of (v := .int .i32 0) (n := 1) (by kernel_rfl) rfl rfl
instance : TRow Tryz.prog 21 1 4 := .of (by kernel_rfl)
-- type 22: func() bool
instance : TSize Tryz.prog 22 1 := .of (by kernel_rfl)
instance : TOne Tryz.prog 22 := .of (by kernel_rfl)
instance : TConcrete Tryz.prog 22 := .of (by kernel_rfl)
instance : TZero Tryz.prog 22 [.nilFunc] := .of (v := .nilFunc) (n := 1) (by kernel_rfl) rfl rfl
instance : TRow Tryz.prog 22 1 8 := .of (by kernel_rfl)
-- type 23: []string
instance : TSize Tryz.prog 23 1 := .of (by kernel_rfl)
instance : TOne Tryz.prog 23 := .of (by kernel_rfl)
instance : TSlice Tryz.prog 23 9 1 := .of (by kernel_rfl)
instance : TConcrete Tryz.prog 23 := .of (by kernel_rfl)
instance : TZero Tryz.prog 23 [.slice none 0 0] := .of (v := .slice none 0 0) (n := 1) (by kernel_rfl) rfl rfl
instance : TRow Tryz.prog 23 1 24 := .of (by kernel_rfl)
-- type 24: []api.Array
instance : TSize Tryz.prog 24 1 := .of (by kernel_rfl)
instance : TOne Tryz.prog 24 := .of (by kernel_rfl)
instance : TSlice Tryz.prog 24 70 2 := .of (by kernel_rfl)
instance : TConcrete Tryz.prog 24 := .of (by kernel_rfl)
instance : TZero Tryz.prog 24 [.slice none 0 0] := .of (v := .slice none 0 0) (n := 1) (by kernel_rfl) rfl rfl
instance : TRow Tryz.prog 24 1 24 := .of (by kernel_rfl)
-- type 25: []api.Func
instance : TSize Tryz.prog 25 1 := .of (by kernel_rfl)
instance : TOne Tryz.prog 25 := .of (by kernel_rfl)
instance : TSlice Tryz.prog 25 53 4 := .of (by kernel_rfl)
instance : TConcrete Tryz.prog 25 := .of (by kernel_rfl)
instance : TZero Tryz.prog 25 [.slice none 0 0] := .of (v := .slice none 0 0) (n := 1) (by kernel_rfl) rfl rfl
instance : TRow Tryz.prog 25 1 24 := .of (by kernel_rfl)
-- type 26: struct { Vars []string; Arrays []api.Array; Funcs []api.Func }
instance : TSize Tryz.prog 26 3 := .of (by kernel_rfl)
instance : TAgg Tryz.prog 26 3 := .of (by kernel_rfl)
instance : TConcrete Tryz.prog 26 := .of (by kernel_rfl)
instance : TField Tryz.prog 26 0 0 := .of (by kernel_rfl)
instance : TField Tryz.prog 26 1 1 := .of (by kernel_rfl)
instance : TField Tryz.prog 26 2 2 := .of (by kernel_rfl)
instance : TStruct Tryz.prog 26 [(0, 1), (1, 1), (2, 1)] := .of (by kernel_rfl)
instance : TZero Tryz.prog 26 [.slice none 0 0, .slice none 0 0, .slice none 0 0] := .of (v := .agg #[.slice none 0 0, .slice none 0 0, .slice none 0 0]) (n := 3) (by kernel_rfl) rfl rfl
instance : TRow Tryz.prog 26 3 72 := .of (by kernel_rfl)
-- type 27: api.Program
instance : TSize Tryz.prog 27 3 := .of (by kernel_rfl)
instance : TAgg Tryz.prog 27 3 := .of (by kernel_rfl)
instance : TConcrete Tryz.prog 27 := .of (by kernel_rfl)
instance : TField Tryz.prog 27 0 0 := .of (by kernel_rfl)
instance : TField Tryz.prog 27 1 1 := .of (by kernel_rfl)
instance : TField Tryz.prog 27 2 2 := .of (by kernel_rfl)
instance : TStruct Tryz.prog 27 [(0, 1), (1, 1), (2, 1)] := .of (by kernel_rfl)
instance : TZero Tryz.prog 27 [.slice none 0 0, .slice none 0 0, .slice none 0 0] := .of (v := .agg #[.slice none 0 0, .slice none 0 0, .slice none 0 0]) (n := 3) (by kernel_rfl) rfl rfl
instance : TRow Tryz.prog 27 3 72 := .of (by kernel_rfl)
-- type 28: api.Errno
instance : TSize Tryz.prog 28 1 := .of (by kernel_rfl)
instance : TOne Tryz.prog 28 := .of (by kernel_rfl)
instance : TKind Tryz.prog 28 .i64 := .of (by kernel_rfl)
instance : TConcrete Tryz.prog 28 := .of (by kernel_rfl)
instance : TZero Tryz.prog 28 [.int .i64 0] := .of (v := .int .i64 0) (n := 1) (by kernel_rfl) rfl rfl
instance : TRow Tryz.prog 28 1 8 := .of (by kernel_rfl)
-- type 30: func(string) (api.Program, int, api.Errno)
instance : TSize Tryz.prog 30 1 := .of (by kernel_rfl)
instance : TOne Tryz.prog 30 := .of (by kernel_rfl)
instance : TConcrete Tryz.prog 30 := .of (by kernel_rfl)
instance : TZero Tryz.prog 30 [.nilFunc] := .of (v := .nilFunc) (n := 1) (by kernel_rfl) rfl rfl
instance : TRow Tryz.prog 30 1 8 := .of (by kernel_rfl)
-- type 31: func(api.Program, api.Program) bool
instance : TSize Tryz.prog 31 1 := .of (by kernel_rfl)
instance : TOne Tryz.prog 31 := .of (by kernel_rfl)
instance : TConcrete Tryz.prog 31 := .of (by kernel_rfl)
instance : TZero Tryz.prog 31 [.nilFunc] := .of (v := .nilFunc) (n := 1) (by kernel_rfl) rfl rfl
instance : TRow Tryz.prog 31 1 8 := .of (by kernel_rfl)
-- type 32: func(string) bool
instance : TSize Tryz.prog 32 1 := .of (by kernel_rfl)
instance : TOne Tryz.prog 32 := .of (by kernel_rfl)
instance : TConcrete Tryz.prog 32 := .of (by kernel_rfl)
instance : TZero Tryz.prog 32 [.nilFunc] := .of (v := .nilFunc) (n := 1) (by kernel_rfl) rfl rfl
instance : TRow Tryz.prog 32 1 8 := .of (by kernel_rfl)
-- type 33: func(string) string
instance : TSize Tryz.prog 33 1 := .of (by kernel_rfl)
instance : TOne Tryz.prog 33 := .of (by kernel_rfl)
instance : TConcrete Tryz.prog 33 := .of (by kernel_rfl)
instance : TZero Tryz.prog 33 [.nilFunc] := .of (v := .nilFunc) (n := 1) (by kernel_rfl) rfl rfl
instance : TRow Tryz.prog 33 1 8 := .of (by kernel_rfl)
-- type 34: func(string) int
instance : TSize Tryz.prog 34 1 := .of (by kernel_rfl)
instance : TOne Tryz.prog 34 := .of (by kernel_rfl)
instance : TConcrete Tryz.prog 34 := .of (by kernel_rfl)
instance : TZero Tryz.prog 34 [.nilFunc] := .of (v := .nilFunc) (n := 1) (by kernel_rfl) rfl rfl
instance : TRow Tryz.prog 34 1 8 := .of (by kernel_rfl)
-- type 35: uint32
instance : TSize Tryz.prog 35 1 := .of (by kernel_rfl)
instance : TOne Tryz.prog 35 := .of (by kernel_rfl)
instance : TKind Tryz.prog 35 .u32 := .of (by kernel_rfl)
instance : TConcrete Tryz.prog 35 := .of (by kernel_rfl)
instance : TZero Tryz.prog 35 [.int .u32 0] := .of (v := .int .u32 0) (n := 1) (by kernel_rfl) rfl rfl
instance : TRow Tryz.prog 35 1 4 := .of (by kernel_rfl)
-- type 36: []api.Expr
instance : TSize Tryz.prog 36 1 := .of (by kernel_rfl)
instance : TOne Tryz.prog 36 := .of (by kernel_rfl)
instance : TSlice Tryz.prog 36 38 4 := .of (by kernel_rfl)
instance : TConcrete Tryz.prog 36 := .of (by kernel_rfl)
instance : TZero Tryz.prog 36 [.slice none 0 0] := .of (v := .slice none 0 0) (n := 1) (by kernel_rfl) rfl rfl
instance : TRow Tryz.prog 36 1 24 := .of (by kernel_rfl)
-- type 37: struct { Op string; Num uint32; Name string; Args []api.Expr }
instance : TSize Tryz.prog 37 4 := .of (by kernel_rfl)
instance : TAgg Tryz.prog 37 4 := .of (by kernel_rfl)
instance : TConcrete Tryz.prog 37 := .of (by kernel_rfl)
instance : TField Tryz.prog 37 0 0 := .of (by kernel_rfl)
instance : TField Tryz.prog 37 1 1 := .of (by kernel_rfl)
instance : TField Tryz.prog 37 2 2 := .of (by kernel_rfl)
instance : TField Tryz.prog 37 3 3 := .of (by kernel_rfl)
instance : TStruct Tryz.prog 37 [(0, 1), (1, 1), (2, 1), (3, 1)] := .of (by kernel_rfl)
instance : TZero Tryz.prog 37 [.string ⟨#[]⟩, .int .u32 0, .string ⟨#[]⟩, .slice none 0 0] := .of (v := .agg #[.string ⟨#[]⟩, .int .u32 0, .string ⟨#[]⟩, .slice none 0 0]) (n := 4) (by kernel_rfl) rfl rfl
instance : TRow Tryz.prog 37 4 64 := .of (by kernel_rfl)
-- type 38: api.Expr
instance : TSize Tryz.prog 38 4 := .of (by kernel_rfl)
instance : TAgg Tryz.prog 38 4 := .of (by kernel_rfl)
instance : TConcrete Tryz.prog 38 := .of (by kernel_rfl)
instance : TField Tryz.prog 38 0 0 := .of (by kernel_rfl)
instance : TField Tryz.prog 38 1 1 := .of (by kernel_rfl)
instance : TField Tryz.prog 38 2 2 := .of (by kernel_rfl)
instance : TField Tryz.prog 38 3 3 := .of (by kernel_rfl)
instance : TStruct Tryz.prog 38 [(0, 1), (1, 1), (2, 1), (3, 1)] := .of (by kernel_rfl)
instance : TZero Tryz.prog 38 [.string ⟨#[]⟩, .int .u32 0, .string ⟨#[]⟩, .slice none 0 0] := .of (v := .agg #[.string ⟨#[]⟩, .int .u32 0, .string ⟨#[]⟩, .slice none 0 0]) (n := 4) (by kernel_rfl) rfl rfl
instance : TRow Tryz.prog 38 4 64 := .of (by kernel_rfl)
-- type 39: func(string, api.Expr, api.Expr) api.Expr
instance : TSize Tryz.prog 39 1 := .of (by kernel_rfl)
instance : TOne Tryz.prog 39 := .of (by kernel_rfl)
instance : TConcrete Tryz.prog 39 := .of (by kernel_rfl)
instance : TZero Tryz.prog 39 [.nilFunc] := .of (v := .nilFunc) (n := 1) (by kernel_rfl) rfl rfl
instance : TRow Tryz.prog 39 1 8 := .of (by kernel_rfl)
-- type 40: func(string) api.Expr
instance : TSize Tryz.prog 40 1 := .of (by kernel_rfl)
instance : TOne Tryz.prog 40 := .of (by kernel_rfl)
instance : TConcrete Tryz.prog 40 := .of (by kernel_rfl)
instance : TZero Tryz.prog 40 [.nilFunc] := .of (v := .nilFunc) (n := 1) (by kernel_rfl) rfl rfl
instance : TRow Tryz.prog 40 1 8 := .of (by kernel_rfl)
-- type 41: func(api.Expr) api.Program
instance : TSize Tryz.prog 41 1 := .of (by kernel_rfl)
instance : TOne Tryz.prog 41 := .of (by kernel_rfl)
instance : TConcrete Tryz.prog 41 := .of (by kernel_rfl)
instance : TZero Tryz.prog 41 [.nilFunc] := .of (v := .nilFunc) (n := 1) (by kernel_rfl) rfl rfl
instance : TRow Tryz.prog 41 1 8 := .of (by kernel_rfl)
-- type 42: func(uint8, uint8) bool
instance : TSize Tryz.prog 42 1 := .of (by kernel_rfl)
instance : TOne Tryz.prog 42 := .of (by kernel_rfl)
instance : TConcrete Tryz.prog 42 := .of (by kernel_rfl)
instance : TZero Tryz.prog 42 [.nilFunc] := .of (v := .nilFunc) (n := 1) (by kernel_rfl) rfl rfl
instance : TRow Tryz.prog 42 1 8 := .of (by kernel_rfl)
-- type 43: func(string, string) bool
instance : TSize Tryz.prog 43 1 := .of (by kernel_rfl)
instance : TOne Tryz.prog 43 := .of (by kernel_rfl)
instance : TConcrete Tryz.prog 43 := .of (by kernel_rfl)
instance : TZero Tryz.prog 43 [.nilFunc] := .of (v := .nilFunc) (n := 1) (by kernel_rfl) rfl rfl
instance : TRow Tryz.prog 43 1 8 := .of (by kernel_rfl)
-- type 44: []api.Token
instance : TSize Tryz.prog 44 1 := .of (by kernel_rfl)
instance : TOne Tryz.prog 44 := .of (by kernel_rfl)
instance : TSlice Tryz.prog 44 48 3 := .of (by kernel_rfl)
instance : TConcrete Tryz.prog 44 := .of (by kernel_rfl)
instance : TZero Tryz.prog 44 [.slice none 0 0] := .of (v := .slice none 0 0) (n := 1) (by kernel_rfl) rfl rfl
instance : TRow Tryz.prog 44 1 24 := .of (by kernel_rfl)
-- type 46: func(string) ([]api.Token, int, api.Errno)
instance : TSize Tryz.prog 46 1 := .of (by kernel_rfl)
instance : TOne Tryz.prog 46 := .of (by kernel_rfl)
instance : TConcrete Tryz.prog 46 := .of (by kernel_rfl)
instance : TZero Tryz.prog 46 [.nilFunc] := .of (v := .nilFunc) (n := 1) (by kernel_rfl) rfl rfl
instance : TRow Tryz.prog 46 1 8 := .of (by kernel_rfl)
-- type 47: struct { Kind int; Text string; Line int }
instance : TSize Tryz.prog 47 3 := .of (by kernel_rfl)
instance : TAgg Tryz.prog 47 3 := .of (by kernel_rfl)
instance : TConcrete Tryz.prog 47 := .of (by kernel_rfl)
instance : TField Tryz.prog 47 0 0 := .of (by kernel_rfl)
instance : TField Tryz.prog 47 1 1 := .of (by kernel_rfl)
instance : TField Tryz.prog 47 2 2 := .of (by kernel_rfl)
instance : TStruct Tryz.prog 47 [(0, 1), (1, 1), (2, 1)] := .of (by kernel_rfl)
instance : TZero Tryz.prog 47 [.int .i64 0, .string ⟨#[]⟩, .int .i64 0] := .of (v := .agg #[.int .i64 0, .string ⟨#[]⟩, .int .i64 0]) (n := 3) (by kernel_rfl) rfl rfl
instance : TRow Tryz.prog 47 3 32 := .of (by kernel_rfl)
-- type 48: api.Token
instance : TSize Tryz.prog 48 3 := .of (by kernel_rfl)
instance : TAgg Tryz.prog 48 3 := .of (by kernel_rfl)
instance : TConcrete Tryz.prog 48 := .of (by kernel_rfl)
instance : TField Tryz.prog 48 0 0 := .of (by kernel_rfl)
instance : TField Tryz.prog 48 1 1 := .of (by kernel_rfl)
instance : TField Tryz.prog 48 2 2 := .of (by kernel_rfl)
instance : TStruct Tryz.prog 48 [(0, 1), (1, 1), (2, 1)] := .of (by kernel_rfl)
instance : TZero Tryz.prog 48 [.int .i64 0, .string ⟨#[]⟩, .int .i64 0] := .of (v := .agg #[.int .i64 0, .string ⟨#[]⟩, .int .i64 0]) (n := 3) (by kernel_rfl) rfl rfl
instance : TRow Tryz.prog 48 3 32 := .of (by kernel_rfl)
-- type 49: func([]string, string) string
instance : TSize Tryz.prog 49 1 := .of (by kernel_rfl)
instance : TOne Tryz.prog 49 := .of (by kernel_rfl)
instance : TConcrete Tryz.prog 49 := .of (by kernel_rfl)
instance : TZero Tryz.prog 49 [.nilFunc] := .of (v := .nilFunc) (n := 1) (by kernel_rfl) rfl rfl
instance : TRow Tryz.prog 49 1 8 := .of (by kernel_rfl)
-- type 50: func(api.Program) string
instance : TSize Tryz.prog 50 1 := .of (by kernel_rfl)
instance : TOne Tryz.prog 50 := .of (by kernel_rfl)
instance : TConcrete Tryz.prog 50 := .of (by kernel_rfl)
instance : TZero Tryz.prog 50 [.nilFunc] := .of (v := .nilFunc) (n := 1) (by kernel_rfl) rfl rfl
instance : TRow Tryz.prog 50 1 8 := .of (by kernel_rfl)
-- type 51: []api.Stmt
instance : TSize Tryz.prog 51 1 := .of (by kernel_rfl)
instance : TOne Tryz.prog 51 := .of (by kernel_rfl)
instance : TSlice Tryz.prog 51 80 6 := .of (by kernel_rfl)
instance : TConcrete Tryz.prog 51 := .of (by kernel_rfl)
instance : TZero Tryz.prog 51 [.slice none 0 0] := .of (v := .slice none 0 0) (n := 1) (by kernel_rfl) rfl rfl
instance : TRow Tryz.prog 51 1 24 := .of (by kernel_rfl)
-- type 52: struct { Name string; Params []string; Locals []string; Body []api.Stmt }
instance : TSize Tryz.prog 52 4 := .of (by kernel_rfl)
instance : TAgg Tryz.prog 52 4 := .of (by kernel_rfl)
instance : TConcrete Tryz.prog 52 := .of (by kernel_rfl)
instance : TField Tryz.prog 52 0 0 := .of (by kernel_rfl)
instance : TField Tryz.prog 52 1 1 := .of (by kernel_rfl)
instance : TField Tryz.prog 52 2 2 := .of (by kernel_rfl)
instance : TField Tryz.prog 52 3 3 := .of (by kernel_rfl)
instance : TStruct Tryz.prog 52 [(0, 1), (1, 1), (2, 1), (3, 1)] := .of (by kernel_rfl)
instance : TZero Tryz.prog 52 [.string ⟨#[]⟩, .slice none 0 0, .slice none 0 0, .slice none 0 0] := .of (v := .agg #[.string ⟨#[]⟩, .slice none 0 0, .slice none 0 0, .slice none 0 0]) (n := 4) (by kernel_rfl) rfl rfl
instance : TRow Tryz.prog 52 4 88 := .of (by kernel_rfl)
-- type 53: api.Func
instance : TSize Tryz.prog 53 4 := .of (by kernel_rfl)
instance : TAgg Tryz.prog 53 4 := .of (by kernel_rfl)
instance : TConcrete Tryz.prog 53 := .of (by kernel_rfl)
instance : TField Tryz.prog 53 0 0 := .of (by kernel_rfl)
instance : TField Tryz.prog 53 1 1 := .of (by kernel_rfl)
instance : TField Tryz.prog 53 2 2 := .of (by kernel_rfl)
instance : TField Tryz.prog 53 3 3 := .of (by kernel_rfl)
instance : TStruct Tryz.prog 53 [(0, 1), (1, 1), (2, 1), (3, 1)] := .of (by kernel_rfl)
instance : TZero Tryz.prog 53 [.string ⟨#[]⟩, .slice none 0 0, .slice none 0 0, .slice none 0 0] := .of (v := .agg #[.string ⟨#[]⟩, .slice none 0 0, .slice none 0 0, .slice none 0 0]) (n := 4) (by kernel_rfl) rfl rfl
instance : TRow Tryz.prog 53 4 88 := .of (by kernel_rfl)
-- type 54: func(string, int) string
instance : TSize Tryz.prog 54 1 := .of (by kernel_rfl)
instance : TOne Tryz.prog 54 := .of (by kernel_rfl)
instance : TConcrete Tryz.prog 54 := .of (by kernel_rfl)
instance : TZero Tryz.prog 54 [.nilFunc] := .of (v := .nilFunc) (n := 1) (by kernel_rfl) rfl rfl
instance : TRow Tryz.prog 54 1 8 := .of (by kernel_rfl)
-- type 55: func(string, uint8) bool
instance : TSize Tryz.prog 55 1 := .of (by kernel_rfl)
instance : TOne Tryz.prog 55 := .of (by kernel_rfl)
instance : TConcrete Tryz.prog 55 := .of (by kernel_rfl)
instance : TZero Tryz.prog 55 [.nilFunc] := .of (v := .nilFunc) (n := 1) (by kernel_rfl) rfl rfl
instance : TRow Tryz.prog 55 1 8 := .of (by kernel_rfl)
-- type 56: struct { line int; err api.Errno }
instance : TSize Tryz.prog 56 2 := .of (by kernel_rfl)
instance : TAgg Tryz.prog 56 2 := .of (by kernel_rfl)
instance : TConcrete Tryz.prog 56 := .of (by kernel_rfl)
instance : TField Tryz.prog 56 0 0 := .of (by kernel_rfl)
instance : TField Tryz.prog 56 1 1 := .of (by kernel_rfl)
instance : TStruct Tryz.prog 56 [(0, 1), (1, 1)] := .of (by kernel_rfl)
instance : TZero Tryz.prog 56 [.int .i64 0, .int .i64 0] := .of (v := .agg #[.int .i64 0, .int .i64 0]) (n := 2) (by kernel_rfl) rfl rfl
instance : TRow Tryz.prog 56 2 16 := .of (by kernel_rfl)
-- type 57: parser.failure
instance : TSize Tryz.prog 57 2 := .of (by kernel_rfl)
instance : TAgg Tryz.prog 57 2 := .of (by kernel_rfl)
instance : TConcrete Tryz.prog 57 := .of (by kernel_rfl)
instance : TField Tryz.prog 57 0 0 := .of (by kernel_rfl)
instance : TField Tryz.prog 57 1 1 := .of (by kernel_rfl)
instance : TStruct Tryz.prog 57 [(0, 1), (1, 1)] := .of (by kernel_rfl)
instance : TZero Tryz.prog 57 [.int .i64 0, .int .i64 0] := .of (v := .agg #[.int .i64 0, .int .i64 0]) (n := 2) (by kernel_rfl) rfl rfl
instance : TRow Tryz.prog 57 2 16 := .of (by kernel_rfl)
-- type 59: *parser.source
instance : TSize Tryz.prog 59 1 := .of (by kernel_rfl)
instance : TOne Tryz.prog 59 := .of (by kernel_rfl)
instance : TConcrete Tryz.prog 59 := .of (by kernel_rfl)
instance : TZero Tryz.prog 59 [.pointer none] := .of (v := .pointer none) (n := 1) (by kernel_rfl) rfl rfl
instance : TRow Tryz.prog 59 1 8 := .of (by kernel_rfl)
-- type 60: struct { tokens []api.Token; at int; open int }
instance : TSize Tryz.prog 60 3 := .of (by kernel_rfl)
instance : TAgg Tryz.prog 60 3 := .of (by kernel_rfl)
instance : TConcrete Tryz.prog 60 := .of (by kernel_rfl)
instance : TField Tryz.prog 60 0 0 := .of (by kernel_rfl)
instance : TField Tryz.prog 60 1 1 := .of (by kernel_rfl)
instance : TField Tryz.prog 60 2 2 := .of (by kernel_rfl)
instance : TStruct Tryz.prog 60 [(0, 1), (1, 1), (2, 1)] := .of (by kernel_rfl)
instance : TZero Tryz.prog 60 [.slice none 0 0, .int .i64 0, .int .i64 0] := .of (v := .agg #[.slice none 0 0, .int .i64 0, .int .i64 0]) (n := 3) (by kernel_rfl) rfl rfl
instance : TRow Tryz.prog 60 3 40 := .of (by kernel_rfl)
-- type 61: parser.source
instance : TSize Tryz.prog 61 3 := .of (by kernel_rfl)
instance : TAgg Tryz.prog 61 3 := .of (by kernel_rfl)
instance : TConcrete Tryz.prog 61 := .of (by kernel_rfl)
instance : TField Tryz.prog 61 0 0 := .of (by kernel_rfl)
instance : TField Tryz.prog 61 1 1 := .of (by kernel_rfl)
instance : TField Tryz.prog 61 2 2 := .of (by kernel_rfl)
instance : TStruct Tryz.prog 61 [(0, 1), (1, 1), (2, 1)] := .of (by kernel_rfl)
instance : TZero Tryz.prog 61 [.slice none 0 0, .int .i64 0, .int .i64 0] := .of (v := .agg #[.slice none 0 0, .int .i64 0, .int .i64 0]) (n := 3) (by kernel_rfl) rfl rfl
instance : TRow Tryz.prog 61 3 40 := .of (by kernel_rfl)
-- type 62: func() api.Program
instance : TSize Tryz.prog 62 1 := .of (by kernel_rfl)
instance : TOne Tryz.prog 62 := .of (by kernel_rfl)
instance : TConcrete Tryz.prog 62 := .of (by kernel_rfl)
instance : TZero Tryz.prog 62 [.nilFunc] := .of (v := .nilFunc) (n := 1) (by kernel_rfl) rfl rfl
instance : TRow Tryz.prog 62 1 8 := .of (by kernel_rfl)
-- type 63: *steleref20.reader
instance : TSize Tryz.prog 63 1 := .of (by kernel_rfl)
instance : TOne Tryz.prog 63 := .of (by kernel_rfl)
instance : TConcrete Tryz.prog 63 := .of (by kernel_rfl)
instance : TZero Tryz.prog 63 [.pointer none] := .of (v := .pointer none) (n := 1) (by kernel_rfl) rfl rfl
instance : TRow Tryz.prog 63 1 8 := .of (by kernel_rfl)
-- type 64: struct { l []api.Token; at int; open int; line int; err api.Errno }
instance : TSize Tryz.prog 64 5 := .of (by kernel_rfl)
instance : TAgg Tryz.prog 64 5 := .of (by kernel_rfl)
instance : TConcrete Tryz.prog 64 := .of (by kernel_rfl)
instance : TField Tryz.prog 64 0 0 := .of (by kernel_rfl)
instance : TField Tryz.prog 64 1 1 := .of (by kernel_rfl)
instance : TField Tryz.prog 64 2 2 := .of (by kernel_rfl)
instance : TField Tryz.prog 64 3 3 := .of (by kernel_rfl)
instance : TField Tryz.prog 64 4 4 := .of (by kernel_rfl)
instance : TStruct Tryz.prog 64 [(0, 1), (1, 1), (2, 1), (3, 1), (4, 1)] := .of (by kernel_rfl)
instance : TZero Tryz.prog 64 [.slice none 0 0, .int .i64 0, .int .i64 0, .int .i64 0, .int .i64 0] := .of (v := .agg #[.slice none 0 0, .int .i64 0, .int .i64 0, .int .i64 0, .int .i64 0]) (n := 5) (by kernel_rfl) rfl rfl
instance : TRow Tryz.prog 64 5 56 := .of (by kernel_rfl)
-- type 65: steleref20.reader
instance : TSize Tryz.prog 65 5 := .of (by kernel_rfl)
instance : TAgg Tryz.prog 65 5 := .of (by kernel_rfl)
instance : TConcrete Tryz.prog 65 := .of (by kernel_rfl)
instance : TField Tryz.prog 65 0 0 := .of (by kernel_rfl)
instance : TField Tryz.prog 65 1 1 := .of (by kernel_rfl)
instance : TField Tryz.prog 65 2 2 := .of (by kernel_rfl)
instance : TField Tryz.prog 65 3 3 := .of (by kernel_rfl)
instance : TField Tryz.prog 65 4 4 := .of (by kernel_rfl)
instance : TStruct Tryz.prog 65 [(0, 1), (1, 1), (2, 1), (3, 1), (4, 1)] := .of (by kernel_rfl)
instance : TZero Tryz.prog 65 [.slice none 0 0, .int .i64 0, .int .i64 0, .int .i64 0, .int .i64 0] := .of (v := .agg #[.slice none 0 0, .int .i64 0, .int .i64 0, .int .i64 0, .int .i64 0]) (n := 5) (by kernel_rfl) rfl rfl
instance : TRow Tryz.prog 65 5 56 := .of (by kernel_rfl)
-- type 66: func() []string
instance : TSize Tryz.prog 66 1 := .of (by kernel_rfl)
instance : TOne Tryz.prog 66 := .of (by kernel_rfl)
instance : TConcrete Tryz.prog 66 := .of (by kernel_rfl)
instance : TZero Tryz.prog 66 [.nilFunc] := .of (v := .nilFunc) (n := 1) (by kernel_rfl) rfl rfl
instance : TRow Tryz.prog 66 1 8 := .of (by kernel_rfl)
-- type 67: func(string)
instance : TSize Tryz.prog 67 1 := .of (by kernel_rfl)
instance : TOne Tryz.prog 67 := .of (by kernel_rfl)
instance : TConcrete Tryz.prog 67 := .of (by kernel_rfl)
instance : TZero Tryz.prog 67 [.nilFunc] := .of (v := .nilFunc) (n := 1) (by kernel_rfl) rfl rfl
instance : TRow Tryz.prog 67 1 8 := .of (by kernel_rfl)
-- type 68: func() string
instance : TSize Tryz.prog 68 1 := .of (by kernel_rfl)
instance : TOne Tryz.prog 68 := .of (by kernel_rfl)
instance : TConcrete Tryz.prog 68 := .of (by kernel_rfl)
instance : TZero Tryz.prog 68 [.nilFunc] := .of (v := .nilFunc) (n := 1) (by kernel_rfl) rfl rfl
instance : TRow Tryz.prog 68 1 8 := .of (by kernel_rfl)
-- type 69: struct { Name string; Size int }
instance : TSize Tryz.prog 69 2 := .of (by kernel_rfl)
instance : TAgg Tryz.prog 69 2 := .of (by kernel_rfl)
instance : TConcrete Tryz.prog 69 := .of (by kernel_rfl)
instance : TField Tryz.prog 69 0 0 := .of (by kernel_rfl)
instance : TField Tryz.prog 69 1 1 := .of (by kernel_rfl)
instance : TStruct Tryz.prog 69 [(0, 1), (1, 1)] := .of (by kernel_rfl)
instance : TZero Tryz.prog 69 [.string ⟨#[]⟩, .int .i64 0] := .of (v := .agg #[.string ⟨#[]⟩, .int .i64 0]) (n := 2) (by kernel_rfl) rfl rfl
instance : TRow Tryz.prog 69 2 24 := .of (by kernel_rfl)
-- type 70: api.Array
instance : TSize Tryz.prog 70 2 := .of (by kernel_rfl)
instance : TAgg Tryz.prog 70 2 := .of (by kernel_rfl)
instance : TConcrete Tryz.prog 70 := .of (by kernel_rfl)
instance : TField Tryz.prog 70 0 0 := .of (by kernel_rfl)
instance : TField Tryz.prog 70 1 1 := .of (by kernel_rfl)
instance : TStruct Tryz.prog 70 [(0, 1), (1, 1)] := .of (by kernel_rfl)
instance : TZero Tryz.prog 70 [.string ⟨#[]⟩, .int .i64 0] := .of (v := .agg #[.string ⟨#[]⟩, .int .i64 0]) (n := 2) (by kernel_rfl) rfl rfl
instance : TRow Tryz.prog 70 2 24 := .of (by kernel_rfl)
-- type 71: func() uint32
instance : TSize Tryz.prog 71 1 := .of (by kernel_rfl)
instance : TOne Tryz.prog 71 := .of (by kernel_rfl)
instance : TConcrete Tryz.prog 71 := .of (by kernel_rfl)
instance : TZero Tryz.prog 71 [.nilFunc] := .of (v := .nilFunc) (n := 1) (by kernel_rfl) rfl rfl
instance : TRow Tryz.prog 71 1 8 := .of (by kernel_rfl)
-- type 72: func() api.Func
instance : TSize Tryz.prog 72 1 := .of (by kernel_rfl)
instance : TOne Tryz.prog 72 := .of (by kernel_rfl)
instance : TConcrete Tryz.prog 72 := .of (by kernel_rfl)
instance : TZero Tryz.prog 72 [.nilFunc] := .of (v := .nilFunc) (n := 1) (by kernel_rfl) rfl rfl
instance : TRow Tryz.prog 72 1 8 := .of (by kernel_rfl)
-- type 73: func(api.Errno)
instance : TSize Tryz.prog 73 1 := .of (by kernel_rfl)
instance : TOne Tryz.prog 73 := .of (by kernel_rfl)
instance : TConcrete Tryz.prog 73 := .of (by kernel_rfl)
instance : TZero Tryz.prog 73 [.nilFunc] := .of (v := .nilFunc) (n := 1) (by kernel_rfl) rfl rfl
instance : TRow Tryz.prog 73 1 8 := .of (by kernel_rfl)
-- type 74: func([]string, []string) bool
instance : TSize Tryz.prog 74 1 := .of (by kernel_rfl)
instance : TOne Tryz.prog 74 := .of (by kernel_rfl)
instance : TConcrete Tryz.prog 74 := .of (by kernel_rfl)
instance : TZero Tryz.prog 74 [.nilFunc] := .of (v := .nilFunc) (n := 1) (by kernel_rfl) rfl rfl
instance : TRow Tryz.prog 74 1 8 := .of (by kernel_rfl)
-- type 75: func([]api.Stmt, []api.Stmt) bool
instance : TSize Tryz.prog 75 1 := .of (by kernel_rfl)
instance : TOne Tryz.prog 75 := .of (by kernel_rfl)
instance : TConcrete Tryz.prog 75 := .of (by kernel_rfl)
instance : TZero Tryz.prog 75 [.nilFunc] := .of (v := .nilFunc) (n := 1) (by kernel_rfl) rfl rfl
instance : TRow Tryz.prog 75 1 8 := .of (by kernel_rfl)
-- type 76: func([]api.Array, []api.Array) bool
instance : TSize Tryz.prog 76 1 := .of (by kernel_rfl)
instance : TOne Tryz.prog 76 := .of (by kernel_rfl)
instance : TConcrete Tryz.prog 76 := .of (by kernel_rfl)
instance : TZero Tryz.prog 76 [.nilFunc] := .of (v := .nilFunc) (n := 1) (by kernel_rfl) rfl rfl
instance : TRow Tryz.prog 76 1 8 := .of (by kernel_rfl)
-- type 77: func([]api.Func, []api.Func, func(api.Func, api.Func) bool) bool
instance : TSize Tryz.prog 77 1 := .of (by kernel_rfl)
instance : TOne Tryz.prog 77 := .of (by kernel_rfl)
instance : TConcrete Tryz.prog 77 := .of (by kernel_rfl)
instance : TZero Tryz.prog 77 [.nilFunc] := .of (v := .nilFunc) (n := 1) (by kernel_rfl) rfl rfl
instance : TRow Tryz.prog 77 1 8 := .of (by kernel_rfl)
-- type 78: func(api.Func, api.Func) bool
instance : TSize Tryz.prog 78 1 := .of (by kernel_rfl)
instance : TOne Tryz.prog 78 := .of (by kernel_rfl)
instance : TConcrete Tryz.prog 78 := .of (by kernel_rfl)
instance : TZero Tryz.prog 78 [.nilFunc] := .of (v := .nilFunc) (n := 1) (by kernel_rfl) rfl rfl
instance : TRow Tryz.prog 78 1 8 := .of (by kernel_rfl)
-- type 79: struct { Kind int; Name string; Index []api.Expr; Value []api.Expr; Then []api.S
instance : TSize Tryz.prog 79 6 := .of (by kernel_rfl)
instance : TAgg Tryz.prog 79 6 := .of (by kernel_rfl)
instance : TConcrete Tryz.prog 79 := .of (by kernel_rfl)
instance : TField Tryz.prog 79 0 0 := .of (by kernel_rfl)
instance : TField Tryz.prog 79 1 1 := .of (by kernel_rfl)
instance : TField Tryz.prog 79 2 2 := .of (by kernel_rfl)
instance : TField Tryz.prog 79 3 3 := .of (by kernel_rfl)
instance : TField Tryz.prog 79 4 4 := .of (by kernel_rfl)
instance : TField Tryz.prog 79 5 5 := .of (by kernel_rfl)
instance : TStruct Tryz.prog 79 [(0, 1), (1, 1), (2, 1), (3, 1), (4, 1), (5, 1)] := .of (by kernel_rfl)
instance : TZero Tryz.prog 79 [.int .i64 0, .string ⟨#[]⟩, .slice none 0 0, .slice none 0 0, .slice none 0 0, .slice none 0 0] := .of (v := .agg #[.int .i64 0, .string ⟨#[]⟩, .slice none 0 0, .slice none 0 0, .slice none 0 0, .slice none 0 0]) (n := 6) (by kernel_rfl) rfl rfl
instance : TRow Tryz.prog 79 6 120 := .of (by kernel_rfl)
-- type 80: api.Stmt
instance : TSize Tryz.prog 80 6 := .of (by kernel_rfl)
instance : TAgg Tryz.prog 80 6 := .of (by kernel_rfl)
instance : TConcrete Tryz.prog 80 := .of (by kernel_rfl)
instance : TField Tryz.prog 80 0 0 := .of (by kernel_rfl)
instance : TField Tryz.prog 80 1 1 := .of (by kernel_rfl)
instance : TField Tryz.prog 80 2 2 := .of (by kernel_rfl)
instance : TField Tryz.prog 80 3 3 := .of (by kernel_rfl)
instance : TField Tryz.prog 80 4 4 := .of (by kernel_rfl)
instance : TField Tryz.prog 80 5 5 := .of (by kernel_rfl)
instance : TStruct Tryz.prog 80 [(0, 1), (1, 1), (2, 1), (3, 1), (4, 1), (5, 1)] := .of (by kernel_rfl)
instance : TZero Tryz.prog 80 [.int .i64 0, .string ⟨#[]⟩, .slice none 0 0, .slice none 0 0, .slice none 0 0, .slice none 0 0] := .of (v := .agg #[.int .i64 0, .string ⟨#[]⟩, .slice none 0 0, .slice none 0 0, .slice none 0 0, .slice none 0 0]) (n := 6) (by kernel_rfl) rfl rfl
instance : TRow Tryz.prog 80 6 120 := .of (by kernel_rfl)
-- type 82: func(string) (api.Token, int, api.Errno)
instance : TSize Tryz.prog 82 1 := .of (by kernel_rfl)
instance : TOne Tryz.prog 82 := .of (by kernel_rfl)
instance : TConcrete Tryz.prog 82 := .of (by kernel_rfl)
instance : TZero Tryz.prog 82 [.nilFunc] := .of (v := .nilFunc) (n := 1) (by kernel_rfl) rfl rfl
instance : TRow Tryz.prog 82 1 8 := .of (by kernel_rfl)
-- type 83: func(string, string) int
instance : TSize Tryz.prog 83 1 := .of (by kernel_rfl)
instance : TOne Tryz.prog 83 := .of (by kernel_rfl)
instance : TConcrete Tryz.prog 83 := .of (by kernel_rfl)
instance : TZero Tryz.prog 83 [.nilFunc] := .of (v := .nilFunc) (n := 1) (by kernel_rfl) rfl rfl
instance : TRow Tryz.prog 83 1 8 := .of (by kernel_rfl)
-- type 84: *strings.Builder
instance : TSize Tryz.prog 84 1 := .of (by kernel_rfl)
instance : TOne Tryz.prog 84 := .of (by kernel_rfl)
instance : TConcrete Tryz.prog 84 := .of (by kernel_rfl)
instance : TZero Tryz.prog 84 [.pointer none] := .of (v := .pointer none) (n := 1) (by kernel_rfl) rfl rfl
instance : TRow Tryz.prog 84 1 8 := .of (by kernel_rfl)
-- type 85: []uint8
instance : TSize Tryz.prog 85 1 := .of (by kernel_rfl)
instance : TOne Tryz.prog 85 := .of (by kernel_rfl)
instance : TSlice Tryz.prog 85 5 1 := .of (by kernel_rfl)
instance : TConcrete Tryz.prog 85 := .of (by kernel_rfl)
instance : TZero Tryz.prog 85 [.slice none 0 0] := .of (v := .slice none 0 0) (n := 1) (by kernel_rfl) rfl rfl
instance : TRow Tryz.prog 85 1 24 := .of (by kernel_rfl)
-- type 86: struct { addr *strings.Builder; buf []uint8 }
instance : TSize Tryz.prog 86 2 := .of (by kernel_rfl)
instance : TAgg Tryz.prog 86 2 := .of (by kernel_rfl)
instance : TConcrete Tryz.prog 86 := .of (by kernel_rfl)
instance : TField Tryz.prog 86 0 0 := .of (by kernel_rfl)
instance : TField Tryz.prog 86 1 1 := .of (by kernel_rfl)
instance : TStruct Tryz.prog 86 [(0, 1), (1, 1)] := .of (by kernel_rfl)
instance : TZero Tryz.prog 86 [.pointer none, .slice none 0 0] := .of (v := .agg #[.pointer none, .slice none 0 0]) (n := 2) (by kernel_rfl) rfl rfl
instance : TRow Tryz.prog 86 2 32 := .of (by kernel_rfl)
-- type 87: strings.Builder
instance : TSize Tryz.prog 87 2 := .of (by kernel_rfl)
instance : TAgg Tryz.prog 87 2 := .of (by kernel_rfl)
instance : TConcrete Tryz.prog 87 := .of (by kernel_rfl)
instance : TField Tryz.prog 87 0 0 := .of (by kernel_rfl)
instance : TField Tryz.prog 87 1 1 := .of (by kernel_rfl)
instance : TStruct Tryz.prog 87 [(0, 1), (1, 1)] := .of (by kernel_rfl)
instance : TZero Tryz.prog 87 [.pointer none, .slice none 0 0] := .of (v := .agg #[.pointer none, .slice none 0 0]) (n := 2) (by kernel_rfl) rfl rfl
instance : TRow Tryz.prog 87 2 32 := .of (by kernel_rfl)
-- type 88: func(int)
instance : TSize Tryz.prog 88 1 := .of (by kernel_rfl)
instance : TOne Tryz.prog 88 := .of (by kernel_rfl)
instance : TConcrete Tryz.prog 88 := .of (by kernel_rfl)
instance : TZero Tryz.prog 88 [.nilFunc] := .of (v := .nilFunc) (n := 1) (by kernel_rfl) rfl rfl
instance : TRow Tryz.prog 88 1 8 := .of (by kernel_rfl)
-- type 89: interface { Error() string }
instance : TSize Tryz.prog 89 1 := .of (by kernel_rfl)
instance : TOne Tryz.prog 89 := .of (by kernel_rfl)
instance : TZero Tryz.prog 89 [.nilIface] := .of (v := .nilIface) (n := 1) (by kernel_rfl) rfl rfl
instance : TRow Tryz.prog 89 1 16 := .of (by kernel_rfl)
-- type 90: error
instance : TSize Tryz.prog 90 1 := .of (by kernel_rfl)
instance : TOne Tryz.prog 90 := .of (by kernel_rfl)
instance : TZero Tryz.prog 90 [.nilIface] := .of (v := .nilIface) (n := 1) (by kernel_rfl) rfl rfl
instance : TRow Tryz.prog 90 1 16 := .of (by kernel_rfl)
-- type 92: func(string) (int, error)
instance : TSize Tryz.prog 92 1 := .of (by kernel_rfl)
instance : TOne Tryz.prog 92 := .of (by kernel_rfl)
instance : TConcrete Tryz.prog 92 := .of (by kernel_rfl)
instance : TZero Tryz.prog 92 [.nilFunc] := .of (v := .nilFunc) (n := 1) (by kernel_rfl) rfl rfl
instance : TRow Tryz.prog 92 1 8 := .of (by kernel_rfl)
-- type 93: func(int) string
instance : TSize Tryz.prog 93 1 := .of (by kernel_rfl)
instance : TOne Tryz.prog 93 := .of (by kernel_rfl)
instance : TConcrete Tryz.prog 93 := .of (by kernel_rfl)
instance : TZero Tryz.prog 93 [.nilFunc] := .of (v := .nilFunc) (n := 1) (by kernel_rfl) rfl rfl
instance : TRow Tryz.prog 93 1 8 := .of (by kernel_rfl)
-- type 94: func(*strings.Builder, []api.Stmt, string)
instance : TSize Tryz.prog 94 1 := .of (by kernel_rfl)
instance : TOne Tryz.prog 94 := .of (by kernel_rfl)
instance : TConcrete Tryz.prog 94 := .of (by kernel_rfl)
instance : TZero Tryz.prog 94 [.nilFunc] := .of (v := .nilFunc) (n := 1) (by kernel_rfl) rfl rfl
instance : TRow Tryz.prog 94 1 8 := .of (by kernel_rfl)
-- type 95: uint
instance : TSize Tryz.prog 95 1 := .of (by kernel_rfl)
instance : TOne Tryz.prog 95 := .of (by kernel_rfl)
instance : TKind Tryz.prog 95 .u64 := .of (by kernel_rfl)
instance : TConcrete Tryz.prog 95 := .of (by kernel_rfl)
instance : TZero Tryz.prog 95 [.int .u64 0] := .of (v := .int .u64 0) (n := 1) (by kernel_rfl) rfl rfl
instance : TRow Tryz.prog 95 1 8 := .of (by kernel_rfl)
-- type 97: func(uint, uint) (uint, uint)
instance : TSize Tryz.prog 97 1 := .of (by kernel_rfl)
instance : TOne Tryz.prog 97 := .of (by kernel_rfl)
instance : TConcrete Tryz.prog 97 := .of (by kernel_rfl)
instance : TZero Tryz.prog 97 [.nilFunc] := .of (v := .nilFunc) (n := 1) (by kernel_rfl) rfl rfl
instance : TRow Tryz.prog 97 1 8 := .of (by kernel_rfl)
-- type 98: func() int
instance : TSize Tryz.prog 98 1 := .of (by kernel_rfl)
instance : TOne Tryz.prog 98 := .of (by kernel_rfl)
instance : TConcrete Tryz.prog 98 := .of (by kernel_rfl)
instance : TZero Tryz.prog 98 [.nilFunc] := .of (v := .nilFunc) (n := 1) (by kernel_rfl) rfl rfl
instance : TRow Tryz.prog 98 1 8 := .of (by kernel_rfl)
-- type 99: func([]string) string
instance : TSize Tryz.prog 99 1 := .of (by kernel_rfl)
instance : TOne Tryz.prog 99 := .of (by kernel_rfl)
instance : TConcrete Tryz.prog 99 := .of (by kernel_rfl)
instance : TZero Tryz.prog 99 [.nilFunc] := .of (v := .nilFunc) (n := 1) (by kernel_rfl) rfl rfl
instance : TRow Tryz.prog 99 1 8 := .of (by kernel_rfl)
-- type 100: func(uint32) string
instance : TSize Tryz.prog 100 1 := .of (by kernel_rfl)
instance : TOne Tryz.prog 100 := .of (by kernel_rfl)
instance : TConcrete Tryz.prog 100 := .of (by kernel_rfl)
instance : TZero Tryz.prog 100 [.nilFunc] := .of (v := .nilFunc) (n := 1) (by kernel_rfl) rfl rfl
instance : TRow Tryz.prog 100 1 8 := .of (by kernel_rfl)
-- type 101: func([]api.Stmt, string) string
instance : TSize Tryz.prog 101 1 := .of (by kernel_rfl)
instance : TOne Tryz.prog 101 := .of (by kernel_rfl)
instance : TConcrete Tryz.prog 101 := .of (by kernel_rfl)
instance : TZero Tryz.prog 101 [.nilFunc] := .of (v := .nilFunc) (n := 1) (by kernel_rfl) rfl rfl
instance : TRow Tryz.prog 101 1 8 := .of (by kernel_rfl)
-- type 102: func(...string) bool
instance : TSize Tryz.prog 102 1 := .of (by kernel_rfl)
instance : TOne Tryz.prog 102 := .of (by kernel_rfl)
instance : TConcrete Tryz.prog 102 := .of (by kernel_rfl)
instance : TZero Tryz.prog 102 [.nilFunc] := .of (v := .nilFunc) (n := 1) (by kernel_rfl) rfl rfl
instance : TRow Tryz.prog 102 1 8 := .of (by kernel_rfl)
-- type 103: func() api.Array
instance : TSize Tryz.prog 103 1 := .of (by kernel_rfl)
instance : TOne Tryz.prog 103 := .of (by kernel_rfl)
instance : TConcrete Tryz.prog 103 := .of (by kernel_rfl)
instance : TZero Tryz.prog 103 [.nilFunc] := .of (v := .nilFunc) (n := 1) (by kernel_rfl) rfl rfl
instance : TRow Tryz.prog 103 1 8 := .of (by kernel_rfl)
-- type 104: struct { Token api.Token; Size int; Err api.Errno }
instance : TSize Tryz.prog 104 5 := .of (by kernel_rfl)
instance : TAgg Tryz.prog 104 5 := .of (by kernel_rfl)
instance : TConcrete Tryz.prog 104 := .of (by kernel_rfl)
instance : TField Tryz.prog 104 0 0 := .of (by kernel_rfl)
instance : TField Tryz.prog 104 1 3 := .of (by kernel_rfl)
instance : TField Tryz.prog 104 2 4 := .of (by kernel_rfl)
instance : TStruct Tryz.prog 104 [(0, 3), (3, 1), (4, 1)] := .of (by kernel_rfl)
instance : TZero Tryz.prog 104 [.int .i64 0, .string ⟨#[]⟩, .int .i64 0, .int .i64 0, .int .i64 0] := .of (v := .agg #[.int .i64 0, .string ⟨#[]⟩, .int .i64 0, .int .i64 0, .int .i64 0]) (n := 5) (by kernel_rfl) rfl rfl
instance : TRow Tryz.prog 104 5 48 := .of (by kernel_rfl)
-- type 105: steleref19.T
instance : TSize Tryz.prog 105 5 := .of (by kernel_rfl)
instance : TAgg Tryz.prog 105 5 := .of (by kernel_rfl)
instance : TConcrete Tryz.prog 105 := .of (by kernel_rfl)
instance : TField Tryz.prog 105 0 0 := .of (by kernel_rfl)
instance : TField Tryz.prog 105 1 3 := .of (by kernel_rfl)
instance : TField Tryz.prog 105 2 4 := .of (by kernel_rfl)
instance : TStruct Tryz.prog 105 [(0, 3), (3, 1), (4, 1)] := .of (by kernel_rfl)
instance : TZero Tryz.prog 105 [.int .i64 0, .string ⟨#[]⟩, .int .i64 0, .int .i64 0, .int .i64 0] := .of (v := .agg #[.int .i64 0, .string ⟨#[]⟩, .int .i64 0, .int .i64 0, .int .i64 0]) (n := 5) (by kernel_rfl) rfl rfl
instance : TRow Tryz.prog 105 5 48 := .of (by kernel_rfl)
-- type 106: func(string) steleref19.T
instance : TSize Tryz.prog 106 1 := .of (by kernel_rfl)
instance : TOne Tryz.prog 106 := .of (by kernel_rfl)
instance : TConcrete Tryz.prog 106 := .of (by kernel_rfl)
instance : TZero Tryz.prog 106 [.nilFunc] := .of (v := .nilFunc) (n := 1) (by kernel_rfl) rfl rfl
instance : TRow Tryz.prog 106 1 8 := .of (by kernel_rfl)
-- type 107: func(int) bool
instance : TSize Tryz.prog 107 1 := .of (by kernel_rfl)
instance : TOne Tryz.prog 107 := .of (by kernel_rfl)
instance : TConcrete Tryz.prog 107 := .of (by kernel_rfl)
instance : TZero Tryz.prog 107 [.nilFunc] := .of (v := .nilFunc) (n := 1) (by kernel_rfl) rfl rfl
instance : TRow Tryz.prog 107 1 8 := .of (by kernel_rfl)
-- type 108: func() []api.Stmt
instance : TSize Tryz.prog 108 1 := .of (by kernel_rfl)
instance : TOne Tryz.prog 108 := .of (by kernel_rfl)
instance : TConcrete Tryz.prog 108 := .of (by kernel_rfl)
instance : TZero Tryz.prog 108 [.nilFunc] := .of (v := .nilFunc) (n := 1) (by kernel_rfl) rfl rfl
instance : TRow Tryz.prog 108 1 8 := .of (by kernel_rfl)
-- type 109: func([]api.Expr, []api.Expr) bool
instance : TSize Tryz.prog 109 1 := .of (by kernel_rfl)
instance : TOne Tryz.prog 109 := .of (by kernel_rfl)
instance : TConcrete Tryz.prog 109 := .of (by kernel_rfl)
instance : TZero Tryz.prog 109 [.nilFunc] := .of (v := .nilFunc) (n := 1) (by kernel_rfl) rfl rfl
instance : TRow Tryz.prog 109 1 8 := .of (by kernel_rfl)
-- type 110: func([]api.Stmt, []api.Stmt, func(api.Stmt, api.Stmt) bool) bool
instance : TSize Tryz.prog 110 1 := .of (by kernel_rfl)
instance : TOne Tryz.prog 110 := .of (by kernel_rfl)
instance : TConcrete Tryz.prog 110 := .of (by kernel_rfl)
instance : TZero Tryz.prog 110 [.nilFunc] := .of (v := .nilFunc) (n := 1) (by kernel_rfl) rfl rfl
instance : TRow Tryz.prog 110 1 8 := .of (by kernel_rfl)
-- type 111: func(api.Stmt, api.Stmt) bool
instance : TSize Tryz.prog 111 1 := .of (by kernel_rfl)
instance : TOne Tryz.prog 111 := .of (by kernel_rfl)
instance : TConcrete Tryz.prog 111 := .of (by kernel_rfl)
instance : TZero Tryz.prog 111 [.nilFunc] := .of (v := .nilFunc) (n := 1) (by kernel_rfl) rfl rfl
instance : TRow Tryz.prog 111 1 8 := .of (by kernel_rfl)
-- type 112: func(string, func(uint8) bool) string
instance : TSize Tryz.prog 112 1 := .of (by kernel_rfl)
instance : TOne Tryz.prog 112 := .of (by kernel_rfl)
instance : TConcrete Tryz.prog 112 := .of (by kernel_rfl)
instance : TZero Tryz.prog 112 [.nilFunc] := .of (v := .nilFunc) (n := 1) (by kernel_rfl) rfl rfl
instance : TRow Tryz.prog 112 1 8 := .of (by kernel_rfl)
-- type 113: func(uint8) bool
instance : TSize Tryz.prog 113 1 := .of (by kernel_rfl)
instance : TOne Tryz.prog 113 := .of (by kernel_rfl)
instance : TConcrete Tryz.prog 113 := .of (by kernel_rfl)
instance : TZero Tryz.prog 113 [.nilFunc] := .of (v := .nilFunc) (n := 1) (by kernel_rfl) rfl rfl
instance : TRow Tryz.prog 113 1 8 := .of (by kernel_rfl)
-- type 114: func(string, uint8) int
instance : TSize Tryz.prog 114 1 := .of (by kernel_rfl)
instance : TOne Tryz.prog 114 := .of (by kernel_rfl)
instance : TConcrete Tryz.prog 114 := .of (by kernel_rfl)
instance : TZero Tryz.prog 114 [.nilFunc] := .of (v := .nilFunc) (n := 1) (by kernel_rfl) rfl rfl
instance : TRow Tryz.prog 114 1 8 := .of (by kernel_rfl)
-- type 115: *uint8
instance : TSize Tryz.prog 115 1 := .of (by kernel_rfl)
instance : TOne Tryz.prog 115 := .of (by kernel_rfl)
instance : TConcrete Tryz.prog 115 := .of (by kernel_rfl)
instance : TZero Tryz.prog 115 [.pointer none] := .of (v := .pointer none) (n := 1) (by kernel_rfl) rfl rfl
instance : TRow Tryz.prog 115 1 8 := .of (by kernel_rfl)
-- type 116: func([]api.Expr) string
instance : TSize Tryz.prog 116 1 := .of (by kernel_rfl)
instance : TOne Tryz.prog 116 := .of (by kernel_rfl)
instance : TConcrete Tryz.prog 116 := .of (by kernel_rfl)
instance : TZero Tryz.prog 116 [.nilFunc] := .of (v := .nilFunc) (n := 1) (by kernel_rfl) rfl rfl
instance : TRow Tryz.prog 116 1 8 := .of (by kernel_rfl)
-- type 118: func(uint32, uint32) (uint32, uint32)
instance : TSize Tryz.prog 118 1 := .of (by kernel_rfl)
instance : TOne Tryz.prog 118 := .of (by kernel_rfl)
instance : TConcrete Tryz.prog 118 := .of (by kernel_rfl)
instance : TZero Tryz.prog 118 [.nilFunc] := .of (v := .nilFunc) (n := 1) (by kernel_rfl) rfl rfl
instance : TRow Tryz.prog 118 1 8 := .of (by kernel_rfl)
-- type 119: uint64
instance : TSize Tryz.prog 119 1 := .of (by kernel_rfl)
instance : TOne Tryz.prog 119 := .of (by kernel_rfl)
instance : TKind Tryz.prog 119 .u64 := .of (by kernel_rfl)
instance : TConcrete Tryz.prog 119 := .of (by kernel_rfl)
instance : TZero Tryz.prog 119 [.int .u64 0] := .of (v := .int .u64 0) (n := 1) (by kernel_rfl) rfl rfl
instance : TRow Tryz.prog 119 1 8 := .of (by kernel_rfl)
-- type 121: func(uint64, uint64) (uint64, uint64)
instance : TSize Tryz.prog 121 1 := .of (by kernel_rfl)
instance : TOne Tryz.prog 121 := .of (by kernel_rfl)
instance : TConcrete Tryz.prog 121 := .of (by kernel_rfl)
instance : TZero Tryz.prog 121 [.nilFunc] := .of (v := .nilFunc) (n := 1) (by kernel_rfl) rfl rfl
instance : TRow Tryz.prog 121 1 8 := .of (by kernel_rfl)
-- type 122: func(api.Expr) string
instance : TSize Tryz.prog 122 1 := .of (by kernel_rfl)
instance : TOne Tryz.prog 122 := .of (by kernel_rfl)
instance : TConcrete Tryz.prog 122 := .of (by kernel_rfl)
instance : TZero Tryz.prog 122 [.nilFunc] := .of (v := .nilFunc) (n := 1) (by kernel_rfl) rfl rfl
instance : TRow Tryz.prog 122 1 8 := .of (by kernel_rfl)
-- type 123: func([]api.Expr) api.Expr
instance : TSize Tryz.prog 123 1 := .of (by kernel_rfl)
instance : TOne Tryz.prog 123 := .of (by kernel_rfl)
instance : TConcrete Tryz.prog 123 := .of (by kernel_rfl)
instance : TZero Tryz.prog 123 [.nilFunc] := .of (v := .nilFunc) (n := 1) (by kernel_rfl) rfl rfl
instance : TRow Tryz.prog 123 1 8 := .of (by kernel_rfl)
-- type 124: func([]string, string) bool
instance : TSize Tryz.prog 124 1 := .of (by kernel_rfl)
instance : TOne Tryz.prog 124 := .of (by kernel_rfl)
instance : TConcrete Tryz.prog 124 := .of (by kernel_rfl)
instance : TZero Tryz.prog 124 [.nilFunc] := .of (v := .nilFunc) (n := 1) (by kernel_rfl) rfl rfl
instance : TRow Tryz.prog 124 1 8 := .of (by kernel_rfl)
-- type 125: func() api.Stmt
instance : TSize Tryz.prog 125 1 := .of (by kernel_rfl)
instance : TOne Tryz.prog 125 := .of (by kernel_rfl)
instance : TConcrete Tryz.prog 125 := .of (by kernel_rfl)
instance : TZero Tryz.prog 125 [.nilFunc] := .of (v := .nilFunc) (n := 1) (by kernel_rfl) rfl rfl
instance : TRow Tryz.prog 125 1 8 := .of (by kernel_rfl)
-- type 126: func([]api.Expr, []api.Expr, func(api.Expr, api.Expr) bool) bool
instance : TSize Tryz.prog 126 1 := .of (by kernel_rfl)
instance : TOne Tryz.prog 126 := .of (by kernel_rfl)
instance : TConcrete Tryz.prog 126 := .of (by kernel_rfl)
instance : TZero Tryz.prog 126 [.nilFunc] := .of (v := .nilFunc) (n := 1) (by kernel_rfl) rfl rfl
instance : TRow Tryz.prog 126 1 8 := .of (by kernel_rfl)
-- type 127: func(api.Expr, api.Expr) bool
instance : TSize Tryz.prog 127 1 := .of (by kernel_rfl)
instance : TOne Tryz.prog 127 := .of (by kernel_rfl)
instance : TConcrete Tryz.prog 127 := .of (by kernel_rfl)
instance : TZero Tryz.prog 127 [.nilFunc] := .of (v := .nilFunc) (n := 1) (by kernel_rfl) rfl rfl
instance : TRow Tryz.prog 127 1 8 := .of (by kernel_rfl)
-- type 129: func(string, int, int) (uint64, error)
instance : TSize Tryz.prog 129 1 := .of (by kernel_rfl)
instance : TOne Tryz.prog 129 := .of (by kernel_rfl)
instance : TConcrete Tryz.prog 129 := .of (by kernel_rfl)
instance : TZero Tryz.prog 129 [.nilFunc] := .of (v := .nilFunc) (n := 1) (by kernel_rfl) rfl rfl
instance : TRow Tryz.prog 129 1 8 := .of (by kernel_rfl)
-- type 130: func(uint64, int) string
instance : TSize Tryz.prog 130 1 := .of (by kernel_rfl)
instance : TOne Tryz.prog 130 := .of (by kernel_rfl)
instance : TConcrete Tryz.prog 130 := .of (by kernel_rfl)
instance : TZero Tryz.prog 130 [.nilFunc] := .of (v := .nilFunc) (n := 1) (by kernel_rfl) rfl rfl
instance : TRow Tryz.prog 130 1 8 := .of (by kernel_rfl)
-- type 131: unsafe.Pointer
instance : TSize Tryz.prog 131 1 := .of (by kernel_rfl)
instance : TOne Tryz.prog 131 := .of (by kernel_rfl)
instance : TConcrete Tryz.prog 131 := .of (by kernel_rfl)
instance : TZero Tryz.prog 131 [.pointer none] := .of (v := .pointer none) (n := 1) (by kernel_rfl) rfl rfl
instance : TRow Tryz.prog 131 1 8 := .of (by kernel_rfl)
-- type 132: func(unsafe.Pointer) unsafe.Pointer
instance : TSize Tryz.prog 132 1 := .of (by kernel_rfl)
instance : TOne Tryz.prog 132 := .of (by kernel_rfl)
instance : TConcrete Tryz.prog 132 := .of (by kernel_rfl)
instance : TZero Tryz.prog 132 [.nilFunc] := .of (v := .nilFunc) (n := 1) (by kernel_rfl) rfl rfl
instance : TRow Tryz.prog 132 1 8 := .of (by kernel_rfl)
-- type 133: func(int) []uint8
instance : TSize Tryz.prog 133 1 := .of (by kernel_rfl)
instance : TOne Tryz.prog 133 := .of (by kernel_rfl)
instance : TConcrete Tryz.prog 133 := .of (by kernel_rfl)
instance : TZero Tryz.prog 133 [.nilFunc] := .of (v := .nilFunc) (n := 1) (by kernel_rfl) rfl rfl
instance : TRow Tryz.prog 133 1 8 := .of (by kernel_rfl)
-- type 134: func(int64, int) string
instance : TSize Tryz.prog 134 1 := .of (by kernel_rfl)
instance : TOne Tryz.prog 134 := .of (by kernel_rfl)
instance : TConcrete Tryz.prog 134 := .of (by kernel_rfl)
instance : TZero Tryz.prog 134 [.nilFunc] := .of (v := .nilFunc) (n := 1) (by kernel_rfl) rfl rfl
instance : TRow Tryz.prog 134 1 8 := .of (by kernel_rfl)
-- type 135: func(api.Expr, int) api.Expr
instance : TSize Tryz.prog 135 1 := .of (by kernel_rfl)
instance : TOne Tryz.prog 135 := .of (by kernel_rfl)
instance : TConcrete Tryz.prog 135 := .of (by kernel_rfl)
instance : TZero Tryz.prog 135 [.nilFunc] := .of (v := .nilFunc) (n := 1) (by kernel_rfl) rfl rfl
instance : TRow Tryz.prog 135 1 8 := .of (by kernel_rfl)
-- type 136: func(api.Expr, int) string
instance : TSize Tryz.prog 136 1 := .of (by kernel_rfl)
instance : TOne Tryz.prog 136 := .of (by kernel_rfl)
instance : TConcrete Tryz.prog 136 := .of (by kernel_rfl)
instance : TZero Tryz.prog 136 [.nilFunc] := .of (v := .nilFunc) (n := 1) (by kernel_rfl) rfl rfl
instance : TRow Tryz.prog 136 1 8 := .of (by kernel_rfl)
-- type 137: func([]string, string) int
instance : TSize Tryz.prog 137 1 := .of (by kernel_rfl)
instance : TOne Tryz.prog 137 := .of (by kernel_rfl)
instance : TConcrete Tryz.prog 137 := .of (by kernel_rfl)
instance : TZero Tryz.prog 137 [.nilFunc] := .of (v := .nilFunc) (n := 1) (by kernel_rfl) rfl rfl
instance : TRow Tryz.prog 137 1 8 := .of (by kernel_rfl)
-- type 138: func(int) api.Expr
instance : TSize Tryz.prog 138 1 := .of (by kernel_rfl)
instance : TOne Tryz.prog 138 := .of (by kernel_rfl)
instance : TConcrete Tryz.prog 138 := .of (by kernel_rfl)
instance : TZero Tryz.prog 138 [.nilFunc] := .of (v := .nilFunc) (n := 1) (by kernel_rfl) rfl rfl
instance : TRow Tryz.prog 138 1 8 := .of (by kernel_rfl)
-- type 139: func() []api.Expr
instance : TSize Tryz.prog 139 1 := .of (by kernel_rfl)
instance : TOne Tryz.prog 139 := .of (by kernel_rfl)
instance : TConcrete Tryz.prog 139 := .of (by kernel_rfl)
instance : TZero Tryz.prog 139 [.nilFunc] := .of (v := .nilFunc) (n := 1) (by kernel_rfl) rfl rfl
instance : TRow Tryz.prog 139 1 8 := .of (by kernel_rfl)
-- type 140: func(string, string, int, int, error) error
instance : TSize Tryz.prog 140 1 := .of (by kernel_rfl)
instance : TOne Tryz.prog 140 := .of (by kernel_rfl)
instance : TConcrete Tryz.prog 140 := .of (by kernel_rfl)
instance : TZero Tryz.prog 140 [.nilFunc] := .of (v := .nilFunc) (n := 1) (by kernel_rfl) rfl rfl
instance : TRow Tryz.prog 140 1 8 := .of (by kernel_rfl)
-- type 141: func(int) int
instance : TSize Tryz.prog 141 1 := .of (by kernel_rfl)
instance : TOne Tryz.prog 141 := .of (by kernel_rfl)
instance : TConcrete Tryz.prog 141 := .of (by kernel_rfl)
instance : TZero Tryz.prog 141 [.nilFunc] := .of (v := .nilFunc) (n := 1) (by kernel_rfl) rfl rfl
instance : TRow Tryz.prog 141 1 8 := .of (by kernel_rfl)
-- type 142: [24]uint8
instance : TSize Tryz.prog 142 24 := .of (by kernel_rfl)
instance : TAgg Tryz.prog 142 24 := .of (by kernel_rfl)
instance : TConcrete Tryz.prog 142 := .of (by kernel_rfl)
instance : TZero Tryz.prog 142 [.int .u8 0, .int .u8 0, .int .u8 0, .int .u8 0, .int .u8 0, .int .u8 0, .int .u8 0, .int .u8 0, .int .u8 0, .int .u8 0, .int .u8 0, .int .u8 0, .int .u8 0, .int .u8 0, .int .u8 0, .int .u8 0, .int .u8 0, .int .u8 0, .int .u8 0, .int .u8 0, .int .u8 0, .int .u8 0, .int .u8 0, .int .u8 0] := .of (v := .agg #[.int .u8 0, .int .u8 0, .int .u8 0, .int .u8 0, .int .u8 0, .int .u8 0, .int .u8 0, .int .u8 0, .int .u8 0, .int .u8 0, .int .u8 0, .int .u8 0, .int .u8 0, .int .u8 0, .int .u8 0, .int .u8 0, .int .u8 0, .int .u8 0, .int .u8 0, .int .u8 0, .int .u8 0, .int .u8 0, .int .u8 0, .int .u8 0]) (n := 24) (by kernel_rfl) rfl rfl
instance : TRow Tryz.prog 142 24 24 := .of (by kernel_rfl)
-- type 143: func(uint64) int
instance : TSize Tryz.prog 143 1 := .of (by kernel_rfl)
instance : TOne Tryz.prog 143 := .of (by kernel_rfl)
instance : TConcrete Tryz.prog 143 := .of (by kernel_rfl)
instance : TZero Tryz.prog 143 [.nilFunc] := .of (v := .nilFunc) (n := 1) (by kernel_rfl) rfl rfl
instance : TRow Tryz.prog 143 1 8 := .of (by kernel_rfl)
-- type 144: func([]uint8, uint64)
instance : TSize Tryz.prog 144 1 := .of (by kernel_rfl)
instance : TOne Tryz.prog 144 := .of (by kernel_rfl)
instance : TConcrete Tryz.prog 144 := .of (by kernel_rfl)
instance : TZero Tryz.prog 144 [.nilFunc] := .of (v := .nilFunc) (n := 1) (by kernel_rfl) rfl rfl
instance : TRow Tryz.prog 144 1 8 := .of (by kernel_rfl)
-- type 146: func([]uint8, uint64, int, bool, bool) ([]uint8, string)
instance : TSize Tryz.prog 146 1 := .of (by kernel_rfl)
instance : TOne Tryz.prog 146 := .of (by kernel_rfl)
instance : TConcrete Tryz.prog 146 := .of (by kernel_rfl)
instance : TZero Tryz.prog 146 [.nilFunc] := .of (v := .nilFunc) (n := 1) (by kernel_rfl) rfl rfl
instance : TRow Tryz.prog 146 1 8 := .of (by kernel_rfl)
-- type 147: func(api.Expr) int
instance : TSize Tryz.prog 147 1 := .of (by kernel_rfl)
instance : TOne Tryz.prog 147 := .of (by kernel_rfl)
instance : TConcrete Tryz.prog 147 := .of (by kernel_rfl)
instance : TZero Tryz.prog 147 [.nilFunc] := .of (v := .nilFunc) (n := 1) (by kernel_rfl) rfl rfl
instance : TRow Tryz.prog 147 1 8 := .of (by kernel_rfl)
-- type 148: func() api.Expr
instance : TSize Tryz.prog 148 1 := .of (by kernel_rfl)
instance : TOne Tryz.prog 148 := .of (by kernel_rfl)
instance : TConcrete Tryz.prog 148 := .of (by kernel_rfl)
instance : TZero Tryz.prog 148 [.nilFunc] := .of (v := .nilFunc) (n := 1) (by kernel_rfl) rfl rfl
instance : TRow Tryz.prog 148 1 8 := .of (by kernel_rfl)
-- type 149: strconv.Error
instance : TSize Tryz.prog 149 1 := .of (by kernel_rfl)
instance : TOne Tryz.prog 149 := .of (by kernel_rfl)
instance : TKind Tryz.prog 149 .i64 := .of (by kernel_rfl)
instance : TConcrete Tryz.prog 149 := .of (by kernel_rfl)
instance : TZero Tryz.prog 149 [.int .i64 0] := .of (v := .int .i64 0) (n := 1) (by kernel_rfl) rfl rfl
instance : TRow Tryz.prog 149 1 8 := .of (by kernel_rfl)
-- type 150: func(uint8) uint8
instance : TSize Tryz.prog 150 1 := .of (by kernel_rfl)
instance : TOne Tryz.prog 150 := .of (by kernel_rfl)
instance : TConcrete Tryz.prog 150 := .of (by kernel_rfl)
instance : TZero Tryz.prog 150 [.nilFunc] := .of (v := .nilFunc) (n := 1) (by kernel_rfl) rfl rfl
instance : TRow Tryz.prog 150 1 8 := .of (by kernel_rfl)
-- type 151: *strconv.NumError
instance : TSize Tryz.prog 151 1 := .of (by kernel_rfl)
instance : TOne Tryz.prog 151 := .of (by kernel_rfl)
instance : TConcrete Tryz.prog 151 := .of (by kernel_rfl)
instance : TZero Tryz.prog 151 [.pointer none] := .of (v := .pointer none) (n := 1) (by kernel_rfl) rfl rfl
instance : TRow Tryz.prog 151 1 8 := .of (by kernel_rfl)
-- type 152: func(string, string) *strconv.NumError
instance : TSize Tryz.prog 152 1 := .of (by kernel_rfl)
instance : TOne Tryz.prog 152 := .of (by kernel_rfl)
instance : TConcrete Tryz.prog 152 := .of (by kernel_rfl)
instance : TZero Tryz.prog 152 [.nilFunc] := .of (v := .nilFunc) (n := 1) (by kernel_rfl) rfl rfl
instance : TRow Tryz.prog 152 1 8 := .of (by kernel_rfl)
-- type 153: func(string, string, int) *strconv.NumError
instance : TSize Tryz.prog 153 1 := .of (by kernel_rfl)
instance : TOne Tryz.prog 153 := .of (by kernel_rfl)
instance : TConcrete Tryz.prog 153 := .of (by kernel_rfl)
instance : TZero Tryz.prog 153 [.nilFunc] := .of (v := .nilFunc) (n := 1) (by kernel_rfl) rfl rfl
instance : TRow Tryz.prog 153 1 8 := .of (by kernel_rfl)
-- type 154: func(string) (uint32, uint32)
instance : TSize Tryz.prog 154 1 := .of (by kernel_rfl)
instance : TOne Tryz.prog 154 := .of (by kernel_rfl)
instance : TConcrete Tryz.prog 154 := .of (by kernel_rfl)
instance : TZero Tryz.prog 154 [.nilFunc] := .of (v := .nilFunc) (n := 1) (by kernel_rfl) rfl rfl
instance : TRow Tryz.prog 154 1 8 := .of (by kernel_rfl)
-- type 155: func(bool) int
instance : TSize Tryz.prog 155 1 := .of (by kernel_rfl)
instance : TOne Tryz.prog 155 := .of (by kernel_rfl)
instance : TConcrete Tryz.prog 155 := .of (by kernel_rfl)
instance : TZero Tryz.prog 155 [.nilFunc] := .of (v := .nilFunc) (n := 1) (by kernel_rfl) rfl rfl
instance : TRow Tryz.prog 155 1 8 := .of (by kernel_rfl)
-- type 156: [20]uint64
instance : TSize Tryz.prog 156 20 := .of (by kernel_rfl)
instance : TAgg Tryz.prog 156 20 := .of (by kernel_rfl)
instance : TConcrete Tryz.prog 156 := .of (by kernel_rfl)
instance : TZero Tryz.prog 156 [.int .u64 0, .int .u64 0, .int .u64 0, .int .u64 0, .int .u64 0, .int .u64 0, .int .u64 0, .int .u64 0, .int .u64 0, .int .u64 0, .int .u64 0, .int .u64 0, .int .u64 0, .int .u64 0, .int .u64 0, .int .u64 0, .int .u64 0, .int .u64 0, .int .u64 0, .int .u64 0] := .of (v := .agg #[.int .u64 0, .int .u64 0, .int .u64 0, .int .u64 0, .int .u64 0, .int .u64 0, .int .u64 0, .int .u64 0, .int .u64 0, .int .u64 0, .int .u64 0, .int .u64 0, .int .u64 0, .int .u64 0, .int .u64 0, .int .u64 0, .int .u64 0, .int .u64 0, .int .u64 0, .int .u64 0]) (n := 20) (by kernel_rfl) rfl rfl
instance : TRow Tryz.prog 156 20 160 := .of (by kernel_rfl)
-- type 158: func(uint) int
instance : TSize Tryz.prog 158 1 := .of (by kernel_rfl)
instance : TOne Tryz.prog 158 := .of (by kernel_rfl)
instance : TConcrete Tryz.prog 158 := .of (by kernel_rfl)
instance : TZero Tryz.prog 158 [.nilFunc] := .of (v := .nilFunc) (n := 1) (by kernel_rfl) rfl rfl
instance : TRow Tryz.prog 158 1 8 := .of (by kernel_rfl)
-- type 159: [][]string
instance : TSize Tryz.prog 159 1 := .of (by kernel_rfl)
instance : TOne Tryz.prog 159 := .of (by kernel_rfl)
instance : TSlice Tryz.prog 159 23 1 := .of (by kernel_rfl)
instance : TConcrete Tryz.prog 159 := .of (by kernel_rfl)
instance : TZero Tryz.prog 159 [.slice none 0 0] := .of (v := .slice none 0 0) (n := 1) (by kernel_rfl) rfl rfl
instance : TRow Tryz.prog 159 1 24 := .of (by kernel_rfl)
-- type 160: func() [][]string
instance : TSize Tryz.prog 160 1 := .of (by kernel_rfl)
instance : TOne Tryz.prog 160 := .of (by kernel_rfl)
instance : TConcrete Tryz.prog 160 := .of (by kernel_rfl)
instance : TZero Tryz.prog 160 [.nilFunc] := .of (v := .nilFunc) (n := 1) (by kernel_rfl) rfl rfl
instance : TRow Tryz.prog 160 1 8 := .of (by kernel_rfl)
-- type 161: func(func(int, []string) bool)
instance : TSize Tryz.prog 161 1 := .of (by kernel_rfl)
instance : TOne Tryz.prog 161 := .of (by kernel_rfl)
instance : TConcrete Tryz.prog 161 := .of (by kernel_rfl)
instance : TZero Tryz.prog 161 [.nilFunc] := .of (v := .nilFunc) (n := 1) (by kernel_rfl) rfl rfl
instance : TRow Tryz.prog 161 1 8 := .of (by kernel_rfl)
-- type 162: iter.Seq2[int,[]string]
instance : TSize Tryz.prog 162 1 := .of (by kernel_rfl)
instance : TOne Tryz.prog 162 := .of (by kernel_rfl)
instance : TConcrete Tryz.prog 162 := .of (by kernel_rfl)
instance : TZero Tryz.prog 162 [.nilFunc] := .of (v := .nilFunc) (n := 1) (by kernel_rfl) rfl rfl
instance : TRow Tryz.prog 162 1 8 := .of (by kernel_rfl)
-- type 163: func([][]string) iter.Seq2[int,[]string]
instance : TSize Tryz.prog 163 1 := .of (by kernel_rfl)
instance : TOne Tryz.prog 163 := .of (by kernel_rfl)
instance : TConcrete Tryz.prog 163 := .of (by kernel_rfl)
instance : TZero Tryz.prog 163 [.nilFunc] := .of (v := .nilFunc) (n := 1) (by kernel_rfl) rfl rfl
instance : TRow Tryz.prog 163 1 8 := .of (by kernel_rfl)
-- type 164: func([]string, bool, func() api.Expr) func() api.Expr
instance : TSize Tryz.prog 164 1 := .of (by kernel_rfl)
instance : TOne Tryz.prog 164 := .of (by kernel_rfl)
instance : TConcrete Tryz.prog 164 := .of (by kernel_rfl)
instance : TZero Tryz.prog 164 [.nilFunc] := .of (v := .nilFunc) (n := 1) (by kernel_rfl) rfl rfl
instance : TRow Tryz.prog 164 1 8 := .of (by kernel_rfl)
-- type 165: struct { Func string; Num string; Err error }
instance : TSize Tryz.prog 165 3 := .of (by kernel_rfl)
instance : TAgg Tryz.prog 165 3 := .of (by kernel_rfl)
instance : TConcrete Tryz.prog 165 := .of (by kernel_rfl)
instance : TField Tryz.prog 165 0 0 := .of (by kernel_rfl)
instance : TField Tryz.prog 165 1 1 := .of (by kernel_rfl)
instance : TField Tryz.prog 165 2 2 := .of (by kernel_rfl)
instance : TStruct Tryz.prog 165 [(0, 1), (1, 1), (2, 1)] := .of (by kernel_rfl)
instance : TZero Tryz.prog 165 [.string ⟨#[]⟩, .string ⟨#[]⟩, .nilIface] := .of (v := .agg #[.string ⟨#[]⟩, .string ⟨#[]⟩, .nilIface]) (n := 3) (by kernel_rfl) rfl rfl
instance : TRow Tryz.prog 165 3 48 := .of (by kernel_rfl)
-- type 166: strconv.NumError
instance : TSize Tryz.prog 166 3 := .of (by kernel_rfl)
instance : TAgg Tryz.prog 166 3 := .of (by kernel_rfl)
instance : TConcrete Tryz.prog 166 := .of (by kernel_rfl)
instance : TField Tryz.prog 166 0 0 := .of (by kernel_rfl)
instance : TField Tryz.prog 166 1 1 := .of (by kernel_rfl)
instance : TField Tryz.prog 166 2 2 := .of (by kernel_rfl)
instance : TStruct Tryz.prog 166 [(0, 1), (1, 1), (2, 1)] := .of (by kernel_rfl)
instance : TZero Tryz.prog 166 [.string ⟨#[]⟩, .string ⟨#[]⟩, .nilIface] := .of (v := .agg #[.string ⟨#[]⟩, .string ⟨#[]⟩, .nilIface]) (n := 3) (by kernel_rfl) rfl rfl
instance : TRow Tryz.prog 166 3 48 := .of (by kernel_rfl)
-- type 167: func(string) error
instance : TSize Tryz.prog 167 1 := .of (by kernel_rfl)
instance : TOne Tryz.prog 167 := .of (by kernel_rfl)
instance : TConcrete Tryz.prog 167 := .of (by kernel_rfl)
instance : TZero Tryz.prog 167 [.nilFunc] := .of (v := .nilFunc) (n := 1) (by kernel_rfl) rfl rfl
instance : TRow Tryz.prog 167 1 8 := .of (by kernel_rfl)
-- type 168: func(uint32) int
instance : TSize Tryz.prog 168 1 := .of (by kernel_rfl)
instance : TOne Tryz.prog 168 := .of (by kernel_rfl)
instance : TConcrete Tryz.prog 168 := .of (by kernel_rfl)
instance : TZero Tryz.prog 168 [.nilFunc] := .of (v := .nilFunc) (n := 1) (by kernel_rfl) rfl rfl
instance : TRow Tryz.prog 168 1 8 := .of (by kernel_rfl)
-- type 169: map[string]string
instance : TSize Tryz.prog 169 1 := .of (by kernel_rfl)
instance : TOne Tryz.prog 169 := .of (by kernel_rfl)
instance : TConcrete Tryz.prog 169 := .of (by kernel_rfl)
instance : TZero Tryz.prog 169 [.map none] := .of (v := .map none) (n := 1) (by kernel_rfl) rfl rfl
instance : TRow Tryz.prog 169 1 8 := .of (by kernel_rfl)
-- type 170: func(int, []string) bool
instance : TSize Tryz.prog 170 1 := .of (by kernel_rfl)
instance : TOne Tryz.prog 170 := .of (by kernel_rfl)
instance : TConcrete Tryz.prog 170 := .of (by kernel_rfl)
instance : TZero Tryz.prog 170 [.nilFunc] := .of (v := .nilFunc) (n := 1) (by kernel_rfl) rfl rfl
instance : TRow Tryz.prog 170 1 8 := .of (by kernel_rfl)
-- type 171: *errors.errorString
instance : TSize Tryz.prog 171 1 := .of (by kernel_rfl)
instance : TOne Tryz.prog 171 := .of (by kernel_rfl)
instance : TConcrete Tryz.prog 171 := .of (by kernel_rfl)
instance : TZero Tryz.prog 171 [.pointer none] := .of (v := .pointer none) (n := 1) (by kernel_rfl) rfl rfl
instance : TRow Tryz.prog 171 1 8 := .of (by kernel_rfl)
-- type 172: struct { s string }
instance : TSize Tryz.prog 172 1 := .of (by kernel_rfl)
instance : TAgg Tryz.prog 172 1 := .of (by kernel_rfl)
instance : TConcrete Tryz.prog 172 := .of (by kernel_rfl)
instance : TField Tryz.prog 172 0 0 := .of (by kernel_rfl)
instance : TStruct Tryz.prog 172 [(0, 1)] := .of (by kernel_rfl)
instance : TZero Tryz.prog 172 [.string ⟨#[]⟩] := .of (v := .agg #[.string ⟨#[]⟩]) (n := 1) (by kernel_rfl) rfl rfl
instance : TRow Tryz.prog 172 1 16 := .of (by kernel_rfl)
-- type 173: errors.errorString
instance : TSize Tryz.prog 173 1 := .of (by kernel_rfl)
instance : TAgg Tryz.prog 173 1 := .of (by kernel_rfl)
instance : TConcrete Tryz.prog 173 := .of (by kernel_rfl)
instance : TField Tryz.prog 173 0 0 := .of (by kernel_rfl)
instance : TStruct Tryz.prog 173 [(0, 1)] := .of (by kernel_rfl)
instance : TZero Tryz.prog 173 [.string ⟨#[]⟩] := .of (v := .agg #[.string ⟨#[]⟩]) (n := 1) (by kernel_rfl) rfl rfl
instance : TRow Tryz.prog 173 1 16 := .of (by kernel_rfl)
-- type 174: [32]uint8
instance : TSize Tryz.prog 174 32 := .of (by kernel_rfl)
instance : TAgg Tryz.prog 174 32 := .of (by kernel_rfl)
instance : TConcrete Tryz.prog 174 := .of (by kernel_rfl)
instance : TZero Tryz.prog 174 [.int .u8 0, .int .u8 0, .int .u8 0, .int .u8 0, .int .u8 0, .int .u8 0, .int .u8 0, .int .u8 0, .int .u8 0, .int .u8 0, .int .u8 0, .int .u8 0, .int .u8 0, .int .u8 0, .int .u8 0, .int .u8 0, .int .u8 0, .int .u8 0, .int .u8 0, .int .u8 0, .int .u8 0, .int .u8 0, .int .u8 0, .int .u8 0, .int .u8 0, .int .u8 0, .int .u8 0, .int .u8 0, .int .u8 0, .int .u8 0, .int .u8 0, .int .u8 0] := .of (v := .agg #[.int .u8 0, .int .u8 0, .int .u8 0, .int .u8 0, .int .u8 0, .int .u8 0, .int .u8 0, .int .u8 0, .int .u8 0, .int .u8 0, .int .u8 0, .int .u8 0, .int .u8 0, .int .u8 0, .int .u8 0, .int .u8 0, .int .u8 0, .int .u8 0, .int .u8 0, .int .u8 0, .int .u8 0, .int .u8 0, .int .u8 0, .int .u8 0, .int .u8 0, .int .u8 0, .int .u8 0, .int .u8 0, .int .u8 0, .int .u8 0, .int .u8 0, .int .u8 0]) (n := 32) (by kernel_rfl) rfl rfl
instance : TRow Tryz.prog 174 32 32 := .of (by kernel_rfl)
-- type 175: [64]uint8
instance : TSize Tryz.prog 175 64 := .of (by kernel_rfl)
instance : TAgg Tryz.prog 175 64 := .of (by kernel_rfl)
instance : TConcrete Tryz.prog 175 := .of (by kernel_rfl)
-- type 176: struct { _interface *abi.Type; concrete *abi.Type; asserted *abi.Type; missingMe
instance : TSize Tryz.prog 176 4 := .of (by kernel_rfl)
instance : TAgg Tryz.prog 176 4 := .of (by kernel_rfl)
instance : TConcrete Tryz.prog 176 := .of (by kernel_rfl)
instance : TField Tryz.prog 176 0 0 := .of (by kernel_rfl)
instance : TField Tryz.prog 176 1 1 := .of (by kernel_rfl)
instance : TField Tryz.prog 176 2 2 := .of (by kernel_rfl)
instance : TField Tryz.prog 176 3 3 := .of (by kernel_rfl)
instance : TStruct Tryz.prog 176 [(0, 1), (1, 1), (2, 1), (3, 1)] := .of (by kernel_rfl)
instance : TZero Tryz.prog 176 [.pointer none, .pointer none, .pointer none, .string ⟨#[]⟩] := .of (v := .agg #[.pointer none, .pointer none, .pointer none, .string ⟨#[]⟩]) (n := 4) (by kernel_rfl) rfl rfl
instance : TRow Tryz.prog 176 4 40 := .of (by kernel_rfl)
-- type 177: runtime.TypeAssertionError
instance : TSize Tryz.prog 177 4 := .of (by kernel_rfl)
instance : TAgg Tryz.prog 177 4 := .of (by kernel_rfl)
instance : TConcrete Tryz.prog 177 := .of (by kernel_rfl)
instance : TField Tryz.prog 177 0 0 := .of (by kernel_rfl)
instance : TField Tryz.prog 177 1 1 := .of (by kernel_rfl)
instance : TField Tryz.prog 177 2 2 := .of (by kernel_rfl)
instance : TField Tryz.prog 177 3 3 := .of (by kernel_rfl)
instance : TStruct Tryz.prog 177 [(0, 1), (1, 1), (2, 1), (3, 1)] := .of (by kernel_rfl)
instance : TZero Tryz.prog 177 [.pointer none, .pointer none, .pointer none, .string ⟨#[]⟩] := .of (v := .agg #[.pointer none, .pointer none, .pointer none, .string ⟨#[]⟩]) (n := 4) (by kernel_rfl) rfl rfl
instance : TRow Tryz.prog 177 4 40 := .of (by kernel_rfl)
-- type 178: [0]*runtime.PanicNilError
instance : TSize Tryz.prog 178 0 := .of (by kernel_rfl)
instance : TAgg Tryz.prog 178 0 := .of (by kernel_rfl)
instance : TConcrete Tryz.prog 178 := .of (by kernel_rfl)
instance : TZero Tryz.prog 178 [] := .of (v := .agg #[]) (n := 0) (by kernel_rfl) rfl rfl
-- type 179: struct { _ [0]*runtime.PanicNilError }
instance : TSize Tryz.prog 179 0 := .of (by kernel_rfl)
instance : TAgg Tryz.prog 179 0 := .of (by kernel_rfl)
instance : TConcrete Tryz.prog 179 := .of (by kernel_rfl)
instance : TStruct Tryz.prog 179 [(0, 0)] := .of (by kernel_rfl)
instance : TZero Tryz.prog 179 [] := .of (v := .agg #[]) (n := 0) (by kernel_rfl) rfl rfl
-- type 180: runtime.PanicNilError
instance : TSize Tryz.prog 180 0 := .of (by kernel_rfl)
instance : TAgg Tryz.prog 180 0 := .of (by kernel_rfl)
instance : TConcrete Tryz.prog 180 := .of (by kernel_rfl)
instance : TStruct Tryz.prog 180 [(0, 0)] := .of (by kernel_rfl)
instance : TZero Tryz.prog 180 [] := .of (v := .agg #[]) (n := 0) (by kernel_rfl) rfl rfl
-- type 181: abi.TFlag
instance : TSize Tryz.prog 181 1 := .of (by kernel_rfl)
instance : TOne Tryz.prog 181 := .of (by kernel_rfl)
instance : TKind Tryz.prog 181 .u8 := .of (by kernel_rfl)
instance : TConcrete Tryz.prog 181 := .of (by kernel_rfl)
instance : TZero Tryz.prog 181 [.int .u8 0] := .of (v := .int .u8 0) (n := 1) (by kernel_rfl) rfl rfl
instance : TRow Tryz.prog 181 1 1 := .of (by kernel_rfl)
-- type 182: abi.Kind
instance : TSize Tryz.prog 182 1 := .of (by kernel_rfl)
instance : TOne Tryz.prog 182 := .of (by kernel_rfl)
instance : TKind Tryz.prog 182 .u8 := .of (by kernel_rfl)
instance : TConcrete Tryz.prog 182 := .of (by kernel_rfl)
instance : TZero Tryz.prog 182 [.int .u8 0] := .of (v := .int .u8 0) (n := 1) (by kernel_rfl) rfl rfl
instance : TRow Tryz.prog 182 1 1 := .of (by kernel_rfl)
-- type 183: func(unsafe.Pointer, unsafe.Pointer) bool
instance : TSize Tryz.prog 183 1 := .of (by kernel_rfl)
instance : TOne Tryz.prog 183 := .of (by kernel_rfl)
instance : TConcrete Tryz.prog 183 := .of (by kernel_rfl)
instance : TZero Tryz.prog 183 [.nilFunc] := .of (v := .nilFunc) (n := 1) (by kernel_rfl) rfl rfl
instance : TRow Tryz.prog 183 1 8 := .of (by kernel_rfl)
-- type 184: abi.NameOff
instance : TSize Tryz.prog 184 1 := .of (by kernel_rfl)
instance : TOne Tryz.prog 184 := .of (by kernel_rfl)
instance : TKind Tryz.prog 184 .i32 := .of (by kernel_rfl)
instance : TConcrete Tryz.prog 184 := .of (by kernel_rfl)
instance : TZero Tryz.prog 184 [.int .i32 0] := .of (v := .int .i32 0) (n := 1) (by kernel_rfl) rfl rfl
instance : TRow Tryz.prog 184 1 4 := .of (by kernel_rfl)
-- type 185: abi.TypeOff
instance : TSize Tryz.prog 185 1 := .of (by kernel_rfl)
instance : TOne Tryz.prog 185 := .of (by kernel_rfl)
instance : TKind Tryz.prog 185 .i32 := .of (by kernel_rfl)
instance : TConcrete Tryz.prog 185 := .of (by kernel_rfl)
instance : TZero Tryz.prog 185 [.int .i32 0] := .of (v := .int .i32 0) (n := 1) (by kernel_rfl) rfl rfl
instance : TRow Tryz.prog 185 1 4 := .of (by kernel_rfl)
-- type 186: struct { Size_ uintptr; PtrBytes uintptr; Hash uint32; TFlag abi.TFlag; Align_ u
instance : TSize Tryz.prog 186 11 := .of (by kernel_rfl)
instance : TAgg Tryz.prog 186 11 := .of (by kernel_rfl)
instance : TConcrete Tryz.prog 186 := .of (by kernel_rfl)
instance : TField Tryz.prog 186 0 0 := .of (by kernel_rfl)
instance : TField Tryz.prog 186 1 1 := .of (by kernel_rfl)
instance : TField Tryz.prog 186 2 2 := .of (by kernel_rfl)
instance : TField Tryz.prog 186 3 3 := .of (by kernel_rfl)
instance : TField Tryz.prog 186 4 4 := .of (by kernel_rfl)
instance : TField Tryz.prog 186 5 5 := .of (by kernel_rfl)
instance : TField Tryz.prog 186 6 6 := .of (by kernel_rfl)
instance : TField Tryz.prog 186 7 7 := .of (by kernel_rfl)
instance : TField Tryz.prog 186 8 8 := .of (by kernel_rfl)
instance : TField Tryz.prog 186 9 9 := .of (by kernel_rfl)
instance : TField Tryz.prog 186 10 10 := .of (by kernel_rfl)
instance : TStruct Tryz.prog 186 [(0, 1), (1, 1), (2, 1), (3, 1), (4, 1), (5, 1), (6, 1), (7, 1), (8, 1), (9, 1), (10, 1)] := .of (by kernel_rfl)
instance : TZero Tryz.prog 186 [.int .u64 0, .int .u64 0, .int .u32 0, .int .u8 0, .int .u8 0, .int .u8 0, .int .u8 0, .nilFunc, .pointer none, .int .i32 0, .int .i32 0] := .of (v := .agg #[.int .u64 0, .int .u64 0, .int .u32 0, .int .u8 0, .int .u8 0, .int .u8 0, .int .u8 0, .nilFunc, .pointer none, .int .i32 0, .int .i32 0]) (n := 11) (by kernel_rfl) rfl rfl
instance : TRow Tryz.prog 186 11 48 := .of (by kernel_rfl)
-- type 187: abi.Type
instance : TSize Tryz.prog 187 11 := .of (by kernel_rfl)
instance : TAgg Tryz.prog 187 11 := .of (by kernel_rfl)
instance : TConcrete Tryz.prog 187 := .of (by kernel_rfl)
instance : TField Tryz.prog 187 0 0 := .of (by kernel_rfl)
instance : TField Tryz.prog 187 1 1 := .of (by kernel_rfl)
instance : TField Tryz.prog 187 2 2 := .of (by kernel_rfl)
instance : TField Tryz.prog 187 3 3 := .of (by kernel_rfl)
instance : TField Tryz.prog 187 4 4 := .of (by kernel_rfl)
instance : TField Tryz.prog 187 5 5 := .of (by kernel_rfl)
instance : TField Tryz.prog 187 6 6 := .of (by kernel_rfl)
instance : TField Tryz.prog 187 7 7 := .of (by kernel_rfl)
instance : TField Tryz.prog 187 8 8 := .of (by kernel_rfl)
instance : TField Tryz.prog 187 9 9 := .of (by kernel_rfl)
instance : TField Tryz.prog 187 10 10 := .of (by kernel_rfl)
instance : TStruct Tryz.prog 187 [(0, 1), (1, 1), (2, 1), (3, 1), (4, 1), (5, 1), (6, 1), (7, 1), (8, 1), (9, 1), (10, 1)] := .of (by kernel_rfl)
instance : TZero Tryz.prog 187 [.int .u64 0, .int .u64 0, .int .u32 0, .int .u8 0, .int .u8 0, .int .u8 0, .int .u8 0, .nilFunc, .pointer none, .int .i32 0, .int .i32 0] := .of (v := .agg #[.int .u64 0, .int .u64 0, .int .u32 0, .int .u8 0, .int .u8 0, .int .u8 0, .int .u8 0, .nilFunc, .pointer none, .int .i32 0, .int .i32 0]) (n := 11) (by kernel_rfl) rfl rfl
instance : TRow Tryz.prog 187 11 48 := .of (by kernel_rfl)
instance : TEnter Tryz.prog 3 := .of (by kernel_rfl)
instance : TEnter Tryz.prog 4 := .of (by kernel_rfl)
instance : TEnter Tryz.prog 5 := .of (by kernel_rfl)
instance : TEnter Tryz.prog 6 := .of (by kernel_rfl)
instance : TEnter Tryz.prog 7 := .of (by kernel_rfl)
instance : TEnter Tryz.prog 8 := .of (by kernel_rfl)
instance : TEnter Tryz.prog 9 := .of (by kernel_rfl)
instance : TEnter Tryz.prog 10 := .of (by kernel_rfl)
instance : TEnter Tryz.prog 11 := .of (by kernel_rfl)
instance : TEnter Tryz.prog 12 := .of (by kernel_rfl)
instance : TEnter Tryz.prog 13 := .of (by kernel_rfl)
instance : TEnter Tryz.prog 14 := .of (by kernel_rfl)
instance : TEnter Tryz.prog 15 := .of (by kernel_rfl)
instance : TEnter Tryz.prog 16 := .of (by kernel_rfl)
instance : TEnter Tryz.prog 17 := .of (by kernel_rfl)
instance : TEnter Tryz.prog 18 := .of (by kernel_rfl)
instance : TEnter Tryz.prog 19 := .of (by kernel_rfl)
instance : TEnter Tryz.prog 20 := .of (by kernel_rfl)
instance : TEnter Tryz.prog 21 := .of (by kernel_rfl)
instance : TEnter Tryz.prog 22 := .of (by kernel_rfl)
instance : TEnter Tryz.prog 23 := .of (by kernel_rfl)
instance : TEnter Tryz.prog 24 := .of (by kernel_rfl)
instance : TEnter Tryz.prog 25 := .of (by kernel_rfl)
instance : TEnter Tryz.prog 26 := .of (by kernel_rfl)
instance : TEnter Tryz.prog 27 := .of (by kernel_rfl)
instance : TEnter Tryz.prog 28 := .of (by kernel_rfl)
instance : TEnter Tryz.prog 29 := .of (by kernel_rfl)
instance : TEnter Tryz.prog 30 := .of (by kernel_rfl)
instance : TEnter Tryz.prog 31 := .of (by kernel_rfl)
instance : TEnter Tryz.prog 32 := .of (by kernel_rfl)
instance : TEnter Tryz.prog 33 := .of (by kernel_rfl)
instance : TEnter Tryz.prog 34 := .of (by kernel_rfl)
instance : TEnter Tryz.prog 35 := .of (by kernel_rfl)
instance : TEnter Tryz.prog 36 := .of (by kernel_rfl)
instance : TEnter Tryz.prog 37 := .of (by kernel_rfl)
instance : TEnter Tryz.prog 38 := .of (by kernel_rfl)
instance : TEnter Tryz.prog 39 := .of (by kernel_rfl)
instance : TEnter Tryz.prog 40 := .of (by kernel_rfl)
instance : TEnter Tryz.prog 41 := .of (by kernel_rfl)
instance : TEnter Tryz.prog 42 := .of (by kernel_rfl)
instance : TEnter Tryz.prog 43 := .of (by kernel_rfl)
instance : TEnter Tryz.prog 44 := .of (by kernel_rfl)
instance : TEnter Tryz.prog 45 := .of (by kernel_rfl)
instance : TEnter Tryz.prog 46 := .of (by kernel_rfl)
instance : TEnter Tryz.prog 47 := .of (by kernel_rfl)
instance : TEnter Tryz.prog 48 := .of (by kernel_rfl)
instance : TEnter Tryz.prog 49 := .of (by kernel_rfl)
instance : TEnter Tryz.prog 50 := .of (by kernel_rfl)
instance : TEnter Tryz.prog 51 := .of (by kernel_rfl)
instance : TEnter Tryz.prog 52 := .of (by kernel_rfl)
instance : TEnter Tryz.prog 53 := .of (by kernel_rfl)
instance : TEnter Tryz.prog 54 := .of (by kernel_rfl)
instance : TEnter Tryz.prog 55 := .of (by kernel_rfl)
instance : TEnter Tryz.prog 56 := .of (by kernel_rfl)
instance : TEnter Tryz.prog 57 := .of (by kernel_rfl)
instance : TEnter Tryz.prog 58 := .of (by kernel_rfl)
instance : TEnter Tryz.prog 59 := .of (by kernel_rfl)
instance : TEnter Tryz.prog 60 := .of (by kernel_rfl)
instance : TEnter Tryz.prog 61 := .of (by kernel_rfl)
instance : TEnter Tryz.prog 62 := .of (by kernel_rfl)
instance : TEnter Tryz.prog 63 := .of (by kernel_rfl)
instance : TEnter Tryz.prog 64 := .of (by kernel_rfl)
instance : TEnter Tryz.prog 65 := .of (by kernel_rfl)
instance : TEnter Tryz.prog 66 := .of (by kernel_rfl)
instance : TEnter Tryz.prog 67 := .of (by kernel_rfl)
instance : TEnter Tryz.prog 68 := .of (by kernel_rfl)
instance : TEnter Tryz.prog 69 := .of (by kernel_rfl)
instance : TEnter Tryz.prog 70 := .of (by kernel_rfl)
instance : TEnter Tryz.prog 71 := .of (by kernel_rfl)
instance : TEnter Tryz.prog 72 := .of (by kernel_rfl)
instance : TEnter Tryz.prog 73 := .of (by kernel_rfl)
instance : TEnter Tryz.prog 74 := .of (by kernel_rfl)
instance : TEnter Tryz.prog 75 := .of (by kernel_rfl)
instance : TEnter Tryz.prog 76 := .of (by kernel_rfl)
instance : TEnter Tryz.prog 77 := .of (by kernel_rfl)
instance : TEnter Tryz.prog 78 := .of (by kernel_rfl)
instance : TEnter Tryz.prog 79 := .of (by kernel_rfl)
instance : TEnter Tryz.prog 80 := .of (by kernel_rfl)
instance : TEnter Tryz.prog 82 := .of (by kernel_rfl)
instance : TEnter Tryz.prog 83 := .of (by kernel_rfl)
instance : TEnter Tryz.prog 84 := .of (by kernel_rfl)
instance : TEnter Tryz.prog 85 := .of (by kernel_rfl)
instance : TEnter Tryz.prog 86 := .of (by kernel_rfl)
instance : TEnter Tryz.prog 87 := .of (by kernel_rfl)
instance : TEnter Tryz.prog 88 := .of (by kernel_rfl)
instance : TEnter Tryz.prog 89 := .of (by kernel_rfl)
instance : TEnter Tryz.prog 90 := .of (by kernel_rfl)
instance : TEnter Tryz.prog 91 := .of (by kernel_rfl)
instance : TEnter Tryz.prog 92 := .of (by kernel_rfl)
instance : TEnter Tryz.prog 93 := .of (by kernel_rfl)
instance : TEnter Tryz.prog 94 := .of (by kernel_rfl)
instance : TEnter Tryz.prog 95 := .of (by kernel_rfl)
instance : TEnter Tryz.prog 96 := .of (by kernel_rfl)
instance : TEnter Tryz.prog 97 := .of (by kernel_rfl)
instance : TEnter Tryz.prog 98 := .of (by kernel_rfl)
instance : TEnter Tryz.prog 99 := .of (by kernel_rfl)
instance : TEnter Tryz.prog 100 := .of (by kernel_rfl)
instance : TEnter Tryz.prog 101 := .of (by kernel_rfl)
instance : TEnter Tryz.prog 102 := .of (by kernel_rfl)
instance : TEnter Tryz.prog 103 := .of (by kernel_rfl)
instance : TEnter Tryz.prog 104 := .of (by kernel_rfl)
instance : TEnter Tryz.prog 105 := .of (by kernel_rfl)
instance : TEnter Tryz.prog 106 := .of (by kernel_rfl)
instance : TEnter Tryz.prog 107 := .of (by kernel_rfl)
instance : TEnter Tryz.prog 108 := .of (by kernel_rfl)
instance : TEnter Tryz.prog 109 := .of (by kernel_rfl)
instance : TEnter Tryz.prog 110 := .of (by kernel_rfl)
instance : TEnter Tryz.prog 111 := .of (by kernel_rfl)
instance : TEnter Tryz.prog 112 := .of (by kernel_rfl)
instance : TEnter Tryz.prog 113 := .of (by kernel_rfl)
instance : TEnter Tryz.prog 114 := .of (by kernel_rfl)
instance : TEnter Tryz.prog 117 := .of (by kernel_rfl)
instance : TEnter Tryz.prog 118 := .of (by kernel_rfl)
instance : TEnter Tryz.prog 119 := .of (by kernel_rfl)
instance : TEnter Tryz.prog 120 := .of (by kernel_rfl)
instance : TEnter Tryz.prog 121 := .of (by kernel_rfl)
instance : TEnter Tryz.prog 122 := .of (by kernel_rfl)
instance : TEnter Tryz.prog 123 := .of (by kernel_rfl)
instance : TEnter Tryz.prog 124 := .of (by kernel_rfl)
instance : TEnter Tryz.prog 125 := .of (by kernel_rfl)
instance : TEnter Tryz.prog 126 := .of (by kernel_rfl)
instance : TEnter Tryz.prog 127 := .of (by kernel_rfl)
instance : TEnter Tryz.prog 128 := .of (by kernel_rfl)
instance : TEnter Tryz.prog 129 := .of (by kernel_rfl)
instance : TEnter Tryz.prog 130 := .of (by kernel_rfl)
instance : TEnter Tryz.prog 131 := .of (by kernel_rfl)
instance : TEnter Tryz.prog 132 := .of (by kernel_rfl)
instance : TEnter Tryz.prog 133 := .of (by kernel_rfl)
instance : TEnter Tryz.prog 135 := .of (by kernel_rfl)
instance : TEnter Tryz.prog 136 := .of (by kernel_rfl)
instance : TEnter Tryz.prog 137 := .of (by kernel_rfl)
instance : TEnter Tryz.prog 138 := .of (by kernel_rfl)
instance : TEnter Tryz.prog 139 := .of (by kernel_rfl)
instance : TEnter Tryz.prog 140 := .of (by kernel_rfl)
instance : TEnter Tryz.prog 141 := .of (by kernel_rfl)
instance : TEnter Tryz.prog 142 := .of (by kernel_rfl)
instance : TEnter Tryz.prog 143 := .of (by kernel_rfl)
instance : TEnter Tryz.prog 144 := .of (by kernel_rfl)
instance : TEnter Tryz.prog 145 := .of (by kernel_rfl)
instance : TEnter Tryz.prog 146 := .of (by kernel_rfl)
instance : TEnter Tryz.prog 147 := .of (by kernel_rfl)
instance : TEnter Tryz.prog 148 := .of (by kernel_rfl)
instance : TEnter Tryz.prog 149 := .of (by kernel_rfl)
instance : TEnter Tryz.prog 150 := .of (by kernel_rfl)
instance : TEnter Tryz.prog 151 := .of (by kernel_rfl)
instance : TEnter Tryz.prog 152 := .of (by kernel_rfl)
instance : TEnter Tryz.prog 153 := .of (by kernel_rfl)
instance : TEnter Tryz.prog 154 := .of (by kernel_rfl)
instance : TEnter Tryz.prog 155 := .of (by kernel_rfl)
instance : TEnter Tryz.prog 157 := .of (by kernel_rfl)
instance : TEnter Tryz.prog 158 := .of (by kernel_rfl)
instance : TEnter Tryz.prog 159 := .of (by kernel_rfl)
instance : TEnter Tryz.prog 160 := .of (by kernel_rfl)
instance : TEnter Tryz.prog 161 := .of (by kernel_rfl)
instance : TEnter Tryz.prog 162 := .of (by kernel_rfl)
instance : TEnter Tryz.prog 163 := .of (by kernel_rfl)
instance : TEnter Tryz.prog 164 := .of (by kernel_rfl)
instance : TEnter Tryz.prog 165 := .of (by kernel_rfl)
instance : TEnter Tryz.prog 166 := .of (by kernel_rfl)
instance : TEnter Tryz.prog 167 := .of (by kernel_rfl)
instance : TEnter Tryz.prog 168 := .of (by kernel_rfl)
instance : TEnter Tryz.prog 169 := .of (by kernel_rfl)
instance : TEnter Tryz.prog 170 := .of (by kernel_rfl)
instance : TEnter Tryz.prog 171 := .of (by kernel_rfl)
instance : TEnter Tryz.prog 172 := .of (by kernel_rfl)
instance : TEnter Tryz.prog 173 := .of (by kernel_rfl)
instance : TEnter Tryz.prog 174 := .of (by kernel_rfl)
instance : TEnter Tryz.prog 175 := .of (by kernel_rfl)
instance : TEnter Tryz.prog 176 := .of (by kernel_rfl)
end Go.Proofs.YtfodkbchknknjaaGreatDoor
