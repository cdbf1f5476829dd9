/- What the laws of the small logic ask of this translation's types and functions: closed facts, each by the kernel; written by a program. -/
import Derived.Test.YtfodkbchknknjaaDoorGlRules
import Derived.Test.YtfodkbchknknjaaDoorProg
namespace Go.Proofs.YtfodkbchknknjaaDoor
open Go.GL
set_option maxRecDepth 100000
instance : TMixed Tryd.prog := ⟨by kernel_rfl⟩
-- type 1: func()
instance : TSize Tryd.prog 1 1 := .of (by kernel_rfl)
instance : TOne Tryd.prog 1 := .of (by kernel_rfl)
instance : TConcrete Tryd.prog 1 := .of (by kernel_rfl)
instance : TZero Tryd.prog 1 [.nilFunc] := .of (v := .nilFunc) (n := 1) (by kernel_rfl) rfl rfl
instance : TRow Tryd.prog 1 1 8 := .of (by kernel_rfl)
-- type 2: int64
instance : TSize Tryd.prog 2 1 := .of (by kernel_rfl)
instance : TOne Tryd.prog 2 := .of (by kernel_rfl)
instance : TKind Tryd.prog 2 .i64 := .of (by kernel_rfl)
instance : TConcrete Tryd.prog 2 := .of (by kernel_rfl)
instance : TZero Tryd.prog 2 [.int .i64 0] := .of (v := .int .i64 0) (n := 1) (by kernel_rfl) rfl rfl
instance : TRow Tryd.prog 2 1 8 := .of (by kernel_rfl)
-- type 3: int
instance : TSize Tryd.prog 3 1 := .of (by kernel_rfl)
instance : TOne Tryd.prog 3 := .of (by kernel_rfl)
instance : TKind Tryd.prog 3 .i64 := .of (by kernel_rfl)
instance : TConcrete Tryd.prog 3 := .of (by kernel_rfl)
instance : TZero Tryd.prog 3 [.int .i64 0] := .of (v := .int .i64 0) (n := 1) (by kernel_rfl) rfl rfl
instance : TRow Tryd.prog 3 1 8 := .of (by kernel_rfl)
-- type 4: bool
instance : TSize Tryd.prog 4 1 := .of (by kernel_rfl)
instance : TOne Tryd.prog 4 := .of (by kernel_rfl)
instance : TConcrete Tryd.prog 4 := .of (by kernel_rfl)
instance : TZero Tryd.prog 4 [.bool false] := .of (v := .bool false) (n := 1) (by kernel_rfl) rfl rfl
instance : TRow Tryd.prog 4 1 1 := .of (by kernel_rfl)
-- type 5: uint8
instance : TSize Tryd.prog 5 1 := .of (by kernel_rfl)
instance : TOne Tryd.prog 5 := .of (by kernel_rfl)
instance : TKind Tryd.prog 5 .u8 := .of (by kernel_rfl)
instance : TConcrete Tryd.prog 5 := .of (by kernel_rfl)
instance : TZero Tryd.prog 5 [.int .u8 0] := .of (v := .int .u8 0) (n := 1) (by kernel_rfl) rfl rfl
instance : TRow Tryd.prog 5 1 1 := .of (by kernel_rfl)
-- type 6: abi.BoundsErrorCode
instance : TSize Tryd.prog 6 1 := .of (by kernel_rfl)
instance : TOne Tryd.prog 6 := .of (by kernel_rfl)
instance : TKind Tryd.prog 6 .u8 := .of (by kernel_rfl)
instance : TConcrete Tryd.prog 6 := .of (by kernel_rfl)
instance : TZero Tryd.prog 6 [.int .u8 0] := .of (v := .int .u8 0) (n := 1) (by kernel_rfl) rfl rfl
instance : TRow Tryd.prog 6 1 1 := .of (by kernel_rfl)
-- type 7: struct { x int64; y int; signed bool; code abi.BoundsErrorCode }
instance : TSize Tryd.prog 7 4 := .of (by kernel_rfl)
instance : TAgg Tryd.prog 7 4 := .of (by kernel_rfl)
instance : TConcrete Tryd.prog 7 := .of (by kernel_rfl)
instance : TField Tryd.prog 7 0 0 := .of (by kernel_rfl)
instance : TField Tryd.prog 7 1 1 := .of (by kernel_rfl)
instance : TField Tryd.prog 7 2 2 := .of (by kernel_rfl)
instance : TField Tryd.prog 7 3 3 := .of (by kernel_rfl)
instance : TStruct Tryd.prog 7 [(0, 1), (1, 1), (2, 1), (3, 1)] := .of (by kernel_rfl)
instance : TZero Tryd.prog 7 [.int .i64 0, .int .i64 0, .bool false, .int .u8 0] := .of (v := .agg #[.int .i64 0, .int .i64 0, .bool false, .int .u8 0]) (n := 4) (by kernel_rfl) rfl rfl
instance : TRow Tryd.prog 7 4 24 := .of (by kernel_rfl)
-- type 8: runtime.boundsError
instance : TSize Tryd.prog 8 4 := .of (by kernel_rfl)
instance : TAgg Tryd.prog 8 4 := .of (by kernel_rfl)
instance : TConcrete Tryd.prog 8 := .of (by kernel_rfl)
instance : TField Tryd.prog 8 0 0 := .of (by kernel_rfl)
instance : TField Tryd.prog 8 1 1 := .of (by kernel_rfl)
instance : TField Tryd.prog 8 2 2 := .of (by kernel_rfl)
instance : TField Tryd.prog 8 3 3 := .of (by kernel_rfl)
instance : TStruct Tryd.prog 8 [(0, 1), (1, 1), (2, 1), (3, 1)] := .of (by kernel_rfl)
instance : TZero Tryd.prog 8 [.int .i64 0, .int .i64 0, .bool false, .int .u8 0] := .of (v := .agg #[.int .i64 0, .int .i64 0, .bool false, .int .u8 0]) (n := 4) (by kernel_rfl) rfl rfl
instance : TRow Tryd.prog 8 4 24 := .of (by kernel_rfl)
-- type 9: string
instance : TSize Tryd.prog 9 1 := .of (by kernel_rfl)
instance : TOne Tryd.prog 9 := .of (by kernel_rfl)
instance : TStr Tryd.prog 9 := .of (by kernel_rfl)
instance : TConcrete Tryd.prog 9 := .of (by kernel_rfl)
instance : TZero Tryd.prog 9 [.string ⟨#[]⟩] := .of (v := .string ⟨#[]⟩) (n := 1) (by kernel_rfl) rfl rfl
instance : TRow Tryd.prog 9 1 16 := .of (by kernel_rfl)
-- type 10: runtime.errorString
instance : TSize Tryd.prog 10 1 := .of (by kernel_rfl)
instance : TOne Tryd.prog 10 := .of (by kernel_rfl)
instance : TStr Tryd.prog 10 := .of (by kernel_rfl)
instance : TConcrete Tryd.prog 10 := .of (by kernel_rfl)
instance : TZero Tryd.prog 10 [.string ⟨#[]⟩] := .of (v := .string ⟨#[]⟩) (n := 1) (by kernel_rfl) rfl rfl
instance : TRow Tryd.prog 10 1 16 := .of (by kernel_rfl)
-- type 11: runtime.plainError
instance : TSize Tryd.prog 11 1 := .of (by kernel_rfl)
instance : TOne Tryd.prog 11 := .of (by kernel_rfl)
instance : TStr Tryd.prog 11 := .of (by kernel_rfl)
instance : TConcrete Tryd.prog 11 := .of (by kernel_rfl)
instance : TZero Tryd.prog 11 [.string ⟨#[]⟩] := .of (v := .string ⟨#[]⟩) (n := 1) (by kernel_rfl) rfl rfl
instance : TRow Tryd.prog 11 1 16 := .of (by kernel_rfl)
-- type 12: uintptr
instance : TSize Tryd.prog 12 1 := .of (by kernel_rfl)
instance : TOne Tryd.prog 12 := .of (by kernel_rfl)
instance : TKind Tryd.prog 12 .u64 := .of (by kernel_rfl)
instance : TConcrete Tryd.prog 12 := .of (by kernel_rfl)
instance : TZero Tryd.prog 12 [.int .u64 0] := .of (v := .int .u64 0) (n := 1) (by kernel_rfl) rfl rfl
instance : TRow Tryd.prog 12 1 8 := .of (by kernel_rfl)
-- type 13: struct { msg string; addr uintptr }
instance : TSize Tryd.prog 13 2 := .of (by kernel_rfl)
instance : TAgg Tryd.prog 13 2 := .of (by kernel_rfl)
instance : TConcrete Tryd.prog 13 := .of (by kernel_rfl)
instance : TField Tryd.prog 13 0 0 := .of (by kernel_rfl)
instance : TField Tryd.prog 13 1 1 := .of (by kernel_rfl)
instance : TStruct Tryd.prog 13 [(0, 1), (1, 1)] := .of (by kernel_rfl)
instance : TZero Tryd.prog 13 [.string ⟨#[]⟩, .int .u64 0] := .of (v := .agg #[.string ⟨#[]⟩, .int .u64 0]) (n := 2) (by kernel_rfl) rfl rfl
instance : TRow Tryd.prog 13 2 24 := .of (by kernel_rfl)
-- type 14: runtime.errorAddressString
instance : TSize Tryd.prog 14 2 := .of (by kernel_rfl)
instance : TAgg Tryd.prog 14 2 := .of (by kernel_rfl)
instance : TConcrete Tryd.prog 14 := .of (by kernel_rfl)
instance : TField Tryd.prog 14 0 0 := .of (by kernel_rfl)
instance : TField Tryd.prog 14 1 1 := .of (by kernel_rfl)
instance : TStruct Tryd.prog 14 [(0, 1), (1, 1)] := .of (by kernel_rfl)
instance : TZero Tryd.prog 14 [.string ⟨#[]⟩, .int .u64 0] := .of (v := .agg #[.string ⟨#[]⟩, .int .u64 0]) (n := 2) (by kernel_rfl) rfl rfl
instance : TRow Tryd.prog 14 2 24 := .of (by kernel_rfl)
-- type 15: *runtime.TypeAssertionError
instance : TSize Tryd.prog 15 1 := .of (by kernel_rfl)
instance : TOne Tryd.prog 15 := .of (by kernel_rfl)
instance : TConcrete Tryd.prog 15 := .of (by kernel_rfl)
instance : TZero Tryd.prog 15 [.pointer none] := .of (v := .pointer none) (n := 1) (by kernel_rfl) rfl rfl
instance : TRow Tryd.prog 15 1 8 := .of (by kernel_rfl)
-- type 16: *runtime.PanicNilError
instance : TSize Tryd.prog 16 1 := .of (by kernel_rfl)
instance : TOne Tryd.prog 16 := .of (by kernel_rfl)
instance : TConcrete Tryd.prog 16 := .of (by kernel_rfl)
instance : TZero Tryd.prog 16 [.pointer none] := .of (v := .pointer none) (n := 1) (by kernel_rfl) rfl rfl
instance : TRow Tryd.prog 16 1 8 := .of (by kernel_rfl)
-- type 17: *abi.Type
instance : TSize Tryd.prog 17 1 := .of (by kernel_rfl)
instance : TOne Tryd.prog 17 := .of (by kernel_rfl)
instance : TConcrete Tryd.prog 17 := .of (by kernel_rfl)
instance : TZero Tryd.prog 17 [.pointer none] := .of (v := .pointer none) (n := 1) (by kernel_rfl) rfl rfl
instance : TRow Tryd.prog 17 1 8 := .of (by kernel_rfl)
-- type 18: struct { typ *abi.Type }
instance : TSize Tryd.prog 18 1 := .of (by kernel_rfl)
instance : TAgg Tryd.prog 18 1 := .of (by kernel_rfl)
instance : TConcrete Tryd.prog 18 := .of (by kernel_rfl)
instance : TField Tryd.prog 18 0 0 := .of (by kernel_rfl)
instance : TStruct Tryd.prog 18 [(0, 1)] := .of (by kernel_rfl)
instance : TZero Tryd.prog 18 [.pointer none] := .of (v := .agg #[.pointer none]) (n := 1) (by kernel_rfl) rfl rfl
instance : TRow Tryd.prog 18 1 8 := .of (by kernel_rfl)
-- type 19: maps.unhashableTypeError
instance : TSize Tryd.prog 19 1 := .of (by kernel_rfl)
instance : TAgg Tryd.prog 19 1 := .of (by kernel_rfl)
instance : TConcrete Tryd.prog 19 := .of (by kernel_rfl)
instance : TField Tryd.prog 19 0 0 := .of (by kernel_rfl)
instance : TStruct Tryd.prog 19 [(0, 1)] := .of (by kernel_rfl)
instance : TZero Tryd.prog 19 [.pointer none] := .of (v := .agg #[.pointer none]) (n := 1) (by kernel_rfl) rfl rfl
instance : TRow Tryd.prog 19 1 8 := .of (by kernel_rfl)
-- type 20: interface {}
instance : TSize Tryd.prog 20 1 := .of (by kernel_rfl)
instance : TOne Tryd.prog 20 := .of (by kernel_rfl)
instance : TZero Tryd.prog 20 [.nilIface] := .of (v := .nilIface) (n := 1) (by kernel_rfl) rfl rfl
instance : TRow Tryd.prog 20 1 16 := .of (by kernel_rfl)
-- type 21: int32
instance : TSize Tryd.prog 21 1 := .of (by kernel_rfl)
instance : TOne Tryd.prog 21 := .of (by kernel_rfl)
instance : TKind Tryd.prog 21 .i32 := .of (by kernel_rfl)
instance : TConcrete Tryd.prog 21 := .of (by kernel_rfl)
instance : TZero Tryd.prog 21 [.int .i32 0] := .of (v := .int .i32 0) (n := 1) (by kernel_rfl) rfl rfl
instance : TRow Tryd.prog 21 1 4 := .of (by kernel_rfl)
-- type 22: [13]uint8
instance : TSize Tryd.prog 22 13 := .of (by kernel_rfl)
instance : TAgg Tryd.prog 22 13 := .of (by kernel_rfl)
instance : TConcrete Tryd.prog 22 := .of (by kernel_rfl)
instance : TZero Tryd.prog 22 [.int .u8 0, .int .u8 0, .int .u8 0, .int .u8 0, .int .u8 0, .int .u8 0, .int .u8 0, .int .u8 0, .int .u8 0, .int .u8 0, .int .u8 0, .int .u8 0, .int .u8 0] := .of (v := .agg #[.int .u8 0, .int .u8 0, .int .u8 0, .int .u8 0, .int .u8 0, .int .u8 0, .int .u8 0, .int .u8 0, .int .u8 0, .int .u8 0, .int .u8 0, .int .u8 0, .int .u8 0]) (n := 13) (by kernel_rfl) rfl rfl
instance : TRow Tryd.prog 22 13 13 := .of (by kernel_rfl)
-- type 23: func() bool
instance : TSize Tryd.prog 23 1 := .of (by kernel_rfl)
instance : TOne Tryd.prog 23 := .of (by kernel_rfl)
instance : TConcrete Tryd.prog 23 := .of (by kernel_rfl)
instance : TZero Tryd.prog 23 [.nilFunc] := .of (v := .nilFunc) (n := 1) (by kernel_rfl) rfl rfl
instance : TRow Tryd.prog 23 1 8 := .of (by kernel_rfl)
-- type 24: uint
instance : TSize Tryd.prog 24 1 := .of (by kernel_rfl)
instance : TOne Tryd.prog 24 := .of (by kernel_rfl)
instance : TKind Tryd.prog 24 .u64 := .of (by kernel_rfl)
instance : TConcrete Tryd.prog 24 := .of (by kernel_rfl)
instance : TZero Tryd.prog 24 [.int .u64 0] := .of (v := .int .u64 0) (n := 1) (by kernel_rfl) rfl rfl
instance : TRow Tryd.prog 24 1 8 := .of (by kernel_rfl)
-- type 25: []string
instance : TSize Tryd.prog 25 1 := .of (by kernel_rfl)
instance : TOne Tryd.prog 25 := .of (by kernel_rfl)
instance : TSlice Tryd.prog 25 9 1 := .of (by kernel_rfl)
instance : TConcrete Tryd.prog 25 := .of (by kernel_rfl)
instance : TZero Tryd.prog 25 [.slice none 0 0] := .of (v := .slice none 0 0) (n := 1) (by kernel_rfl) rfl rfl
instance : TRow Tryd.prog 25 1 24 := .of (by kernel_rfl)
-- type 26: []api.Array
instance : TSize Tryd.prog 26 1 := .of (by kernel_rfl)
instance : TOne Tryd.prog 26 := .of (by kernel_rfl)
instance : TSlice Tryd.prog 26 60 2 := .of (by kernel_rfl)
instance : TConcrete Tryd.prog 26 := .of (by kernel_rfl)
instance : TZero Tryd.prog 26 [.slice none 0 0] := .of (v := .slice none 0 0) (n := 1) (by kernel_rfl) rfl rfl
instance : TRow Tryd.prog 26 1 24 := .of (by kernel_rfl)
-- type 27: []api.Func
instance : TSize Tryd.prog 27 1 := .of (by kernel_rfl)
instance : TOne Tryd.prog 27 := .of (by kernel_rfl)
instance : TSlice Tryd.prog 27 57 4 := .of (by kernel_rfl)
instance : TConcrete Tryd.prog 27 := .of (by kernel_rfl)
instance : TZero Tryd.prog 27 [.slice none 0 0] := .of (v := .slice none 0 0) (n := 1) (by kernel_rfl) rfl rfl
instance : TRow Tryd.prog 27 1 24 := .of (by kernel_rfl)
-- type 28: struct { Vars []string; Arrays []api.Array; Funcs []api.Func }
instance : TSize Tryd.prog 28 3 := .of (by kernel_rfl)
instance : TAgg Tryd.prog 28 3 := .of (by kernel_rfl)
instance : TConcrete Tryd.prog 28 := .of (by kernel_rfl)
instance : TField Tryd.prog 28 0 0 := .of (by kernel_rfl)
instance : TField Tryd.prog 28 1 1 := .of (by kernel_rfl)
instance : TField Tryd.prog 28 2 2 := .of (by kernel_rfl)
instance : TStruct Tryd.prog 28 [(0, 1), (1, 1), (2, 1)] := .of (by kernel_rfl)
instance : TZero Tryd.prog 28 [.slice none 0 0, .slice none 0 0, .slice none 0 0] := .of (v := .agg #[.slice none 0 0, .slice none 0 0, .slice none 0 0]) (n := 3) (by kernel_rfl) rfl rfl
instance : TRow Tryd.prog 28 3 72 := .of (by kernel_rfl)
-- type 29: api.Program
instance : TSize Tryd.prog 29 3 := .of (by kernel_rfl)
instance : TAgg Tryd.prog 29 3 := .of (by kernel_rfl)
instance : TConcrete Tryd.prog 29 := .of (by kernel_rfl)
instance : TField Tryd.prog 29 0 0 := .of (by kernel_rfl)
instance : TField Tryd.prog 29 1 1 := .of (by kernel_rfl)
instance : TField Tryd.prog 29 2 2 := .of (by kernel_rfl)
instance : TStruct Tryd.prog 29 [(0, 1), (1, 1), (2, 1)] := .of (by kernel_rfl)
instance : TZero Tryd.prog 29 [.slice none 0 0, .slice none 0 0, .slice none 0 0] := .of (v := .agg #[.slice none 0 0, .slice none 0 0, .slice none 0 0]) (n := 3) (by kernel_rfl) rfl rfl
instance : TRow Tryd.prog 29 3 72 := .of (by kernel_rfl)
-- type 30: api.Errno
instance : TSize Tryd.prog 30 1 := .of (by kernel_rfl)
instance : TOne Tryd.prog 30 := .of (by kernel_rfl)
instance : TKind Tryd.prog 30 .i64 := .of (by kernel_rfl)
instance : TConcrete Tryd.prog 30 := .of (by kernel_rfl)
instance : TZero Tryd.prog 30 [.int .i64 0] := .of (v := .int .i64 0) (n := 1) (by kernel_rfl) rfl rfl
instance : TRow Tryd.prog 30 1 8 := .of (by kernel_rfl)
-- type 32: func(string) (api.Program, int, api.Errno)
instance : TSize Tryd.prog 32 1 := .of (by kernel_rfl)
instance : TOne Tryd.prog 32 := .of (by kernel_rfl)
instance : TConcrete Tryd.prog 32 := .of (by kernel_rfl)
instance : TZero Tryd.prog 32 [.nilFunc] := .of (v := .nilFunc) (n := 1) (by kernel_rfl) rfl rfl
instance : TRow Tryd.prog 32 1 8 := .of (by kernel_rfl)
-- type 33: func(string) string
instance : TSize Tryd.prog 33 1 := .of (by kernel_rfl)
instance : TOne Tryd.prog 33 := .of (by kernel_rfl)
instance : TConcrete Tryd.prog 33 := .of (by kernel_rfl)
instance : TZero Tryd.prog 33 [.nilFunc] := .of (v := .nilFunc) (n := 1) (by kernel_rfl) rfl rfl
instance : TRow Tryd.prog 33 1 8 := .of (by kernel_rfl)
-- type 34: func([13]uint8, bool) bool
instance : TSize Tryd.prog 34 1 := .of (by kernel_rfl)
instance : TOne Tryd.prog 34 := .of (by kernel_rfl)
instance : TConcrete Tryd.prog 34 := .of (by kernel_rfl)
instance : TZero Tryd.prog 34 [.nilFunc] := .of (v := .nilFunc) (n := 1) (by kernel_rfl) rfl rfl
instance : TRow Tryd.prog 34 1 8 := .of (by kernel_rfl)
-- type 35: func(api.Expr) api.Program
instance : TSize Tryd.prog 35 1 := .of (by kernel_rfl)
instance : TOne Tryd.prog 35 := .of (by kernel_rfl)
instance : TConcrete Tryd.prog 35 := .of (by kernel_rfl)
instance : TZero Tryd.prog 35 [.nilFunc] := .of (v := .nilFunc) (n := 1) (by kernel_rfl) rfl rfl
instance : TRow Tryd.prog 35 1 8 := .of (by kernel_rfl)
-- type 36: uint32
instance : TSize Tryd.prog 36 1 := .of (by kernel_rfl)
instance : TOne Tryd.prog 36 := .of (by kernel_rfl)
instance : TKind Tryd.prog 36 .u32 := .of (by kernel_rfl)
instance : TConcrete Tryd.prog 36 := .of (by kernel_rfl)
instance : TZero Tryd.prog 36 [.int .u32 0] := .of (v := .int .u32 0) (n := 1) (by kernel_rfl) rfl rfl
instance : TRow Tryd.prog 36 1 4 := .of (by kernel_rfl)
-- type 37: []api.Expr
instance : TSize Tryd.prog 37 1 := .of (by kernel_rfl)
instance : TOne Tryd.prog 37 := .of (by kernel_rfl)
instance : TSlice Tryd.prog 37 39 4 := .of (by kernel_rfl)
instance : TConcrete Tryd.prog 37 := .of (by kernel_rfl)
instance : TZero Tryd.prog 37 [.slice none 0 0] := .of (v := .slice none 0 0) (n := 1) (by kernel_rfl) rfl rfl
instance : TRow Tryd.prog 37 1 24 := .of (by kernel_rfl)
-- type 38: struct { Op string; Num uint32; Name string; Args []api.Expr }
instance : TSize Tryd.prog 38 4 := .of (by kernel_rfl)
instance : TAgg Tryd.prog 38 4 := .of (by kernel_rfl)
instance : TConcrete Tryd.prog 38 := .of (by kernel_rfl)
instance : TField Tryd.prog 38 0 0 := .of (by kernel_rfl)
instance : TField Tryd.prog 38 1 1 := .of (by kernel_rfl)
instance : TField Tryd.prog 38 2 2 := .of (by kernel_rfl)
instance : TField Tryd.prog 38 3 3 := .of (by kernel_rfl)
instance : TStruct Tryd.prog 38 [(0, 1), (1, 1), (2, 1), (3, 1)] := .of (by kernel_rfl)
instance : TZero Tryd.prog 38 [.string ⟨#[]⟩, .int .u32 0, .string ⟨#[]⟩, .slice none 0 0] := .of (v := .agg #[.string ⟨#[]⟩, .int .u32 0, .string ⟨#[]⟩, .slice none 0 0]) (n := 4) (by kernel_rfl) rfl rfl
instance : TRow Tryd.prog 38 4 64 := .of (by kernel_rfl)
-- type 39: api.Expr
instance : TSize Tryd.prog 39 4 := .of (by kernel_rfl)
instance : TAgg Tryd.prog 39 4 := .of (by kernel_rfl)
instance : TConcrete Tryd.prog 39 := .of (by kernel_rfl)
instance : TField Tryd.prog 39 0 0 := .of (by kernel_rfl)
instance : TField Tryd.prog 39 1 1 := .of (by kernel_rfl)
instance : TField Tryd.prog 39 2 2 := .of (by kernel_rfl)
instance : TField Tryd.prog 39 3 3 := .of (by kernel_rfl)
instance : TStruct Tryd.prog 39 [(0, 1), (1, 1), (2, 1), (3, 1)] := .of (by kernel_rfl)
instance : TZero Tryd.prog 39 [.string ⟨#[]⟩, .int .u32 0, .string ⟨#[]⟩, .slice none 0 0] := .of (v := .agg #[.string ⟨#[]⟩, .int .u32 0, .string ⟨#[]⟩, .slice none 0 0]) (n := 4) (by kernel_rfl) rfl rfl
instance : TRow Tryd.prog 39 4 64 := .of (by kernel_rfl)
-- type 40: func(string, api.Expr, api.Expr) api.Expr
instance : TSize Tryd.prog 40 1 := .of (by kernel_rfl)
instance : TOne Tryd.prog 40 := .of (by kernel_rfl)
instance : TConcrete Tryd.prog 40 := .of (by kernel_rfl)
instance : TZero Tryd.prog 40 [.nilFunc] := .of (v := .nilFunc) (n := 1) (by kernel_rfl) rfl rfl
instance : TRow Tryd.prog 40 1 8 := .of (by kernel_rfl)
-- type 41: func(string) api.Expr
instance : TSize Tryd.prog 41 1 := .of (by kernel_rfl)
instance : TOne Tryd.prog 41 := .of (by kernel_rfl)
instance : TConcrete Tryd.prog 41 := .of (by kernel_rfl)
instance : TZero Tryd.prog 41 [.nilFunc] := .of (v := .nilFunc) (n := 1) (by kernel_rfl) rfl rfl
instance : TRow Tryd.prog 41 1 8 := .of (by kernel_rfl)
-- type 42: func(api.Program, api.Program) bool
instance : TSize Tryd.prog 42 1 := .of (by kernel_rfl)
instance : TOne Tryd.prog 42 := .of (by kernel_rfl)
instance : TConcrete Tryd.prog 42 := .of (by kernel_rfl)
instance : TZero Tryd.prog 42 [.nilFunc] := .of (v := .nilFunc) (n := 1) (by kernel_rfl) rfl rfl
instance : TRow Tryd.prog 42 1 8 := .of (by kernel_rfl)
-- type 43: []api.Token
instance : TSize Tryd.prog 43 1 := .of (by kernel_rfl)
instance : TOne Tryd.prog 43 := .of (by kernel_rfl)
instance : TSlice Tryd.prog 43 64 3 := .of (by kernel_rfl)
instance : TConcrete Tryd.prog 43 := .of (by kernel_rfl)
instance : TZero Tryd.prog 43 [.slice none 0 0] := .of (v := .slice none 0 0) (n := 1) (by kernel_rfl) rfl rfl
instance : TRow Tryd.prog 43 1 24 := .of (by kernel_rfl)
-- type 45: func(string) ([]api.Token, int, api.Errno)
instance : TSize Tryd.prog 45 1 := .of (by kernel_rfl)
instance : TOne Tryd.prog 45 := .of (by kernel_rfl)
instance : TConcrete Tryd.prog 45 := .of (by kernel_rfl)
instance : TZero Tryd.prog 45 [.nilFunc] := .of (v := .nilFunc) (n := 1) (by kernel_rfl) rfl rfl
instance : TRow Tryd.prog 45 1 8 := .of (by kernel_rfl)
-- type 46: struct { line int; err api.Errno }
instance : TSize Tryd.prog 46 2 := .of (by kernel_rfl)
instance : TAgg Tryd.prog 46 2 := .of (by kernel_rfl)
instance : TConcrete Tryd.prog 46 := .of (by kernel_rfl)
instance : TField Tryd.prog 46 0 0 := .of (by kernel_rfl)
instance : TField Tryd.prog 46 1 1 := .of (by kernel_rfl)
instance : TStruct Tryd.prog 46 [(0, 1), (1, 1)] := .of (by kernel_rfl)
instance : TZero Tryd.prog 46 [.int .i64 0, .int .i64 0] := .of (v := .agg #[.int .i64 0, .int .i64 0]) (n := 2) (by kernel_rfl) rfl rfl
instance : TRow Tryd.prog 46 2 16 := .of (by kernel_rfl)
-- type 47: parser.failure
instance : TSize Tryd.prog 47 2 := .of (by kernel_rfl)
instance : TAgg Tryd.prog 47 2 := .of (by kernel_rfl)
instance : TConcrete Tryd.prog 47 := .of (by kernel_rfl)
instance : TField Tryd.prog 47 0 0 := .of (by kernel_rfl)
instance : TField Tryd.prog 47 1 1 := .of (by kernel_rfl)
instance : TStruct Tryd.prog 47 [(0, 1), (1, 1)] := .of (by kernel_rfl)
instance : TZero Tryd.prog 47 [.int .i64 0, .int .i64 0] := .of (v := .agg #[.int .i64 0, .int .i64 0]) (n := 2) (by kernel_rfl) rfl rfl
instance : TRow Tryd.prog 47 2 16 := .of (by kernel_rfl)
-- type 49: *parser.source
instance : TSize Tryd.prog 49 1 := .of (by kernel_rfl)
instance : TOne Tryd.prog 49 := .of (by kernel_rfl)
instance : TConcrete Tryd.prog 49 := .of (by kernel_rfl)
instance : TZero Tryd.prog 49 [.pointer none] := .of (v := .pointer none) (n := 1) (by kernel_rfl) rfl rfl
instance : TRow Tryd.prog 49 1 8 := .of (by kernel_rfl)
-- type 50: struct { tokens []api.Token; at int; open int }
instance : TSize Tryd.prog 50 3 := .of (by kernel_rfl)
instance : TAgg Tryd.prog 50 3 := .of (by kernel_rfl)
instance : TConcrete Tryd.prog 50 := .of (by kernel_rfl)
instance : TField Tryd.prog 50 0 0 := .of (by kernel_rfl)
instance : TField Tryd.prog 50 1 1 := .of (by kernel_rfl)
instance : TField Tryd.prog 50 2 2 := .of (by kernel_rfl)
instance : TStruct Tryd.prog 50 [(0, 1), (1, 1), (2, 1)] := .of (by kernel_rfl)
instance : TZero Tryd.prog 50 [.slice none 0 0, .int .i64 0, .int .i64 0] := .of (v := .agg #[.slice none 0 0, .int .i64 0, .int .i64 0]) (n := 3) (by kernel_rfl) rfl rfl
instance : TRow Tryd.prog 50 3 40 := .of (by kernel_rfl)
-- type 51: parser.source
instance : TSize Tryd.prog 51 3 := .of (by kernel_rfl)
instance : TAgg Tryd.prog 51 3 := .of (by kernel_rfl)
instance : TConcrete Tryd.prog 51 := .of (by kernel_rfl)
instance : TField Tryd.prog 51 0 0 := .of (by kernel_rfl)
instance : TField Tryd.prog 51 1 1 := .of (by kernel_rfl)
instance : TField Tryd.prog 51 2 2 := .of (by kernel_rfl)
instance : TStruct Tryd.prog 51 [(0, 1), (1, 1), (2, 1)] := .of (by kernel_rfl)
instance : TZero Tryd.prog 51 [.slice none 0 0, .int .i64 0, .int .i64 0] := .of (v := .agg #[.slice none 0 0, .int .i64 0, .int .i64 0]) (n := 3) (by kernel_rfl) rfl rfl
instance : TRow Tryd.prog 51 3 40 := .of (by kernel_rfl)
-- type 52: func() api.Program
instance : TSize Tryd.prog 52 1 := .of (by kernel_rfl)
instance : TOne Tryd.prog 52 := .of (by kernel_rfl)
instance : TConcrete Tryd.prog 52 := .of (by kernel_rfl)
instance : TZero Tryd.prog 52 [.nilFunc] := .of (v := .nilFunc) (n := 1) (by kernel_rfl) rfl rfl
instance : TRow Tryd.prog 52 1 8 := .of (by kernel_rfl)
-- type 53: []api.Stmt
instance : TSize Tryd.prog 53 1 := .of (by kernel_rfl)
instance : TOne Tryd.prog 53 := .of (by kernel_rfl)
instance : TSlice Tryd.prog 53 55 6 := .of (by kernel_rfl)
instance : TConcrete Tryd.prog 53 := .of (by kernel_rfl)
instance : TZero Tryd.prog 53 [.slice none 0 0] := .of (v := .slice none 0 0) (n := 1) (by kernel_rfl) rfl rfl
instance : TRow Tryd.prog 53 1 24 := .of (by kernel_rfl)
-- type 54: struct { Kind int; Name string; Index []api.Expr; Value []api.Expr; Then []api.S
instance : TSize Tryd.prog 54 6 := .of (by kernel_rfl)
instance : TAgg Tryd.prog 54 6 := .of (by kernel_rfl)
instance : TConcrete Tryd.prog 54 := .of (by kernel_rfl)
instance : TField Tryd.prog 54 0 0 := .of (by kernel_rfl)
instance : TField Tryd.prog 54 1 1 := .of (by kernel_rfl)
instance : TField Tryd.prog 54 2 2 := .of (by kernel_rfl)
instance : TField Tryd.prog 54 3 3 := .of (by kernel_rfl)
instance : TField Tryd.prog 54 4 4 := .of (by kernel_rfl)
instance : TField Tryd.prog 54 5 5 := .of (by kernel_rfl)
instance : TStruct Tryd.prog 54 [(0, 1), (1, 1), (2, 1), (3, 1), (4, 1), (5, 1)] := .of (by kernel_rfl)
instance : TZero Tryd.prog 54 [.int .i64 0, .string ⟨#[]⟩, .slice none 0 0, .slice none 0 0, .slice none 0 0, .slice none 0 0] := .of (v := .agg #[.int .i64 0, .string ⟨#[]⟩, .slice none 0 0, .slice none 0 0, .slice none 0 0, .slice none 0 0]) (n := 6) (by kernel_rfl) rfl rfl
instance : TRow Tryd.prog 54 6 120 := .of (by kernel_rfl)
-- type 55: api.Stmt
instance : TSize Tryd.prog 55 6 := .of (by kernel_rfl)
instance : TAgg Tryd.prog 55 6 := .of (by kernel_rfl)
instance : TConcrete Tryd.prog 55 := .of (by kernel_rfl)
instance : TField Tryd.prog 55 0 0 := .of (by kernel_rfl)
instance : TField Tryd.prog 55 1 1 := .of (by kernel_rfl)
instance : TField Tryd.prog 55 2 2 := .of (by kernel_rfl)
instance : TField Tryd.prog 55 3 3 := .of (by kernel_rfl)
instance : TField Tryd.prog 55 4 4 := .of (by kernel_rfl)
instance : TField Tryd.prog 55 5 5 := .of (by kernel_rfl)
instance : TStruct Tryd.prog 55 [(0, 1), (1, 1), (2, 1), (3, 1), (4, 1), (5, 1)] := .of (by kernel_rfl)
instance : TZero Tryd.prog 55 [.int .i64 0, .string ⟨#[]⟩, .slice none 0 0, .slice none 0 0, .slice none 0 0, .slice none 0 0] := .of (v := .agg #[.int .i64 0, .string ⟨#[]⟩, .slice none 0 0, .slice none 0 0, .slice none 0 0, .slice none 0 0]) (n := 6) (by kernel_rfl) rfl rfl
instance : TRow Tryd.prog 55 6 120 := .of (by kernel_rfl)
-- type 56: struct { Name string; Params []string; Locals []string; Body []api.Stmt }
instance : TSize Tryd.prog 56 4 := .of (by kernel_rfl)
instance : TAgg Tryd.prog 56 4 := .of (by kernel_rfl)
instance : TConcrete Tryd.prog 56 := .of (by kernel_rfl)
instance : TField Tryd.prog 56 0 0 := .of (by kernel_rfl)
instance : TField Tryd.prog 56 1 1 := .of (by kernel_rfl)
instance : TField Tryd.prog 56 2 2 := .of (by kernel_rfl)
instance : TField Tryd.prog 56 3 3 := .of (by kernel_rfl)
instance : TStruct Tryd.prog 56 [(0, 1), (1, 1), (2, 1), (3, 1)] := .of (by kernel_rfl)
instance : TZero Tryd.prog 56 [.string ⟨#[]⟩, .slice none 0 0, .slice none 0 0, .slice none 0 0] := .of (v := .agg #[.string ⟨#[]⟩, .slice none 0 0, .slice none 0 0, .slice none 0 0]) (n := 4) (by kernel_rfl) rfl rfl
instance : TRow Tryd.prog 56 4 88 := .of (by kernel_rfl)
-- type 57: api.Func
instance : TSize Tryd.prog 57 4 := .of (by kernel_rfl)
instance : TAgg Tryd.prog 57 4 := .of (by kernel_rfl)
instance : TConcrete Tryd.prog 57 := .of (by kernel_rfl)
instance : TField Tryd.prog 57 0 0 := .of (by kernel_rfl)
instance : TField Tryd.prog 57 1 1 := .of (by kernel_rfl)
instance : TField Tryd.prog 57 2 2 := .of (by kernel_rfl)
instance : TField Tryd.prog 57 3 3 := .of (by kernel_rfl)
instance : TStruct Tryd.prog 57 [(0, 1), (1, 1), (2, 1), (3, 1)] := .of (by kernel_rfl)
instance : TZero Tryd.prog 57 [.string ⟨#[]⟩, .slice none 0 0, .slice none 0 0, .slice none 0 0] := .of (v := .agg #[.string ⟨#[]⟩, .slice none 0 0, .slice none 0 0, .slice none 0 0]) (n := 4) (by kernel_rfl) rfl rfl
instance : TRow Tryd.prog 57 4 88 := .of (by kernel_rfl)
-- type 58: func([]string, []string) bool
instance : TSize Tryd.prog 58 1 := .of (by kernel_rfl)
instance : TOne Tryd.prog 58 := .of (by kernel_rfl)
instance : TConcrete Tryd.prog 58 := .of (by kernel_rfl)
instance : TZero Tryd.prog 58 [.nilFunc] := .of (v := .nilFunc) (n := 1) (by kernel_rfl) rfl rfl
instance : TRow Tryd.prog 58 1 8 := .of (by kernel_rfl)
-- type 59: struct { Name string; Size int }
instance : TSize Tryd.prog 59 2 := .of (by kernel_rfl)
instance : TAgg Tryd.prog 59 2 := .of (by kernel_rfl)
instance : TConcrete Tryd.prog 59 := .of (by kernel_rfl)
instance : TField Tryd.prog 59 0 0 := .of (by kernel_rfl)
instance : TField Tryd.prog 59 1 1 := .of (by kernel_rfl)
instance : TStruct Tryd.prog 59 [(0, 1), (1, 1)] := .of (by kernel_rfl)
instance : TZero Tryd.prog 59 [.string ⟨#[]⟩, .int .i64 0] := .of (v := .agg #[.string ⟨#[]⟩, .int .i64 0]) (n := 2) (by kernel_rfl) rfl rfl
instance : TRow Tryd.prog 59 2 24 := .of (by kernel_rfl)
-- type 60: api.Array
instance : TSize Tryd.prog 60 2 := .of (by kernel_rfl)
instance : TAgg Tryd.prog 60 2 := .of (by kernel_rfl)
instance : TConcrete Tryd.prog 60 := .of (by kernel_rfl)
instance : TField Tryd.prog 60 0 0 := .of (by kernel_rfl)
instance : TField Tryd.prog 60 1 1 := .of (by kernel_rfl)
instance : TStruct Tryd.prog 60 [(0, 1), (1, 1)] := .of (by kernel_rfl)
instance : TZero Tryd.prog 60 [.string ⟨#[]⟩, .int .i64 0] := .of (v := .agg #[.string ⟨#[]⟩, .int .i64 0]) (n := 2) (by kernel_rfl) rfl rfl
instance : TRow Tryd.prog 60 2 24 := .of (by kernel_rfl)
-- type 61: func([]api.Stmt, []api.Stmt) bool
instance : TSize Tryd.prog 61 1 := .of (by kernel_rfl)
instance : TOne Tryd.prog 61 := .of (by kernel_rfl)
instance : TConcrete Tryd.prog 61 := .of (by kernel_rfl)
instance : TZero Tryd.prog 61 [.nilFunc] := .of (v := .nilFunc) (n := 1) (by kernel_rfl) rfl rfl
instance : TRow Tryd.prog 61 1 8 := .of (by kernel_rfl)
-- type 62: func(string) int
instance : TSize Tryd.prog 62 1 := .of (by kernel_rfl)
instance : TOne Tryd.prog 62 := .of (by kernel_rfl)
instance : TConcrete Tryd.prog 62 := .of (by kernel_rfl)
instance : TZero Tryd.prog 62 [.nilFunc] := .of (v := .nilFunc) (n := 1) (by kernel_rfl) rfl rfl
instance : TRow Tryd.prog 62 1 8 := .of (by kernel_rfl)
-- type 63: struct { Kind int; Text string; Line int }
instance : TSize Tryd.prog 63 3 := .of (by kernel_rfl)
instance : TAgg Tryd.prog 63 3 := .of (by kernel_rfl)
instance : TConcrete Tryd.prog 63 := .of (by kernel_rfl)
instance : TField Tryd.prog 63 0 0 := .of (by kernel_rfl)
instance : TField Tryd.prog 63 1 1 := .of (by kernel_rfl)
instance : TField Tryd.prog 63 2 2 := .of (by kernel_rfl)
instance : TStruct Tryd.prog 63 [(0, 1), (1, 1), (2, 1)] := .of (by kernel_rfl)
instance : TZero Tryd.prog 63 [.int .i64 0, .string ⟨#[]⟩, .int .i64 0] := .of (v := .agg #[.int .i64 0, .string ⟨#[]⟩, .int .i64 0]) (n := 3) (by kernel_rfl) rfl rfl
instance : TRow Tryd.prog 63 3 32 := .of (by kernel_rfl)
-- type 64: api.Token
instance : TSize Tryd.prog 64 3 := .of (by kernel_rfl)
instance : TAgg Tryd.prog 64 3 := .of (by kernel_rfl)
instance : TConcrete Tryd.prog 64 := .of (by kernel_rfl)
instance : TField Tryd.prog 64 0 0 := .of (by kernel_rfl)
instance : TField Tryd.prog 64 1 1 := .of (by kernel_rfl)
instance : TField Tryd.prog 64 2 2 := .of (by kernel_rfl)
instance : TStruct Tryd.prog 64 [(0, 1), (1, 1), (2, 1)] := .of (by kernel_rfl)
instance : TZero Tryd.prog 64 [.int .i64 0, .string ⟨#[]⟩, .int .i64 0] := .of (v := .agg #[.int .i64 0, .string ⟨#[]⟩, .int .i64 0]) (n := 3) (by kernel_rfl) rfl rfl
instance : TRow Tryd.prog 64 3 32 := .of (by kernel_rfl)
-- type 66: func(string) (api.Token, int, api.Errno)
instance : TSize Tryd.prog 66 1 := .of (by kernel_rfl)
instance : TOne Tryd.prog 66 := .of (by kernel_rfl)
instance : TConcrete Tryd.prog 66 := .of (by kernel_rfl)
instance : TZero Tryd.prog 66 [.nilFunc] := .of (v := .nilFunc) (n := 1) (by kernel_rfl) rfl rfl
instance : TRow Tryd.prog 66 1 8 := .of (by kernel_rfl)
-- type 67: func(string, string) int
instance : TSize Tryd.prog 67 1 := .of (by kernel_rfl)
instance : TOne Tryd.prog 67 := .of (by kernel_rfl)
instance : TConcrete Tryd.prog 67 := .of (by kernel_rfl)
instance : TZero Tryd.prog 67 [.nilFunc] := .of (v := .nilFunc) (n := 1) (by kernel_rfl) rfl rfl
instance : TRow Tryd.prog 67 1 8 := .of (by kernel_rfl)
-- type 68: func(...string) bool
instance : TSize Tryd.prog 68 1 := .of (by kernel_rfl)
instance : TOne Tryd.prog 68 := .of (by kernel_rfl)
instance : TConcrete Tryd.prog 68 := .of (by kernel_rfl)
instance : TZero Tryd.prog 68 [.nilFunc] := .of (v := .nilFunc) (n := 1) (by kernel_rfl) rfl rfl
instance : TRow Tryd.prog 68 1 8 := .of (by kernel_rfl)
-- type 69: func() []string
instance : TSize Tryd.prog 69 1 := .of (by kernel_rfl)
instance : TOne Tryd.prog 69 := .of (by kernel_rfl)
instance : TConcrete Tryd.prog 69 := .of (by kernel_rfl)
instance : TZero Tryd.prog 69 [.nilFunc] := .of (v := .nilFunc) (n := 1) (by kernel_rfl) rfl rfl
instance : TRow Tryd.prog 69 1 8 := .of (by kernel_rfl)
-- type 70: func(string) bool
instance : TSize Tryd.prog 70 1 := .of (by kernel_rfl)
instance : TOne Tryd.prog 70 := .of (by kernel_rfl)
instance : TConcrete Tryd.prog 70 := .of (by kernel_rfl)
instance : TZero Tryd.prog 70 [.nilFunc] := .of (v := .nilFunc) (n := 1) (by kernel_rfl) rfl rfl
instance : TRow Tryd.prog 70 1 8 := .of (by kernel_rfl)
-- type 71: func() api.Array
instance : TSize Tryd.prog 71 1 := .of (by kernel_rfl)
instance : TOne Tryd.prog 71 := .of (by kernel_rfl)
instance : TConcrete Tryd.prog 71 := .of (by kernel_rfl)
instance : TZero Tryd.prog 71 [.nilFunc] := .of (v := .nilFunc) (n := 1) (by kernel_rfl) rfl rfl
instance : TRow Tryd.prog 71 1 8 := .of (by kernel_rfl)
-- type 72: func() api.Func
instance : TSize Tryd.prog 72 1 := .of (by kernel_rfl)
instance : TOne Tryd.prog 72 := .of (by kernel_rfl)
instance : TConcrete Tryd.prog 72 := .of (by kernel_rfl)
instance : TZero Tryd.prog 72 [.nilFunc] := .of (v := .nilFunc) (n := 1) (by kernel_rfl) rfl rfl
instance : TRow Tryd.prog 72 1 8 := .of (by kernel_rfl)
-- type 73: func(api.Errno)
instance : TSize Tryd.prog 73 1 := .of (by kernel_rfl)
instance : TOne Tryd.prog 73 := .of (by kernel_rfl)
instance : TConcrete Tryd.prog 73 := .of (by kernel_rfl)
instance : TZero Tryd.prog 73 [.nilFunc] := .of (v := .nilFunc) (n := 1) (by kernel_rfl) rfl rfl
instance : TRow Tryd.prog 73 1 8 := .of (by kernel_rfl)
-- type 74: func([]api.Expr, []api.Expr) bool
instance : TSize Tryd.prog 74 1 := .of (by kernel_rfl)
instance : TOne Tryd.prog 74 := .of (by kernel_rfl)
instance : TConcrete Tryd.prog 74 := .of (by kernel_rfl)
instance : TZero Tryd.prog 74 [.nilFunc] := .of (v := .nilFunc) (n := 1) (by kernel_rfl) rfl rfl
instance : TRow Tryd.prog 74 1 8 := .of (by kernel_rfl)
-- type 75: func(string, string) bool
instance : TSize Tryd.prog 75 1 := .of (by kernel_rfl)
instance : TOne Tryd.prog 75 := .of (by kernel_rfl)
instance : TConcrete Tryd.prog 75 := .of (by kernel_rfl)
instance : TZero Tryd.prog 75 [.nilFunc] := .of (v := .nilFunc) (n := 1) (by kernel_rfl) rfl rfl
instance : TRow Tryd.prog 75 1 8 := .of (by kernel_rfl)
-- type 76: func(string, func(uint8) bool) string
instance : TSize Tryd.prog 76 1 := .of (by kernel_rfl)
instance : TOne Tryd.prog 76 := .of (by kernel_rfl)
instance : TConcrete Tryd.prog 76 := .of (by kernel_rfl)
instance : TZero Tryd.prog 76 [.nilFunc] := .of (v := .nilFunc) (n := 1) (by kernel_rfl) rfl rfl
instance : TRow Tryd.prog 76 1 8 := .of (by kernel_rfl)
-- type 77: func(uint8) bool
instance : TSize Tryd.prog 77 1 := .of (by kernel_rfl)
instance : TOne Tryd.prog 77 := .of (by kernel_rfl)
instance : TConcrete Tryd.prog 77 := .of (by kernel_rfl)
instance : TZero Tryd.prog 77 [.nilFunc] := .of (v := .nilFunc) (n := 1) (by kernel_rfl) rfl rfl
instance : TRow Tryd.prog 77 1 8 := .of (by kernel_rfl)
-- type 78: func(string, uint8) int
instance : TSize Tryd.prog 78 1 := .of (by kernel_rfl)
instance : TOne Tryd.prog 78 := .of (by kernel_rfl)
instance : TConcrete Tryd.prog 78 := .of (by kernel_rfl)
instance : TZero Tryd.prog 78 [.nilFunc] := .of (v := .nilFunc) (n := 1) (by kernel_rfl) rfl rfl
instance : TRow Tryd.prog 78 1 8 := .of (by kernel_rfl)
-- type 79: func([]string, string) bool
instance : TSize Tryd.prog 79 1 := .of (by kernel_rfl)
instance : TOne Tryd.prog 79 := .of (by kernel_rfl)
instance : TConcrete Tryd.prog 79 := .of (by kernel_rfl)
instance : TZero Tryd.prog 79 [.nilFunc] := .of (v := .nilFunc) (n := 1) (by kernel_rfl) rfl rfl
instance : TRow Tryd.prog 79 1 8 := .of (by kernel_rfl)
-- type 80: func(string)
instance : TSize Tryd.prog 80 1 := .of (by kernel_rfl)
instance : TOne Tryd.prog 80 := .of (by kernel_rfl)
instance : TConcrete Tryd.prog 80 := .of (by kernel_rfl)
instance : TZero Tryd.prog 80 [.nilFunc] := .of (v := .nilFunc) (n := 1) (by kernel_rfl) rfl rfl
instance : TRow Tryd.prog 80 1 8 := .of (by kernel_rfl)
-- type 81: func(int) string
instance : TSize Tryd.prog 81 1 := .of (by kernel_rfl)
instance : TOne Tryd.prog 81 := .of (by kernel_rfl)
instance : TConcrete Tryd.prog 81 := .of (by kernel_rfl)
instance : TZero Tryd.prog 81 [.nilFunc] := .of (v := .nilFunc) (n := 1) (by kernel_rfl) rfl rfl
instance : TRow Tryd.prog 81 1 8 := .of (by kernel_rfl)
-- type 82: func() uint32
instance : TSize Tryd.prog 82 1 := .of (by kernel_rfl)
instance : TOne Tryd.prog 82 := .of (by kernel_rfl)
instance : TConcrete Tryd.prog 82 := .of (by kernel_rfl)
instance : TZero Tryd.prog 82 [.nilFunc] := .of (v := .nilFunc) (n := 1) (by kernel_rfl) rfl rfl
instance : TRow Tryd.prog 82 1 8 := .of (by kernel_rfl)
-- type 83: func() []api.Stmt
instance : TSize Tryd.prog 83 1 := .of (by kernel_rfl)
instance : TOne Tryd.prog 83 := .of (by kernel_rfl)
instance : TConcrete Tryd.prog 83 := .of (by kernel_rfl)
instance : TZero Tryd.prog 83 [.nilFunc] := .of (v := .nilFunc) (n := 1) (by kernel_rfl) rfl rfl
instance : TRow Tryd.prog 83 1 8 := .of (by kernel_rfl)
-- type 84: uint64
instance : TSize Tryd.prog 84 1 := .of (by kernel_rfl)
instance : TOne Tryd.prog 84 := .of (by kernel_rfl)
instance : TKind Tryd.prog 84 .u64 := .of (by kernel_rfl)
instance : TConcrete Tryd.prog 84 := .of (by kernel_rfl)
instance : TZero Tryd.prog 84 [.int .u64 0] := .of (v := .int .u64 0) (n := 1) (by kernel_rfl) rfl rfl
instance : TRow Tryd.prog 84 1 8 := .of (by kernel_rfl)
-- type 85: interface { Error() string }
instance : TSize Tryd.prog 85 1 := .of (by kernel_rfl)
instance : TOne Tryd.prog 85 := .of (by kernel_rfl)
instance : TZero Tryd.prog 85 [.nilIface] := .of (v := .nilIface) (n := 1) (by kernel_rfl) rfl rfl
instance : TRow Tryd.prog 85 1 16 := .of (by kernel_rfl)
-- type 86: error
instance : TSize Tryd.prog 86 1 := .of (by kernel_rfl)
instance : TOne Tryd.prog 86 := .of (by kernel_rfl)
instance : TZero Tryd.prog 86 [.nilIface] := .of (v := .nilIface) (n := 1) (by kernel_rfl) rfl rfl
instance : TRow Tryd.prog 86 1 16 := .of (by kernel_rfl)
-- type 88: func(string, int, int) (uint64, error)
instance : TSize Tryd.prog 88 1 := .of (by kernel_rfl)
instance : TOne Tryd.prog 88 := .of (by kernel_rfl)
instance : TConcrete Tryd.prog 88 := .of (by kernel_rfl)
instance : TZero Tryd.prog 88 [.nilFunc] := .of (v := .nilFunc) (n := 1) (by kernel_rfl) rfl rfl
instance : TRow Tryd.prog 88 1 8 := .of (by kernel_rfl)
-- type 89: func(uint64, int) string
instance : TSize Tryd.prog 89 1 := .of (by kernel_rfl)
instance : TOne Tryd.prog 89 := .of (by kernel_rfl)
instance : TConcrete Tryd.prog 89 := .of (by kernel_rfl)
instance : TZero Tryd.prog 89 [.nilFunc] := .of (v := .nilFunc) (n := 1) (by kernel_rfl) rfl rfl
instance : TRow Tryd.prog 89 1 8 := .of (by kernel_rfl)
-- type 90: func([]string, string) int
instance : TSize Tryd.prog 90 1 := .of (by kernel_rfl)
instance : TOne Tryd.prog 90 := .of (by kernel_rfl)
instance : TConcrete Tryd.prog 90 := .of (by kernel_rfl)
instance : TZero Tryd.prog 90 [.nilFunc] := .of (v := .nilFunc) (n := 1) (by kernel_rfl) rfl rfl
instance : TRow Tryd.prog 90 1 8 := .of (by kernel_rfl)
-- type 91: func() api.Stmt
instance : TSize Tryd.prog 91 1 := .of (by kernel_rfl)
instance : TOne Tryd.prog 91 := .of (by kernel_rfl)
instance : TConcrete Tryd.prog 91 := .of (by kernel_rfl)
instance : TZero Tryd.prog 91 [.nilFunc] := .of (v := .nilFunc) (n := 1) (by kernel_rfl) rfl rfl
instance : TRow Tryd.prog 91 1 8 := .of (by kernel_rfl)
-- type 92: func(string, string, int, int, error) error
instance : TSize Tryd.prog 92 1 := .of (by kernel_rfl)
instance : TOne Tryd.prog 92 := .of (by kernel_rfl)
instance : TConcrete Tryd.prog 92 := .of (by kernel_rfl)
instance : TZero Tryd.prog 92 [.nilFunc] := .of (v := .nilFunc) (n := 1) (by kernel_rfl) rfl rfl
instance : TRow Tryd.prog 92 1 8 := .of (by kernel_rfl)
-- type 93: func(int) int
instance : TSize Tryd.prog 93 1 := .of (by kernel_rfl)
instance : TOne Tryd.prog 93 := .of (by kernel_rfl)
instance : TConcrete Tryd.prog 93 := .of (by kernel_rfl)
instance : TZero Tryd.prog 93 [.nilFunc] := .of (v := .nilFunc) (n := 1) (by kernel_rfl) rfl rfl
instance : TRow Tryd.prog 93 1 8 := .of (by kernel_rfl)
-- type 94: func() api.Expr
instance : TSize Tryd.prog 94 1 := .of (by kernel_rfl)
instance : TOne Tryd.prog 94 := .of (by kernel_rfl)
instance : TConcrete Tryd.prog 94 := .of (by kernel_rfl)
instance : TZero Tryd.prog 94 [.nilFunc] := .of (v := .nilFunc) (n := 1) (by kernel_rfl) rfl rfl
instance : TRow Tryd.prog 94 1 8 := .of (by kernel_rfl)
-- type 95: strconv.Error
instance : TSize Tryd.prog 95 1 := .of (by kernel_rfl)
instance : TOne Tryd.prog 95 := .of (by kernel_rfl)
instance : TKind Tryd.prog 95 .i64 := .of (by kernel_rfl)
instance : TConcrete Tryd.prog 95 := .of (by kernel_rfl)
instance : TZero Tryd.prog 95 [.int .i64 0] := .of (v := .int .i64 0) (n := 1) (by kernel_rfl) rfl rfl
instance : TRow Tryd.prog 95 1 8 := .of (by kernel_rfl)
-- type 96: func(uint8) uint8
instance : TSize Tryd.prog 96 1 := .of (by kernel_rfl)
instance : TOne Tryd.prog 96 := .of (by kernel_rfl)
instance : TConcrete Tryd.prog 96 := .of (by kernel_rfl)
instance : TZero Tryd.prog 96 [.nilFunc] := .of (v := .nilFunc) (n := 1) (by kernel_rfl) rfl rfl
instance : TRow Tryd.prog 96 1 8 := .of (by kernel_rfl)
-- type 97: []uint8
instance : TSize Tryd.prog 97 1 := .of (by kernel_rfl)
instance : TOne Tryd.prog 97 := .of (by kernel_rfl)
instance : TSlice Tryd.prog 97 5 1 := .of (by kernel_rfl)
instance : TConcrete Tryd.prog 97 := .of (by kernel_rfl)
instance : TZero Tryd.prog 97 [.slice none 0 0] := .of (v := .slice none 0 0) (n := 1) (by kernel_rfl) rfl rfl
instance : TRow Tryd.prog 97 1 24 := .of (by kernel_rfl)
-- type 98: *strconv.NumError
instance : TSize Tryd.prog 98 1 := .of (by kernel_rfl)
instance : TOne Tryd.prog 98 := .of (by kernel_rfl)
instance : TConcrete Tryd.prog 98 := .of (by kernel_rfl)
instance : TZero Tryd.prog 98 [.pointer none] := .of (v := .pointer none) (n := 1) (by kernel_rfl) rfl rfl
instance : TRow Tryd.prog 98 1 8 := .of (by kernel_rfl)
-- type 99: func(string, string) *strconv.NumError
instance : TSize Tryd.prog 99 1 := .of (by kernel_rfl)
instance : TOne Tryd.prog 99 := .of (by kernel_rfl)
instance : TConcrete Tryd.prog 99 := .of (by kernel_rfl)
instance : TZero Tryd.prog 99 [.nilFunc] := .of (v := .nilFunc) (n := 1) (by kernel_rfl) rfl rfl
instance : TRow Tryd.prog 99 1 8 := .of (by kernel_rfl)
-- type 100: func(string, string, int) *strconv.NumError
instance : TSize Tryd.prog 100 1 := .of (by kernel_rfl)
instance : TOne Tryd.prog 100 := .of (by kernel_rfl)
instance : TConcrete Tryd.prog 100 := .of (by kernel_rfl)
instance : TZero Tryd.prog 100 [.nilFunc] := .of (v := .nilFunc) (n := 1) (by kernel_rfl) rfl rfl
instance : TRow Tryd.prog 100 1 8 := .of (by kernel_rfl)
-- type 101: [24]uint8
instance : TSize Tryd.prog 101 24 := .of (by kernel_rfl)
instance : TAgg Tryd.prog 101 24 := .of (by kernel_rfl)
instance : TConcrete Tryd.prog 101 := .of (by kernel_rfl)
instance : TZero Tryd.prog 101 [.int .u8 0, .int .u8 0, .int .u8 0, .int .u8 0, .int .u8 0, .int .u8 0, .int .u8 0, .int .u8 0, .int .u8 0, .int .u8 0, .int .u8 0, .int .u8 0, .int .u8 0, .int .u8 0, .int .u8 0, .int .u8 0, .int .u8 0, .int .u8 0, .int .u8 0, .int .u8 0, .int .u8 0, .int .u8 0, .int .u8 0, .int .u8 0] := .of (v := .agg #[.int .u8 0, .int .u8 0, .int .u8 0, .int .u8 0, .int .u8 0, .int .u8 0, .int .u8 0, .int .u8 0, .int .u8 0, .int .u8 0, .int .u8 0, .int .u8 0, .int .u8 0, .int .u8 0, .int .u8 0, .int .u8 0, .int .u8 0, .int .u8 0, .int .u8 0, .int .u8 0, .int .u8 0, .int .u8 0, .int .u8 0, .int .u8 0]) (n := 24) (by kernel_rfl) rfl rfl
instance : TRow Tryd.prog 101 24 24 := .of (by kernel_rfl)
-- type 102: func(uint64) int
instance : TSize Tryd.prog 102 1 := .of (by kernel_rfl)
instance : TOne Tryd.prog 102 := .of (by kernel_rfl)
instance : TConcrete Tryd.prog 102 := .of (by kernel_rfl)
instance : TZero Tryd.prog 102 [.nilFunc] := .of (v := .nilFunc) (n := 1) (by kernel_rfl) rfl rfl
instance : TRow Tryd.prog 102 1 8 := .of (by kernel_rfl)
-- type 103: func([]uint8, uint64)
instance : TSize Tryd.prog 103 1 := .of (by kernel_rfl)
instance : TOne Tryd.prog 103 := .of (by kernel_rfl)
instance : TConcrete Tryd.prog 103 := .of (by kernel_rfl)
instance : TZero Tryd.prog 103 [.nilFunc] := .of (v := .nilFunc) (n := 1) (by kernel_rfl) rfl rfl
instance : TRow Tryd.prog 103 1 8 := .of (by kernel_rfl)
-- type 105: func([]uint8, uint64, int, bool, bool) ([]uint8, string)
instance : TSize Tryd.prog 105 1 := .of (by kernel_rfl)
instance : TOne Tryd.prog 105 := .of (by kernel_rfl)
instance : TConcrete Tryd.prog 105 := .of (by kernel_rfl)
instance : TZero Tryd.prog 105 [.nilFunc] := .of (v := .nilFunc) (n := 1) (by kernel_rfl) rfl rfl
instance : TRow Tryd.prog 105 1 8 := .of (by kernel_rfl)
-- type 106: func(int64, int) string
instance : TSize Tryd.prog 106 1 := .of (by kernel_rfl)
instance : TOne Tryd.prog 106 := .of (by kernel_rfl)
instance : TConcrete Tryd.prog 106 := .of (by kernel_rfl)
instance : TZero Tryd.prog 106 [.nilFunc] := .of (v := .nilFunc) (n := 1) (by kernel_rfl) rfl rfl
instance : TRow Tryd.prog 106 1 8 := .of (by kernel_rfl)
-- type 108: func(string) (uint32, uint32)
instance : TSize Tryd.prog 108 1 := .of (by kernel_rfl)
instance : TOne Tryd.prog 108 := .of (by kernel_rfl)
instance : TConcrete Tryd.prog 108 := .of (by kernel_rfl)
instance : TZero Tryd.prog 108 [.nilFunc] := .of (v := .nilFunc) (n := 1) (by kernel_rfl) rfl rfl
instance : TRow Tryd.prog 108 1 8 := .of (by kernel_rfl)
-- type 109: func(func(int, []string) bool)
instance : TSize Tryd.prog 109 1 := .of (by kernel_rfl)
instance : TOne Tryd.prog 109 := .of (by kernel_rfl)
instance : TConcrete Tryd.prog 109 := .of (by kernel_rfl)
instance : TZero Tryd.prog 109 [.nilFunc] := .of (v := .nilFunc) (n := 1) (by kernel_rfl) rfl rfl
instance : TRow Tryd.prog 109 1 8 := .of (by kernel_rfl)
-- type 110: iter.Seq2[int,[]string]
instance : TSize Tryd.prog 110 1 := .of (by kernel_rfl)
instance : TOne Tryd.prog 110 := .of (by kernel_rfl)
instance : TConcrete Tryd.prog 110 := .of (by kernel_rfl)
instance : TZero Tryd.prog 110 [.nilFunc] := .of (v := .nilFunc) (n := 1) (by kernel_rfl) rfl rfl
instance : TRow Tryd.prog 110 1 8 := .of (by kernel_rfl)
-- type 111: func([][]string) iter.Seq2[int,[]string]
instance : TSize Tryd.prog 111 1 := .of (by kernel_rfl)
instance : TOne Tryd.prog 111 := .of (by kernel_rfl)
instance : TConcrete Tryd.prog 111 := .of (by kernel_rfl)
instance : TZero Tryd.prog 111 [.nilFunc] := .of (v := .nilFunc) (n := 1) (by kernel_rfl) rfl rfl
instance : TRow Tryd.prog 111 1 8 := .of (by kernel_rfl)
-- type 112: [][]string
instance : TSize Tryd.prog 112 1 := .of (by kernel_rfl)
instance : TOne Tryd.prog 112 := .of (by kernel_rfl)
instance : TSlice Tryd.prog 112 25 1 := .of (by kernel_rfl)
instance : TConcrete Tryd.prog 112 := .of (by kernel_rfl)
instance : TZero Tryd.prog 112 [.slice none 0 0] := .of (v := .slice none 0 0) (n := 1) (by kernel_rfl) rfl rfl
instance : TRow Tryd.prog 112 1 24 := .of (by kernel_rfl)
-- type 113: func() [][]string
instance : TSize Tryd.prog 113 1 := .of (by kernel_rfl)
instance : TOne Tryd.prog 113 := .of (by kernel_rfl)
instance : TConcrete Tryd.prog 113 := .of (by kernel_rfl)
instance : TZero Tryd.prog 113 [.nilFunc] := .of (v := .nilFunc) (n := 1) (by kernel_rfl) rfl rfl
instance : TRow Tryd.prog 113 1 8 := .of (by kernel_rfl)
-- type 114: func([]string, bool, func() api.Expr) func() api.Expr
instance : TSize Tryd.prog 114 1 := .of (by kernel_rfl)
instance : TOne Tryd.prog 114 := .of (by kernel_rfl)
instance : TConcrete Tryd.prog 114 := .of (by kernel_rfl)
instance : TZero Tryd.prog 114 [.nilFunc] := .of (v := .nilFunc) (n := 1) (by kernel_rfl) rfl rfl
instance : TRow Tryd.prog 114 1 8 := .of (by kernel_rfl)
-- type 115: func() []api.Expr
instance : TSize Tryd.prog 115 1 := .of (by kernel_rfl)
instance : TOne Tryd.prog 115 := .of (by kernel_rfl)
instance : TConcrete Tryd.prog 115 := .of (by kernel_rfl)
instance : TZero Tryd.prog 115 [.nilFunc] := .of (v := .nilFunc) (n := 1) (by kernel_rfl) rfl rfl
instance : TRow Tryd.prog 115 1 8 := .of (by kernel_rfl)
-- type 116: struct { Func string; Num string; Err error }
instance : TSize Tryd.prog 116 3 := .of (by kernel_rfl)
instance : TAgg Tryd.prog 116 3 := .of (by kernel_rfl)
instance : TConcrete Tryd.prog 116 := .of (by kernel_rfl)
instance : TField Tryd.prog 116 0 0 := .of (by kernel_rfl)
instance : TField Tryd.prog 116 1 1 := .of (by kernel_rfl)
instance : TField Tryd.prog 116 2 2 := .of (by kernel_rfl)
instance : TStruct Tryd.prog 116 [(0, 1), (1, 1), (2, 1)] := .of (by kernel_rfl)
instance : TZero Tryd.prog 116 [.string ⟨#[]⟩, .string ⟨#[]⟩, .nilIface] := .of (v := .agg #[.string ⟨#[]⟩, .string ⟨#[]⟩, .nilIface]) (n := 3) (by kernel_rfl) rfl rfl
instance : TRow Tryd.prog 116 3 48 := .of (by kernel_rfl)
-- type 117: strconv.NumError
instance : TSize Tryd.prog 117 3 := .of (by kernel_rfl)
instance : TAgg Tryd.prog 117 3 := .of (by kernel_rfl)
instance : TConcrete Tryd.prog 117 := .of (by kernel_rfl)
instance : TField Tryd.prog 117 0 0 := .of (by kernel_rfl)
instance : TField Tryd.prog 117 1 1 := .of (by kernel_rfl)
instance : TField Tryd.prog 117 2 2 := .of (by kernel_rfl)
instance : TStruct Tryd.prog 117 [(0, 1), (1, 1), (2, 1)] := .of (by kernel_rfl)
instance : TZero Tryd.prog 117 [.string ⟨#[]⟩, .string ⟨#[]⟩, .nilIface] := .of (v := .agg #[.string ⟨#[]⟩, .string ⟨#[]⟩, .nilIface]) (n := 3) (by kernel_rfl) rfl rfl
instance : TRow Tryd.prog 117 3 48 := .of (by kernel_rfl)
-- type 118: func(string) error
instance : TSize Tryd.prog 118 1 := .of (by kernel_rfl)
instance : TOne Tryd.prog 118 := .of (by kernel_rfl)
instance : TConcrete Tryd.prog 118 := .of (by kernel_rfl)
instance : TZero Tryd.prog 118 [.nilFunc] := .of (v := .nilFunc) (n := 1) (by kernel_rfl) rfl rfl
instance : TRow Tryd.prog 118 1 8 := .of (by kernel_rfl)
-- type 119: func(bool) int
instance : TSize Tryd.prog 119 1 := .of (by kernel_rfl)
instance : TOne Tryd.prog 119 := .of (by kernel_rfl)
instance : TConcrete Tryd.prog 119 := .of (by kernel_rfl)
instance : TZero Tryd.prog 119 [.nilFunc] := .of (v := .nilFunc) (n := 1) (by kernel_rfl) rfl rfl
instance : TRow Tryd.prog 119 1 8 := .of (by kernel_rfl)
-- type 120: [20]uint64
instance : TSize Tryd.prog 120 20 := .of (by kernel_rfl)
instance : TAgg Tryd.prog 120 20 := .of (by kernel_rfl)
instance : TConcrete Tryd.prog 120 := .of (by kernel_rfl)
instance : TZero Tryd.prog 120 [.int .u64 0, .int .u64 0, .int .u64 0, .int .u64 0, .int .u64 0, .int .u64 0, .int .u64 0, .int .u64 0, .int .u64 0, .int .u64 0, .int .u64 0, .int .u64 0, .int .u64 0, .int .u64 0, .int .u64 0, .int .u64 0, .int .u64 0, .int .u64 0, .int .u64 0, .int .u64 0] := .of (v := .agg #[.int .u64 0, .int .u64 0, .int .u64 0, .int .u64 0, .int .u64 0, .int .u64 0, .int .u64 0, .int .u64 0, .int .u64 0, .int .u64 0, .int .u64 0, .int .u64 0, .int .u64 0, .int .u64 0, .int .u64 0, .int .u64 0, .int .u64 0, .int .u64 0, .int .u64 0, .int .u64 0]) (n := 20) (by kernel_rfl) rfl rfl
instance : TRow Tryd.prog 120 20 160 := .of (by kernel_rfl)
-- type 122: func(int) bool
instance : TSize Tryd.prog 122 1 := .of (by kernel_rfl)
instance : TOne Tryd.prog 122 := .of (by kernel_rfl)
instance : TConcrete Tryd.prog 122 := .of (by kernel_rfl)
instance : TZero Tryd.prog 122 [.nilFunc] := .of (v := .nilFunc) (n := 1) (by kernel_rfl) rfl rfl
instance : TRow Tryd.prog 122 1 8 := .of (by kernel_rfl)
-- type 123: func(uint) int
instance : TSize Tryd.prog 123 1 := .of (by kernel_rfl)
instance : TOne Tryd.prog 123 := .of (by kernel_rfl)
instance : TConcrete Tryd.prog 123 := .of (by kernel_rfl)
instance : TZero Tryd.prog 123 [.nilFunc] := .of (v := .nilFunc) (n := 1) (by kernel_rfl) rfl rfl
instance : TRow Tryd.prog 123 1 8 := .of (by kernel_rfl)
-- type 124: map[string]string
instance : TSize Tryd.prog 124 1 := .of (by kernel_rfl)
instance : TOne Tryd.prog 124 := .of (by kernel_rfl)
instance : TConcrete Tryd.prog 124 := .of (by kernel_rfl)
instance : TZero Tryd.prog 124 [.map none] := .of (v := .map none) (n := 1) (by kernel_rfl) rfl rfl
instance : TRow Tryd.prog 124 1 8 := .of (by kernel_rfl)
-- type 125: func(int, []string) bool
instance : TSize Tryd.prog 125 1 := .of (by kernel_rfl)
instance : TOne Tryd.prog 125 := .of (by kernel_rfl)
instance : TConcrete Tryd.prog 125 := .of (by kernel_rfl)
instance : TZero Tryd.prog 125 [.nilFunc] := .of (v := .nilFunc) (n := 1) (by kernel_rfl) rfl rfl
instance : TRow Tryd.prog 125 1 8 := .of (by kernel_rfl)
-- type 126: *uint8
instance : TSize Tryd.prog 126 1 := .of (by kernel_rfl)
instance : TOne Tryd.prog 126 := .of (by kernel_rfl)
instance : TConcrete Tryd.prog 126 := .of (by kernel_rfl)
instance : TZero Tryd.prog 126 [.pointer none] := .of (v := .pointer none) (n := 1) (by kernel_rfl) rfl rfl
instance : TRow Tryd.prog 126 1 8 := .of (by kernel_rfl)
-- type 127: *errors.errorString
instance : TSize Tryd.prog 127 1 := .of (by kernel_rfl)
instance : TOne Tryd.prog 127 := .of (by kernel_rfl)
instance : TConcrete Tryd.prog 127 := .of (by kernel_rfl)
instance : TZero Tryd.prog 127 [.pointer none] := .of (v := .pointer none) (n := 1) (by kernel_rfl) rfl rfl
instance : TRow Tryd.prog 127 1 8 := .of (by kernel_rfl)
-- type 128: struct { s string }
instance : TSize Tryd.prog 128 1 := .of (by kernel_rfl)
instance : TAgg Tryd.prog 128 1 := .of (by kernel_rfl)
instance : TConcrete Tryd.prog 128 := .of (by kernel_rfl)
instance : TField Tryd.prog 128 0 0 := .of (by kernel_rfl)
instance : TStruct Tryd.prog 128 [(0, 1)] := .of (by kernel_rfl)
instance : TZero Tryd.prog 128 [.string ⟨#[]⟩] := .of (v := .agg #[.string ⟨#[]⟩]) (n := 1) (by kernel_rfl) rfl rfl
instance : TRow Tryd.prog 128 1 16 := .of (by kernel_rfl)
-- type 129: errors.errorString
instance : TSize Tryd.prog 129 1 := .of (by kernel_rfl)
instance : TAgg Tryd.prog 129 1 := .of (by kernel_rfl)
instance : TConcrete Tryd.prog 129 := .of (by kernel_rfl)
instance : TField Tryd.prog 129 0 0 := .of (by kernel_rfl)
instance : TStruct Tryd.prog 129 [(0, 1)] := .of (by kernel_rfl)
instance : TZero Tryd.prog 129 [.string ⟨#[]⟩] := .of (v := .agg #[.string ⟨#[]⟩]) (n := 1) (by kernel_rfl) rfl rfl
instance : TRow Tryd.prog 129 1 16 := .of (by kernel_rfl)
-- type 130: func(uint32) int
instance : TSize Tryd.prog 130 1 := .of (by kernel_rfl)
instance : TOne Tryd.prog 130 := .of (by kernel_rfl)
instance : TConcrete Tryd.prog 130 := .of (by kernel_rfl)
instance : TZero Tryd.prog 130 [.nilFunc] := .of (v := .nilFunc) (n := 1) (by kernel_rfl) rfl rfl
instance : TRow Tryd.prog 130 1 8 := .of (by kernel_rfl)
-- type 131: [32]uint8
instance : TSize Tryd.prog 131 32 := .of (by kernel_rfl)
instance : TAgg Tryd.prog 131 32 := .of (by kernel_rfl)
instance : TConcrete Tryd.prog 131 := .of (by kernel_rfl)
instance : TZero Tryd.prog 131 [.int .u8 0, .int .u8 0, .int .u8 0, .int .u8 0, .int .u8 0, .int .u8 0, .int .u8 0, .int .u8 0, .int .u8 0, .int .u8 0, .int .u8 0, .int .u8 0, .int .u8 0, .int .u8 0, .int .u8 0, .int .u8 0, .int .u8 0, .int .u8 0, .int .u8 0, .int .u8 0, .int .u8 0, .int .u8 0, .int .u8 0, .int .u8 0, .int .u8 0, .int .u8 0, .int .u8 0, .int .u8 0, .int .u8 0, .int .u8 0, .int .u8 0, .int .u8 0] := .of (v := .agg #[.int .u8 0, .int .u8 0, .int .u8 0, .int .u8 0, .int .u8 0, .int .u8 0, .int .u8 0, .int .u8 0, .int .u8 0, .int .u8 0, .int .u8 0, .int .u8 0, .int .u8 0, .int .u8 0, .int .u8 0, .int .u8 0, .int .u8 0, .int .u8 0, .int .u8 0, .int .u8 0, .int .u8 0, .int .u8 0, .int .u8 0, .int .u8 0, .int .u8 0, .int .u8 0, .int .u8 0, .int .u8 0, .int .u8 0, .int .u8 0, .int .u8 0, .int .u8 0]) (n := 32) (by kernel_rfl) rfl rfl
instance : TRow Tryd.prog 131 32 32 := .of (by kernel_rfl)
-- type 132: [64]uint8
instance : TSize Tryd.prog 132 64 := .of (by kernel_rfl)
instance : TAgg Tryd.prog 132 64 := .of (by kernel_rfl)
instance : TConcrete Tryd.prog 132 := .of (by kernel_rfl)
-- type 133: func() string
instance : TSize Tryd.prog 133 1 := .of (by kernel_rfl)
instance : TOne Tryd.prog 133 := .of (by kernel_rfl)
instance : TConcrete Tryd.prog 133 := .of (by kernel_rfl)
instance : TZero Tryd.prog 133 [.nilFunc] := .of (v := .nilFunc) (n := 1) (by kernel_rfl) rfl rfl
instance : TRow Tryd.prog 133 1 8 := .of (by kernel_rfl)
-- type 134: struct { _interface *abi.Type; concrete *abi.Type; asserted *abi.Type; missingMe
instance : TSize Tryd.prog 134 4 := .of (by kernel_rfl)
instance : TAgg Tryd.prog 134 4 := .of (by kernel_rfl)
instance : TConcrete Tryd.prog 134 := .of (by kernel_rfl)
instance : TField Tryd.prog 134 0 0 := .of (by kernel_rfl)
instance : TField Tryd.prog 134 1 1 := .of (by kernel_rfl)
instance : TField Tryd.prog 134 2 2 := .of (by kernel_rfl)
instance : TField Tryd.prog 134 3 3 := .of (by kernel_rfl)
instance : TStruct Tryd.prog 134 [(0, 1), (1, 1), (2, 1), (3, 1)] := .of (by kernel_rfl)
instance : TZero Tryd.prog 134 [.pointer none, .pointer none, .pointer none, .string ⟨#[]⟩] := .of (v := .agg #[.pointer none, .pointer none, .pointer none, .string ⟨#[]⟩]) (n := 4) (by kernel_rfl) rfl rfl
instance : TRow Tryd.prog 134 4 40 := .of (by kernel_rfl)
-- type 135: runtime.TypeAssertionError
instance : TSize Tryd.prog 135 4 := .of (by kernel_rfl)
instance : TAgg Tryd.prog 135 4 := .of (by kernel_rfl)
instance : TConcrete Tryd.prog 135 := .of (by kernel_rfl)
instance : TField Tryd.prog 135 0 0 := .of (by kernel_rfl)
instance : TField Tryd.prog 135 1 1 := .of (by kernel_rfl)
instance : TField Tryd.prog 135 2 2 := .of (by kernel_rfl)
instance : TField Tryd.prog 135 3 3 := .of (by kernel_rfl)
instance : TStruct Tryd.prog 135 [(0, 1), (1, 1), (2, 1), (3, 1)] := .of (by kernel_rfl)
instance : TZero Tryd.prog 135 [.pointer none, .pointer none, .pointer none, .string ⟨#[]⟩] := .of (v := .agg #[.pointer none, .pointer none, .pointer none, .string ⟨#[]⟩]) (n := 4) (by kernel_rfl) rfl rfl
instance : TRow Tryd.prog 135 4 40 := .of (by kernel_rfl)
-- type 136: [0]*runtime.PanicNilError
instance : TSize Tryd.prog 136 0 := .of (by kernel_rfl)
instance : TAgg Tryd.prog 136 0 := .of (by kernel_rfl)
instance : TConcrete Tryd.prog 136 := .of (by kernel_rfl)
instance : TZero Tryd.prog 136 [] := .of (v := .agg #[]) (n := 0) (by kernel_rfl) rfl rfl
-- type 137: struct { _ [0]*runtime.PanicNilError }
instance : TSize Tryd.prog 137 0 := .of (by kernel_rfl)
instance : TAgg Tryd.prog 137 0 := .of (by kernel_rfl)
instance : TConcrete Tryd.prog 137 := .of (by kernel_rfl)
instance : TStruct Tryd.prog 137 [(0, 0)] := .of (by kernel_rfl)
instance : TZero Tryd.prog 137 [] := .of (v := .agg #[]) (n := 0) (by kernel_rfl) rfl rfl
-- type 138: runtime.PanicNilError
instance : TSize Tryd.prog 138 0 := .of (by kernel_rfl)
instance : TAgg Tryd.prog 138 0 := .of (by kernel_rfl)
instance : TConcrete Tryd.prog 138 := .of (by kernel_rfl)
instance : TStruct Tryd.prog 138 [(0, 0)] := .of (by kernel_rfl)
instance : TZero Tryd.prog 138 [] := .of (v := .agg #[]) (n := 0) (by kernel_rfl) rfl rfl
-- type 139: func() int
instance : TSize Tryd.prog 139 1 := .of (by kernel_rfl)
instance : TOne Tryd.prog 139 := .of (by kernel_rfl)
instance : TConcrete Tryd.prog 139 := .of (by kernel_rfl)
instance : TZero Tryd.prog 139 [.nilFunc] := .of (v := .nilFunc) (n := 1) (by kernel_rfl) rfl rfl
instance : TRow Tryd.prog 139 1 8 := .of (by kernel_rfl)
-- type 140: abi.TFlag
instance : TSize Tryd.prog 140 1 := .of (by kernel_rfl)
instance : TOne Tryd.prog 140 := .of (by kernel_rfl)
instance : TKind Tryd.prog 140 .u8 := .of (by kernel_rfl)
instance : TConcrete Tryd.prog 140 := .of (by kernel_rfl)
instance : TZero Tryd.prog 140 [.int .u8 0] := .of (v := .int .u8 0) (n := 1) (by kernel_rfl) rfl rfl
instance : TRow Tryd.prog 140 1 1 := .of (by kernel_rfl)
-- type 141: abi.Kind
instance : TSize Tryd.prog 141 1 := .of (by kernel_rfl)
instance : TOne Tryd.prog 141 := .of (by kernel_rfl)
instance : TKind Tryd.prog 141 .u8 := .of (by kernel_rfl)
instance : TConcrete Tryd.prog 141 := .of (by kernel_rfl)
instance : TZero Tryd.prog 141 [.int .u8 0] := .of (v := .int .u8 0) (n := 1) (by kernel_rfl) rfl rfl
instance : TRow Tryd.prog 141 1 1 := .of (by kernel_rfl)
-- type 142: func(unsafe.Pointer, unsafe.Pointer) bool
instance : TSize Tryd.prog 142 1 := .of (by kernel_rfl)
instance : TOne Tryd.prog 142 := .of (by kernel_rfl)
instance : TConcrete Tryd.prog 142 := .of (by kernel_rfl)
instance : TZero Tryd.prog 142 [.nilFunc] := .of (v := .nilFunc) (n := 1) (by kernel_rfl) rfl rfl
instance : TRow Tryd.prog 142 1 8 := .of (by kernel_rfl)
-- type 143: abi.NameOff
instance : TSize Tryd.prog 143 1 := .of (by kernel_rfl)
instance : TOne Tryd.prog 143 := .of (by kernel_rfl)
instance : TKind Tryd.prog 143 .i32 := .of (by kernel_rfl)
instance : TConcrete Tryd.prog 143 := .of (by kernel_rfl)
instance : TZero Tryd.prog 143 [.int .i32 0] := .of (v := .int .i32 0) (n := 1) (by kernel_rfl) rfl rfl
instance : TRow Tryd.prog 143 1 4 := .of (by kernel_rfl)
-- type 144: abi.TypeOff
instance : TSize Tryd.prog 144 1 := .of (by kernel_rfl)
instance : TOne Tryd.prog 144 := .of (by kernel_rfl)
instance : TKind Tryd.prog 144 .i32 := .of (by kernel_rfl)
instance : TConcrete Tryd.prog 144 := .of (by kernel_rfl)
instance : TZero Tryd.prog 144 [.int .i32 0] := .of (v := .int .i32 0) (n := 1) (by kernel_rfl) rfl rfl
instance : TRow Tryd.prog 144 1 4 := .of (by kernel_rfl)
-- type 145: struct { Size_ uintptr; PtrBytes uintptr; Hash uint32; TFlag abi.TFlag; Align_ u
instance : TSize Tryd.prog 145 11 := .of (by kernel_rfl)
instance : TAgg Tryd.prog 145 11 := .of (by kernel_rfl)
instance : TConcrete Tryd.prog 145 := .of (by kernel_rfl)
instance : TField Tryd.prog 145 0 0 := .of (by kernel_rfl)
instance : TField Tryd.prog 145 1 1 := .of (by kernel_rfl)
instance : TField Tryd.prog 145 2 2 := .of (by kernel_rfl)
instance : TField Tryd.prog 145 3 3 := .of (by kernel_rfl)
instance : TField Tryd.prog 145 4 4 := .of (by kernel_rfl)
instance : TField Tryd.prog 145 5 5 := .of (by kernel_rfl)
instance : TField Tryd.prog 145 6 6 := .of (by kernel_rfl)
instance : TField Tryd.prog 145 7 7 := .of (by kernel_rfl)
instance : TField Tryd.prog 145 8 8 := .of (by kernel_rfl)
instance : TField Tryd.prog 145 9 9 := .of (by kernel_rfl)
instance : TField Tryd.prog 145 10 10 := .of (by kernel_rfl)
instance : TStruct Tryd.prog 145 [(0, 1), (1, 1), (2, 1), (3, 1), (4, 1), (5, 1), (6, 1), (7, 1), (8, 1), (9, 1), (10, 1)] := .of (by kernel_rfl)
instance : TZero Tryd.prog 145 [.int .u64 0, .int .u64 0, .int .u32 0, .int .u8 0, .int .u8 0, .int .u8 0, .int .u8 0, .nilFunc, .pointer none, .int .i32 0, .int .i32 0] := .of (v := .agg #[.int .u64 0, .int .u64 0, .int .u32 0, .int .u8 0, .int .u8 0, .int .u8 0, .int .u8 0, .nilFunc, .pointer none, .int .i32 0, .int .i32 0]) (n := 11) (by kernel_rfl) rfl rfl
instance : TRow Tryd.prog 145 11 48 := .of (by kernel_rfl)
-- type 146: abi.Type
instance : TSize Tryd.prog 146 11 := .of (by kernel_rfl)
instance : TAgg Tryd.prog 146 11 := .of (by kernel_rfl)
instance : TConcrete Tryd.prog 146 := .of (by kernel_rfl)
instance : TField Tryd.prog 146 0 0 := .of (by kernel_rfl)
instance : TField Tryd.prog 146 1 1 := .of (by kernel_rfl)
instance : TField Tryd.prog 146 2 2 := .of (by kernel_rfl)
instance : TField Tryd.prog 146 3 3 := .of (by kernel_rfl)
instance : TField Tryd.prog 146 4 4 := .of (by kernel_rfl)
instance : TField Tryd.prog 146 5 5 := .of (by kernel_rfl)
instance : TField Tryd.prog 146 6 6 := .of (by kernel_rfl)
instance : TField Tryd.prog 146 7 7 := .of (by kernel_rfl)
instance : TField Tryd.prog 146 8 8 := .of (by kernel_rfl)
instance : TField Tryd.prog 146 9 9 := .of (by kernel_rfl)
instance : TField Tryd.prog 146 10 10 := .of (by kernel_rfl)
instance : TStruct Tryd.prog 146 [(0, 1), (1, 1), (2, 1), (3, 1), (4, 1), (5, 1), (6, 1), (7, 1), (8, 1), (9, 1), (10, 1)] := .of (by kernel_rfl)
instance : TZero Tryd.prog 146 [.int .u64 0, .int .u64 0, .int .u32 0, .int .u8 0, .int .u8 0, .int .u8 0, .int .u8 0, .nilFunc, .pointer none, .int .i32 0, .int .i32 0] := .of (v := .agg #[.int .u64 0, .int .u64 0, .int .u32 0, .int .u8 0, .int .u8 0, .int .u8 0, .int .u8 0, .nilFunc, .pointer none, .int .i32 0, .int .i32 0]) (n := 11) (by kernel_rfl) rfl rfl
instance : TRow Tryd.prog 146 11 48 := .of (by kernel_rfl)
-- type 147: unsafe.Pointer
instance : TSize Tryd.prog 147 1 := .of (by kernel_rfl)
instance : TOne Tryd.prog 147 := .of (by kernel_rfl)
instance : TConcrete Tryd.prog 147 := .of (by kernel_rfl)
instance : TZero Tryd.prog 147 [.pointer none] := .of (v := .pointer none) (n := 1) (by kernel_rfl) rfl rfl
instance : TRow Tryd.prog 147 1 8 := .of (by kernel_rfl)
instance : TEnter Tryd.prog 3 := .of (by kernel_rfl)
instance : TEnter Tryd.prog 4 := .of (by kernel_rfl)
instance : TEnter Tryd.prog 5 := .of (by kernel_rfl)
instance : TEnter Tryd.prog 6 := .of (by kernel_rfl)
instance : TEnter Tryd.prog 7 := .of (by kernel_rfl)
instance : TEnter Tryd.prog 8 := .of (by kernel_rfl)
instance : TEnter Tryd.prog 9 := .of (by kernel_rfl)
instance : TEnter Tryd.prog 10 := .of (by kernel_rfl)
instance : TEnter Tryd.prog 11 := .of (by kernel_rfl)
instance : TEnter Tryd.prog 12 := .of (by kernel_rfl)
instance : TEnter Tryd.prog 13 := .of (by kernel_rfl)
instance : TEnter Tryd.prog 14 := .of (by kernel_rfl)
instance : TEnter Tryd.prog 15 := .of (by kernel_rfl)
instance : TEnter Tryd.prog 16 := .of (by kernel_rfl)
instance : TEnter Tryd.prog 17 := .of (by kernel_rfl)
instance : TEnter Tryd.prog 18 := .of (by kernel_rfl)
instance : TEnter Tryd.prog 19 := .of (by kernel_rfl)
instance : TEnter Tryd.prog 20 := .of (by kernel_rfl)
instance : TEnter Tryd.prog 21 := .of (by kernel_rfl)
instance : TEnter Tryd.prog 22 := .of (by kernel_rfl)
instance : TEnter Tryd.prog 23 := .of (by kernel_rfl)
instance : TEnter Tryd.prog 24 := .of (by kernel_rfl)
instance : TEnter Tryd.prog 25 := .of (by kernel_rfl)
instance : TEnter Tryd.prog 26 := .of (by kernel_rfl)
instance : TEnter Tryd.prog 27 := .of (by kernel_rfl)
instance : TEnter Tryd.prog 28 := .of (by kernel_rfl)
instance : TEnter Tryd.prog 29 := .of (by kernel_rfl)
instance : TEnter Tryd.prog 30 := .of (by kernel_rfl)
instance : TEnter Tryd.prog 31 := .of (by kernel_rfl)
instance : TEnter Tryd.prog 32 := .of (by kernel_rfl)
instance : TEnter Tryd.prog 33 := .of (by kernel_rfl)
instance : TEnter Tryd.prog 34 := .of (by kernel_rfl)
instance : TEnter Tryd.prog 35 := .of (by kernel_rfl)
instance : TEnter Tryd.prog 36 := .of (by kernel_rfl)
instance : TEnter Tryd.prog 38 := .of (by kernel_rfl)
instance : TEnter Tryd.prog 39 := .of (by kernel_rfl)
instance : TEnter Tryd.prog 40 := .of (by kernel_rfl)
instance : TEnter Tryd.prog 41 := .of (by kernel_rfl)
instance : TEnter Tryd.prog 42 := .of (by kernel_rfl)
instance : TEnter Tryd.prog 43 := .of (by kernel_rfl)
instance : TEnter Tryd.prog 44 := .of (by kernel_rfl)
instance : TEnter Tryd.prog 45 := .of (by kernel_rfl)
instance : TEnter Tryd.prog 46 := .of (by kernel_rfl)
instance : TEnter Tryd.prog 47 := .of (by kernel_rfl)
instance : TEnter Tryd.prog 48 := .of (by kernel_rfl)
instance : TEnter Tryd.prog 49 := .of (by kernel_rfl)
instance : TEnter Tryd.prog 50 := .of (by kernel_rfl)
instance : TEnter Tryd.prog 51 := .of (by kernel_rfl)
instance : TEnter Tryd.prog 52 := .of (by kernel_rfl)
instance : TEnter Tryd.prog 53 := .of (by kernel_rfl)
instance : TEnter Tryd.prog 54 := .of (by kernel_rfl)
instance : TEnter Tryd.prog 55 := .of (by kernel_rfl)
instance : TEnter Tryd.prog 56 := .of (by kernel_rfl)
instance : TEnter Tryd.prog 57 := .of (by kernel_rfl)
instance : TEnter Tryd.prog 58 := .of (by kernel_rfl)
instance : TEnter Tryd.prog 59 := .of (by kernel_rfl)
instance : TEnter Tryd.prog 60 := .of (by kernel_rfl)
instance : TEnter Tryd.prog 62 := .of (by kernel_rfl)
instance : TEnter Tryd.prog 63 := .of (by kernel_rfl)
instance : TEnter Tryd.prog 64 := .of (by kernel_rfl)
instance : TEnter Tryd.prog 65 := .of (by kernel_rfl)
instance : TEnter Tryd.prog 66 := .of (by kernel_rfl)
instance : TEnter Tryd.prog 67 := .of (by kernel_rfl)
instance : TEnter Tryd.prog 68 := .of (by kernel_rfl)
instance : TEnter Tryd.prog 69 := .of (by kernel_rfl)
instance : TEnter Tryd.prog 70 := .of (by kernel_rfl)
instance : TEnter Tryd.prog 71 := .of (by kernel_rfl)
instance : TEnter Tryd.prog 72 := .of (by kernel_rfl)
instance : TEnter Tryd.prog 73 := .of (by kernel_rfl)
instance : TEnter Tryd.prog 74 := .of (by kernel_rfl)
instance : TEnter Tryd.prog 75 := .of (by kernel_rfl)
instance : TEnter Tryd.prog 76 := .of (by kernel_rfl)
instance : TEnter Tryd.prog 77 := .of (by kernel_rfl)
instance : TEnter Tryd.prog 79 := .of (by kernel_rfl)
instance : TEnter Tryd.prog 80 := .of (by kernel_rfl)
instance : TEnter Tryd.prog 81 := .of (by kernel_rfl)
instance : TEnter Tryd.prog 82 := .of (by kernel_rfl)
instance : TEnter Tryd.prog 83 := .of (by kernel_rfl)
instance : TEnter Tryd.prog 84 := .of (by kernel_rfl)
instance : TEnter Tryd.prog 85 := .of (by kernel_rfl)
instance : TEnter Tryd.prog 86 := .of (by kernel_rfl)
instance : TEnter Tryd.prog 87 := .of (by kernel_rfl)
instance : TEnter Tryd.prog 88 := .of (by kernel_rfl)
instance : TEnter Tryd.prog 89 := .of (by kernel_rfl)
instance : TEnter Tryd.prog 90 := .of (by kernel_rfl)
instance : TEnter Tryd.prog 91 := .of (by kernel_rfl)
instance : TEnter Tryd.prog 92 := .of (by kernel_rfl)
instance : TEnter Tryd.prog 93 := .of (by kernel_rfl)
instance : TEnter Tryd.prog 94 := .of (by kernel_rfl)
instance : TEnter Tryd.prog 95 := .of (by kernel_rfl)
instance : TEnter Tryd.prog 96 := .of (by kernel_rfl)
instance : TEnter Tryd.prog 97 := .of (by kernel_rfl)
end Go.Proofs.YtfodkbchknknjaaDoor
