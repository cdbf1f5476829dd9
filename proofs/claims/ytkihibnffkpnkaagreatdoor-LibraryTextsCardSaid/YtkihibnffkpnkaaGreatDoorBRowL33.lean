import Derived.Test.YtkihibnffkpnkaaGreatDoorProg
import Derived.Shelf.Strings.Builder1
import Derived.Shelf.Strings.Builder2
import Derived.Shelf.Strings.OnBuilder
import Derived.Shelf.Strings.Trim
import Derived.Shelf.Small.Utf8
import Derived.Shelf.Small.Strs
import Derived.Shelf.Small.Wraps
import Derived.Shelf.Strings.BuilderF
import Derived.Shelf.Strings.BuilderK
import Derived.Shelf.Utf8.RuneCount
import Derived.Shelf.Strings.Builder2Cap
import Derived.Shelf.Strconv.Itoa0
import Derived.Shelf.Strconv.Itoa1
import Derived.Shelf.LaysM
import Derived.Shelf.Strconv.Itoa2
import Derived.Shelf.Strconv.Itoa3
import Derived.Shelf.Strconv.Clone
import Derived.Shelf.Strconv.SyntaxError
import Derived.Shelf.LaysC
import Derived.Shelf.Strconv.ToError
import Derived.Shelf.Strconv.Lower
import Derived.Shelf.Strconv.ParseUint10
import Derived.Shelf.Strconv.ParseUint10Empty
import Derived.Shelf.Strconv.ParseUint10Any
import Derived.Shelf.Strconv.RangeError
import Derived.Shelf.Strconv.ToErrorRange
import Derived.Shelf.Strconv.ParseUintEmpty
import Derived.Shelf.Strconv.ParseUint10b64
import Derived.Shelf.Strconv.ParseUint10b32
import Derived.Shelf.Strconv.ParseUint10b16
import Derived.Shelf.Strconv.ParseUint10b8
import Derived.Shelf.Strconv.ParseUint10At
import Derived.Ground.MpProg
import Derived.Shelf.Pu.ParseUintPublic10
import Derived.Shelf.Pu.ErrVarParseUint
import Derived.Shelf.Strings.Search1
import Derived.Shelf.Strings.Search2
import Derived.Shelf.Strings.Search3
import Derived.Shelf.Strings.Cut
import Derived.Shelf.Strings.Count
import Derived.Shelf.Strings.Shaped
import Derived.Shelf.Strings.Prefix
import Derived.Shelf.Strings.Split
import Derived.Shelf.Strings.SplitShaped
import Derived.Shelf.Unicode.Decode
import Derived.Shelf.Strings.Runes
import Derived.Shelf.Strings.RuneCount
import Derived.Shelf.Strings.AsciiSet
import Derived.Shelf.Strings.Explode
import Derived.Shelf.Unicode.DecodeSlow
import Derived.Shelf.Unicode.DecodeAny
import Derived.Shelf.Unicode.DecodeLast
import Derived.Shelf.Strings.BuilderCap
import Derived.Shelf.Slices.Turned
import Derived.Ground.Names2Prog
import Derived.Shelf.Slices.Clone
import Derived.Ground.SlgnProg
import Derived.Shelf.SlicesE.Clone
import Derived.Lib.Walk
import Derived.Lib.ItoaMem
import Derived.Lib.AppendIntMem
import Derived.WalkKit
import Derived.BigCall
import Derived.BigGuard
import Derived.WalkSmall
import Derived.Deep.WholeRow
import Derived.Lib.SplitLaws
import Derived.Shelf.Strings.SlTrimAscii
import Derived.Test.YtkihibnffkpnkaaGreatDoorBRowL32
set_option linter.unusedVariables false
set_option linter.unusedSimpArgs false
set_option maxRecDepth 100000
set_option maxHeartbeats 4000000
open List (mem_append_right length_drop length_singleton perm_append_singleton not_mem_nil map_map all_reverse)
open Nat (lt_succ_self zero_le max_zero)
namespace Go.Proofs.YtkihibnffkpnkaaGreatDoor
open Go.GL
noncomputable abbrev zTp:=Tryz.prog
instance:TMixed zTp:=⟨by kernel_rfl⟩
instance:TSize zTp 3 1:=.of zk
instance:TOne zTp 3:=.of zk
instance:TKind zTp 3 .i64:=.of zk
instance:TZero zTp 3 [.int .i64 0]:=.of (v:=.int .i64 0) (n:=1) zk rfl rfl
instance:TRow zTp 3 1 8:=.of zk
instance:TSize zTp 4 1:=.of zk
instance:TOne zTp 4:=.of zk
instance:TKind zTp 5 .u8:=.of zk
instance:TZero zTp 5 [.int .u8 0]:=.of (v:=.int .u8 0) (n:=1) zk rfl rfl
instance:TRow zTp 5 1 1:=.of zk
instance:TSize zTp 9 1:=.of zk
instance:TOne zTp 9:=.of zk
instance:TStr zTp 9:=.of zk
instance:TZero zTp 9 [.string ⟨#[]⟩]:=.of (v:=.string ⟨#[]⟩) (n:=1) zk rfl rfl
instance:TRow zTp 9 1 16:=.of zk
instance:TSize zTp 23 1:=.of zk
instance:TOne zTp 23:=.of zk
instance:TZero zTp 23 [.int .i64 0]:=.of (v:=.int .i64 0) (n:=1) zk rfl rfl
instance:TSize zTp 25 3:=.of zk
instance:TAgg zTp 25 3:=.of zk
instance:TField zTp 25 0 0:=.of zk
instance:TField zTp 25 1 1:=.of zk
instance:TStruct zTp 25 [(0,1),(1,1),(2,1)]:=.of zk
instance:TZero zTp 25 [.string ⟨#[]⟩,.int .i64 0,.int .i64 0]:=.of (v:=.agg #[.string ⟨#[]⟩,.int .i64 0,.int .i64 0]) (n:=3) zk rfl rfl
instance:TSize zTp 27 1:=.of zk
instance:TOne zTp 27:=.of zk
instance:TSlice zTp 27 30 1:=.of zk
instance:TSize zTp 30 1:=.of zk
instance:TOne zTp 30:=.of zk
instance:TKind zTp 30 .u32:=.of zk
instance:TZero zTp 30 [.int .u32 0]:=.of (v:=.int .u32 0) (n:=1) zk rfl rfl
instance:TRow zTp 30 1 4:=.of zk
instance:TSize zTp 32 1:=.of zk
instance:TOne zTp 32:=.of zk
instance:TSlice zTp 32 9 1:=.of zk
instance:TZero zTp 32 [.slice none 0 0]:=.of (v:=.slice none 0 0) (n:=1) zk rfl rfl
instance:TSize zTp 40 1:=.of zk
instance:TOne zTp 40:=.of zk
instance:TSlice zTp 40 106 2:=.of zk
instance:TSize zTp 41 1:=.of zk
instance:TOne zTp 41:=.of zk
instance:TSlice zTp 41 110 4:=.of zk
instance:TSize zTp 43 3:=.of zk
instance:TAgg zTp 43 3:=.of zk
instance:TField zTp 43 0 0:=.of zk
instance:TField zTp 43 1 1:=.of zk
instance:TField zTp 43 2 2:=.of zk
instance:TStruct zTp 43 [(0,1),(1,1),(2,1)]:=.of zk
instance:TZero zTp 43 [.slice none 0 0,.slice none 0 0,.slice none 0 0]:=.of (v:=.agg #[.slice none 0 0,.slice none 0 0,.slice none 0 0]) (n:=3) zk rfl rfl
instance:TOne zTp 47:=.of zk
instance:TSize zTp 52 2:=.of zk
instance:TAgg zTp 52 2:=.of zk
instance:TField zTp 52 0 0:=.of zk
instance:TField zTp 52 1 1:=.of zk
instance:TStruct zTp 52 [(0,1),(1,1)]:=.of zk
instance:TZero zTp 52 [.int .i64 0,.string ⟨#[]⟩]:=.of (v:=.agg #[.int .i64 0,.string ⟨#[]⟩]) (n:=2) zk rfl rfl
instance:TSlice zTp 53 52 2:=.of zk
instance:TSize zTp 56 3:=.of zk
instance:TAgg zTp 56 3:=.of zk
instance:TField zTp 56 0 0:=.of zk
instance:TField zTp 56 1 1:=.of zk
instance:TField zTp 56 2 2:=.of zk
instance:TStruct zTp 56 [(0,1),(1,1),(2,1)]:=.of zk
instance:TZero zTp 56 [.int .i64 0,.int .i64 0,.int .i64 0]:=.of (v:=.agg #[.int .i64 0,.int .i64 0,.int .i64 0]) (n:=3) zk rfl rfl
instance:TSize zTp 59 1:=.of zk
instance:TOne zTp 59:=.of zk
instance:TSlice zTp 59 5 1:=.of zk
instance:TSlice zTp 61 64 2:=.of zk
instance:TSize zTp 64 2:=.of zk
instance:TAgg zTp 64 2:=.of zk
instance:TField zTp 64 0 0:=.of zk
instance:TField zTp 64 1 1:=.of zk
instance:TStruct zTp 64 [(0,1),(1,1)]:=.of zk
instance:TZero zTp 64 [.string ⟨#[]⟩,.nilFunc]:=.of (v:=.agg #[.string ⟨#[]⟩,.nilFunc]) (n:=2) zk rfl rfl
instance:TField zTp 69 1 1:=.of zk
instance:TZero zTp 69 [.pointer none,.slice none 0 0]:=.of (v:=.agg #[.pointer none,.slice none 0 0]) (n:=2) zk rfl rfl
instance:TOne zTp 74:=.of zk
instance:TSlice zTp 74 100 3:=.of zk
instance:TSize zTp 78 2:=.of zk
instance:TConcrete zTp 78:=.of zk
instance:TField zTp 78 0 0:=.of zk
instance:TField zTp 78 1 1:=.of zk
instance:TStruct zTp 78 [(0,1),(1,1)]:=.of zk
instance:TZero zTp 78 [.int .i64 0,.int .i64 0]:=.of (v:=.agg #[.int .i64 0,.int .i64 0]) (n:=2) zk rfl rfl
instance:TOne zTp 80:=.of zk
instance:TField zTp 82 0 0:=.of zk
instance:TField zTp 82 1 1:=.of zk
instance:TField zTp 82 2 2:=.of zk
instance:TStruct zTp 82 [(0,1),(1,1),(2,1)]:=.of zk
instance:TZero zTp 82 [.slice none 0 0,.int .i64 0,.int .i64 0]:=.of (v:=.agg #[.slice none 0 0,.int .i64 0,.int .i64 0]) (n:=3) zk rfl rfl
instance:TOne zTp 86:=.of zk
instance:TField zTp 89 0 0:=.of zk
instance:TField zTp 89 1 1:=.of zk
instance:TField zTp 89 2 2:=.of zk
instance:TField zTp 89 3 3:=.of zk
instance:TField zTp 89 4 4:=.of zk
instance:TField zTp 89 5 5:=.of zk
instance:TField zTp 89 6 6:=.of zk
instance:TField zTp 89 7 7:=.of zk
instance:TField zTp 89 8 8:=.of zk
instance:TField zTp 89 9 9:=.of zk
instance:TStruct zTp 89 [(0,1),(1,1),(2,1),(3,1),(4,1),(5,1),(6,1),(7,1),(8,1),(9,1)]:=.of zk
instance:TZero zTp 89 [.slice none 0 0,.int .u32 0,.slice none 0 0,.slice none 0 0,.slice none 0 0,.slice none 0 0,.bool false,.int .i64 0,.bool false,.map none]:=.of (v:=.agg #[.slice none 0 0,.int .u32 0,.slice none 0 0,.slice none 0 0,.slice none 0 0,.slice none 0 0,.bool false,.int .i64 0,.bool false,.map none]) (n:=10) zk rfl rfl
instance:TSlice zTp 93 137 2:=.of zk
instance:TSize zTp 100 3:=.of zk
instance:TAgg zTp 100 3:=.of zk
instance:TField zTp 100 0 0:=.of zk
instance:TField zTp 100 1 1:=.of zk
instance:TField zTp 100 2 2:=.of zk
instance:TStruct zTp 100 [(0,1),(1,1),(2,1)]:=.of zk
instance:TZero zTp 100 [.int .i64 0,.string ⟨#[]⟩,.int .i64 0]:=.of (v:=.agg #[.int .i64 0,.string ⟨#[]⟩,.int .i64 0]) (n:=3) zk rfl rfl
instance:TRow zTp 100 3 32:=.of zk
instance:TSize zTp 106 2:=.of zk
instance:TAgg zTp 106 2:=.of zk
instance:TField zTp 106 0 0:=.of zk
instance:TField zTp 106 1 1:=.of zk
instance:TStruct zTp 106 [(0,1),(1,1)]:=.of zk
instance:TZero zTp 106 [.string ⟨#[]⟩,.int .i64 0]:=.of (v:=.agg #[.string ⟨#[]⟩,.int .i64 0]) (n:=2) zk rfl rfl
instance:TRow zTp 106 2 24:=.of zk
instance:TSize zTp 108 1:=.of zk
instance:TOne zTp 108:=.of zk
instance:TSlice zTp 108 193 6:=.of zk
instance:TSize zTp 110 4:=.of zk
instance:TAgg zTp 110 4:=.of zk
instance:TField zTp 110 0 0:=.of zk
instance:TField zTp 110 1 1:=.of zk
instance:TField zTp 110 2 2:=.of zk
instance:TField zTp 110 3 3:=.of zk
instance:TStruct zTp 110 [(0,1),(1,1),(2,1),(3,1)]:=.of zk
instance:TZero zTp 110 [.string ⟨#[]⟩,.slice none 0 0,.slice none 0 0,.slice none 0 0]:=.of (v:=.agg #[.string ⟨#[]⟩,.slice none 0 0,.slice none 0 0,.slice none 0 0]) (n:=4) zk rfl rfl
instance:TRow zTp 110 4 88:=.of zk
instance:TSize zTp 116 0:=.of zk
instance:TConcrete zTp 116:=.of zk
instance:TStruct zTp 116 []:=.of zk
instance:TZero zTp 116 []:=.of (v:=.agg #[]) (n:=0) zk rfl rfl
instance:TSize zTp 120 2:=.of zk
instance:TConcrete zTp 120:=.of zk
instance:TField zTp 120 0 0:=.of zk
instance:TField zTp 120 1 1:=.of zk
instance:TStruct zTp 120 [(0,1),(1,1)]:=.of zk
instance:TZero zTp 120 [.string ⟨#[]⟩,.int .i64 0]:=.of (v:=.agg #[.string ⟨#[]⟩,.int .i64 0]) (n:=2) zk rfl rfl
instance:TSize zTp 123 1:=.of zk
instance:TOne zTp 123:=.of zk
instance:TOne zTp 124:=.of zk
instance:TField zTp 126 0 0:=.of zk
instance:TField zTp 126 1 1:=.of zk
instance:TField zTp 126 2 2:=.of zk
instance:TField zTp 126 3 3:=.of zk
instance:TField zTp 126 4 4:=.of zk
instance:TField zTp 126 5 5:=.of zk
instance:TField zTp 126 6 6:=.of zk
instance:TStruct zTp 126 [(0,1),(1,1),(2,1),(3,1),(4,1),(5,1),(6,1)]:=.of zk
instance:TZero zTp 126 [.map none,.map none,.map none,.map none,.string ⟨#[]⟩,.map none,.int .i64 0]:=.of (v:=.agg #[.map none,.map none,.map none,.map none,.string ⟨#[]⟩,.map none,.int .i64 0]) (n:=7) zk rfl rfl
instance:TOne zTp 129:=.of zk
instance:TOne zTp 130:=.of zk
instance:TField zTp 132 0 0:=.of zk
instance:TField zTp 132 1 1:=.of zk
instance:TField zTp 132 2 2:=.of zk
instance:TField zTp 132 3 3:=.of zk
instance:TField zTp 132 4 4:=.of zk
instance:TField zTp 132 5 5:=.of zk
instance:TStruct zTp 132 [(0,1),(1,1),(2,1),(3,1),(4,1),(5,1)]:=.of zk
instance:TZero zTp 132 [.slice none 0 0,.int .i64 0,.int .i64 0,.map none,.map none,.string ⟨#[]⟩]:=.of (v:=.agg #[.slice none 0 0,.int .i64 0,.int .i64 0,.map none,.map none,.string ⟨#[]⟩]) (n:=6) zk rfl rfl
instance:TSize zTp 137 2:=.of zk
instance:TAgg zTp 137 2:=.of zk
instance:TField zTp 137 0 0:=.of zk
instance:TField zTp 137 1 1:=.of zk
instance:TStruct zTp 137 [(0,1),(1,1)]:=.of zk
instance:TZero zTp 137 [.string ⟨#[]⟩,.int .i64 0]:=.of (v:=.agg #[.string ⟨#[]⟩,.int .i64 0]) (n:=2) zk rfl rfl
instance:TRow zTp 137 2 24:=.of zk
instance:TSlice zTp 141 171 2:=.of zk
instance:TSize zTp 160 3:=.of zk
instance:TField zTp 160 0 0:=.of zk
instance:TField zTp 160 1 1:=.of zk
instance:TField zTp 160 2 2:=.of zk
instance:TStruct zTp 160 [(0,1),(1,1),(2,1)]:=.of zk
instance:TZero zTp 160 [.int .i64 0,.int .i64 0,.int .i64 0]:=.of (v:=.agg #[.int .i64 0,.int .i64 0,.int .i64 0]) (n:=3) zk rfl rfl
instance:TSize zTp 162 2:=.of zk
instance:TAgg zTp 162 2:=.of zk
instance:TField zTp 162 0 0:=.of zk
instance:TField zTp 162 1 1:=.of zk
instance:TStruct zTp 162 [(0,1),(1,1)]:=.of zk
instance:TZero zTp 162 [.int .i64 0,.int .i64 0]:=.of (v:=.agg #[.int .i64 0,.int .i64 0]) (n:=2) zk rfl rfl
instance:TSlice zTp 163 162 2:=.of zk
instance:TSize zTp 171 2:=.of zk
instance:TAgg zTp 171 2:=.of zk
instance:TField zTp 171 0 0:=.of zk
instance:TField zTp 171 1 1:=.of zk
instance:TStruct zTp 171 [(0,1),(1,1)]:=.of zk
instance:TZero zTp 171 [.string ⟨#[]⟩,.int .i64 0]:=.of (v:=.agg #[.string ⟨#[]⟩,.int .i64 0]) (n:=2) zk rfl rfl
instance:TRow zTp 171 2 24:=.of zk
instance:TSlice zTp 175 176 1:=.of zk
instance:TOne zTp 176:=.of zk
instance:TZero zTp 176 [.nilFunc]:=.of (v:=.nilFunc) (n:=1) zk rfl rfl
instance:TAgg zTp 179 2:=.of zk
instance:TField zTp 179 0 0:=.of zk
instance:TField zTp 179 1 1:=.of zk
instance:TStruct zTp 179 [(0,1),(1,1)]:=.of zk
instance:TZero zTp 179 [.slice none 0 0,.map none]:=.of (v:=.agg #[.slice none 0 0,.map none]) (n:=2) zk rfl rfl
instance:TKind zTp 186 .u64:=.of zk
instance:TSize zTp 191 1:=.of zk
instance:TOne zTp 191:=.of zk
instance:TSlice zTp 191 202 4:=.of zk
instance:TSize zTp 193 6:=.of zk
instance:TAgg zTp 193 6:=.of zk
instance:TField zTp 193 0 0:=.of zk
instance:TField zTp 193 1 1:=.of zk
instance:TField zTp 193 2 2:=.of zk
instance:TField zTp 193 3 3:=.of zk
instance:TField zTp 193 4 4:=.of zk
instance:TField zTp 193 5 5:=.of zk
instance:TStruct zTp 193 [(0,1),(1,1),(2,1),(3,1),(4,1),(5,1)]:=.of zk
instance:TZero zTp 193 [.int .i64 0,.string ⟨#[]⟩,.slice none 0 0,.slice none 0 0,.slice none 0 0,.slice none 0 0]:=.of (v:=.agg #[.int .i64 0,.string ⟨#[]⟩,.slice none 0 0,.slice none 0 0,.slice none 0 0,.slice none 0 0]) (n:=6) zk rfl rfl
instance:TRow zTp 193 6 120:=.of zk
instance:TOne zTp 197:=.of zk
instance:TSlice zTp 197 32 1:=.of zk
instance:TSize zTp 202 4:=.of zk
instance:TAgg zTp 202 4:=.of zk
instance:TField zTp 202 0 0:=.of zk
instance:TField zTp 202 1 1:=.of zk
instance:TField zTp 202 2 2:=.of zk
instance:TField zTp 202 3 3:=.of zk
instance:TStruct zTp 202 [(0,1),(1,1),(2,1),(3,1)]:=.of zk
instance:TZero zTp 202 [.string ⟨#[]⟩,.int .u32 0,.string ⟨#[]⟩,.slice none 0 0]:=.of (v:=.agg #[.string ⟨#[]⟩,.int .u32 0,.string ⟨#[]⟩,.slice none 0 0]) (n:=4) zk rfl rfl
instance:TRow zTp 202 4 64:=.of zk
instance:TSize zTp 213 1:=.of zk
instance:TOne zTp 213:=.of zk
instance:TZero zTp 213 [.nilFunc]:=.of (v:=.nilFunc) (n:=1) zk rfl rfl
instance:TSlice zTp 261 3 1:=.of zk
instance:TEnter zTp 7:=.of zk
instance:TEnter zTp 8:=.of zk
instance:TEnter zTp 9:=.of zk
instance:TEnter zTp 10:=.of zk
instance:TEnter zTp 11:=.of zk
instance:TEnter zTp 12:=.of zk
instance:TEnter zTp 13:=.of zk
instance:TEnter zTp 14:=.of zk
instance:TEnter zTp 15:=.of zk
instance:TEnter zTp 16:=.of zk
instance:TEnter zTp 17:=.of zk
instance:TEnter zTp 18:=.of zk
instance:TEnter zTp 21:=.of zk
instance:TEnter zTp 22:=.of zk
instance:TEnter zTp 23:=.of zk
instance:TEnter zTp 24:=.of zk
instance:TEnter zTp 25:=.of zk
instance:TEnter zTp 26:=.of zk
instance:TEnter zTp 27:=.of zk
instance:TEnter zTp 28:=.of zk
instance:TEnter zTp 29:=.of zk
instance:TEnter zTp 30:=.of zk
instance:TEnter zTp 31:=.of zk
instance:TEnter zTp 32:=.of zk
instance:TEnter zTp 34:=.of zk
instance:TEnter zTp 35:=.of zk
instance:TEnter zTp 36:=.of zk
instance:TEnter zTp 37:=.of zk
instance:TEnter zTp 38:=.of zk
instance:TEnter zTp 39:=.of zk
instance:TEnter zTp 40:=.of zk
instance:TEnter zTp 41:=.of zk
instance:TEnter zTp 42:=.of zk
instance:TEnter zTp 43:=.of zk
instance:TEnter zTp 44:=.of zk
instance:TEnter zTp 45:=.of zk
instance:TEnter zTp 46:=.of zk
instance:TEnter zTp 47:=.of zk
instance:TEnter zTp 48:=.of zk
instance:TEnter zTp 49:=.of zk
instance:TEnter zTp 50:=.of zk
instance:TEnter zTp 51:=.of zk
instance:TEnter zTp 52:=.of zk
instance:TEnter zTp 53:=.of zk
instance:TEnter zTp 54:=.of zk
instance:TEnter zTp 55:=.of zk
instance:TEnter zTp 56:=.of zk
instance:TEnter zTp 57:=.of zk
instance:TEnter zTp 58:=.of zk
instance:TEnter zTp 59:=.of zk
instance:TEnter zTp 60:=.of zk
instance:TEnter zTp 61:=.of zk
instance:TEnter zTp 62:=.of zk
instance:TEnter zTp 63:=.of zk
instance:TEnter zTp 64:=.of zk
instance:TEnter zTp 65:=.of zk
instance:TEnter zTp 67:=.of zk
instance:TEnter zTp 68:=.of zk
instance:TEnter zTp 69:=.of zk
instance:TEnter zTp 70:=.of zk
instance:TEnter zTp 71:=.of zk
instance:TEnter zTp 72:=.of zk
instance:TEnter zTp 73:=.of zk
instance:TEnter zTp 74:=.of zk
instance:TEnter zTp 75:=.of zk
instance:TEnter zTp 76:=.of zk
instance:TEnter zTp 77:=.of zk
instance:TEnter zTp 78:=.of zk
instance:TEnter zTp 79:=.of zk
instance:TEnter zTp 80:=.of zk
instance:TEnter zTp 81:=.of zk
instance:TEnter zTp 82:=.of zk
instance:TEnter zTp 83:=.of zk
instance:TEnter zTp 84:=.of zk
instance:TEnter zTp 85:=.of zk
instance:TEnter zTp 86:=.of zk
instance:TEnter zTp 87:=.of zk
instance:TEnter zTp 88:=.of zk
instance:TEnter zTp 89:=.of zk
instance:TEnter zTp 90:=.of zk
instance:TEnter zTp 91:=.of zk
instance:TEnter zTp 92:=.of zk
instance:TEnter zTp 93:=.of zk
instance:TEnter zTp 94:=.of zk
instance:TEnter zTp 95:=.of zk
instance:TEnter zTp 96:=.of zk
instance:TEnter zTp 97:=.of zk
instance:TEnter zTp 98:=.of zk
instance:TEnter zTp 99:=.of zk
instance:TEnter zTp 100:=.of zk
instance:TEnter zTp 101:=.of zk
instance:TEnter zTp 102:=.of zk
instance:TEnter zTp 103:=.of zk
instance:TEnter zTp 104:=.of zk
instance:TEnter zTp 105:=.of zk
instance:TEnter zTp 106:=.of zk
instance:TEnter zTp 108:=.of zk
instance:TEnter zTp 109:=.of zk
instance:TEnter zTp 110:=.of zk
instance:TEnter zTp 111:=.of zk
instance:TEnter zTp 112:=.of zk
instance:TEnter zTp 113:=.of zk
instance:TEnter zTp 114:=.of zk
instance:TEnter zTp 115:=.of zk
instance:TEnter zTp 116:=.of zk
instance:TEnter zTp 117:=.of zk
instance:TEnter zTp 120:=.of zk
instance:TEnter zTp 121:=.of zk
instance:TEnter zTp 122:=.of zk
instance:TEnter zTp 123:=.of zk
instance:TEnter zTp 124:=.of zk
instance:TEnter zTp 125:=.of zk
instance:TEnter zTp 126:=.of zk
instance:TEnter zTp 127:=.of zk
instance:TEnter zTp 129:=.of zk
instance:TEnter zTp 130:=.of zk
instance:TEnter zTp 131:=.of zk
instance:TEnter zTp 132:=.of zk
instance:TEnter zTp 133:=.of zk
instance:TEnter zTp 134:=.of zk
instance:TEnter zTp 135:=.of zk
instance:TEnter zTp 136:=.of zk
instance:TEnter zTp 137:=.of zk
instance:TEnter zTp 138:=.of zk
instance:TEnter zTp 139:=.of zk
instance:TEnter zTp 140:=.of zk
instance:TEnter zTp 141:=.of zk
instance:TEnter zTp 142:=.of zk
instance:TEnter zTp 144:=.of zk
instance:TEnter zTp 145:=.of zk
instance:TEnter zTp 146:=.of zk
instance:TEnter zTp 147:=.of zk
instance:TEnter zTp 148:=.of zk
instance:TEnter zTp 149:=.of zk
instance:TEnter zTp 150:=.of zk
instance:TEnter zTp 151:=.of zk
instance:TEnter zTp 152:=.of zk
instance:TEnter zTp 153:=.of zk
instance:TEnter zTp 154:=.of zk
instance:TEnter zTp 155:=.of zk
instance:TEnter zTp 156:=.of zk
instance:TEnter zTp 157:=.of zk
instance:TEnter zTp 158:=.of zk
instance:TEnter zTp 159:=.of zk
instance:TEnter zTp 160:=.of zk
instance:TEnter zTp 161:=.of zk
instance:TEnter zTp 162:=.of zk
instance:TEnter zTp 164:=.of zk
instance:TEnter zTp 165:=.of zk
instance:TEnter zTp 166:=.of zk
instance:TEnter zTp 167:=.of zk
instance:TEnter zTp 168:=.of zk
instance:TEnter zTp 169:=.of zk
instance:TEnter zTp 170:=.of zk
instance:TEnter zTp 175:=.of zk
instance:TEnter zTp 176:=.of zk
instance:TEnter zTp 177:=.of zk
instance:TEnter zTp 178:=.of zk
instance:TEnter zTp 179:=.of zk
instance:TEnter zTp 180:=.of zk
instance:TEnter zTp 182:=.of zk
instance:TEnter zTp 183:=.of zk
instance:TEnter zTp 184:=.of zk
instance:TEnter zTp 185:=.of zk
instance:TEnter zTp 186:=.of zk
instance:TEnter zTp 187:=.of zk
instance:TEnter zTp 188:=.of zk
instance:TEnter zTp 189:=.of zk
instance:TEnter zTp 192:=.of zk
instance:TEnter zTp 193:=.of zk
instance:TEnter zTp 194:=.of zk
instance:TEnter zTp 197:=.of zk
instance:TEnter zTp 199:=.of zk
instance:TEnter zTp 200:=.of zk
instance:TEnter zTp 201:=.of zk
instance:TEnter zTp 204:=.of zk
instance:TEnter zTp 205:=.of zk
instance:TEnter zTp 206:=.of zk
instance:TEnter zTp 207:=.of zk
instance:TEnter zTp 210:=.of zk
instance:TEnter zTp 231:=.of zk
instance:TEnter zTp 232:=.of zk
instance:TEnter zTp 233:=.of zk
instance:TEnter zTp 234:=.of zk
instance:TEnter zTp 235:=.of zk
instance:TEnter zTp 236:=.of zk
instance:TEnter zTp 237:=.of zk
instance:TEnter zTp 238:=.of zk
instance:TEnter zTp 239:=.of zk
instance:TEnter zTp 240:=.of zk
instance:TEnter zTp 241:=.of zk
instance:TEnter zTp 242:=.of zk
instance:TEnter zTp 255:=.of zk
instance:TEnter zTp 256:=.of zk
instance:TEnter zTp 257:=.of zk
instance:TEnter zTp 258:=.of zk
instance:TEnter zTp 259:=.of zk
open Go.GL Go.RowKit Go.Stele
noncomputable abbrev KC(B0:Nat)(w0:World):Ctx:=⟨Tryz.prog,B0,w0⟩
attribute [local irreducible] LOps qag qae LCalls Go.GL.Pure qax qam qad
section
variable{B0:Nat}{w0:World}
theorem qhM(c:UInt8):LCalls (KC B0 w0) 112 [int .u8 c.toNat] [] (Ret (bool (qap c))):=by
 refine zcI Tryz.func112 rfl (n:=9) rfl rfl rfl ?_;refine gab ?_;refine oB 5 rfl (λht=>?_) (λht=>?_);refine gad ?_;exact qac rfl (zra rfl) (by simp[qbI,qap,ht]);refine gaa ?_;exact qac rfl (zra rfl) (by simp[qbI,qap,ht])
theorem qgQ(c:UInt8):LCalls (KC B0 w0) 114 [int .u8 c.toNat] [] (Ret (bool (qaV c))):=by
 refine zcI Tryz.func114 rfl (n:=9) rfl rfl rfl ?_;refine gab ?_;refine oB 5 rfl (λht=>?_) (λht=>?_);refine gad ?_;exact qac rfl (zra rfl) (by simp[qbI,qaV,ht]);refine gaa ?_;exact qac rfl (zra rfl) (by simp[qbI,qaV,ht])
theorem qqP(c:UInt8):LCalls (KC B0 w0) 110 [int .u8 c.toNat] [] (Ret (bool (qwG c))):=by
 refine zcI Tryz.func110 rfl (n:=5) rfl rfl rfl ?_;refine gab ?_;exact qac rfl (zra rfl) rfl
theorem qq5(c:UInt8):LCalls (KC B0 w0) 166 [int .u8 c.toNat] [] (Ret (bool (qaW c))):=by
 refine zcI Tryz.func166 rfl (n:=13) rfl rfl rfl ?_;refine gap ?_;refine oS (sF [_] rfl (qgQ c) ?_) rfl;refine gaa ?_;refine oB 5 rfl (λht=>?_) (λht=>?_);refine gaa ?_;exact qac rfl (zra rfl) (by simp[qbI,qaW,ht]);refine gaa ?_;refine oS (sF [_] rfl (qhM c) ?_) rfl;refine gaa ?_;refine oB 9 rfl (λhd=>?_) (λhd=>?_);refine gaa ?_;exact qac rfl (zra rfl) (by simp[qbI,qaW,ht,hd]);refine gaa ?_;exact qac rfl (zra rfl) (by simp[qbI,qaW,ht,hd])
theorem qrm(c:UInt8):LCalls (KC B0 w0) 111 [int .u8 c.toNat] [] (Ret (bool (qdy c))):=by
 refine zcI Tryz.func111 rfl (n:=13) rfl rfl rfl ?_;refine gac ?_;refine oB 5 rfl (λht=>?_) (λht=>?_);refine gaa ?_;exact qac rfl (zra rfl) (by simp[qbI,qdy,ht]);refine gaa ?_;refine oB 9 rfl (λhd=>?_) (λhd=>?_);refine gaa ?_;exact qac rfl (zra rfl) (by simp[qbI,qdy,ht,hd]);refine gaa ?_;exact qac rfl (zra rfl) (by simp[qbI,qdy,ht,hd])
end
end Go.Proofs.YtkihibnffkpnkaaGreatDoor
namespace Go.Proofs.YtkihibnffkpnkaaGreatDoor
open Go.GL Go.RowKit Go.Stele
mutual
def qbO:Ex->List LV
 |.mk _ _ _ a=>qsu a
def qsu:List Ex->List LV
 |[]=>[]
 |e::r=>.agg [str (exOp e),int .u32 (qe2 e),str (qcW e),.list (qbO e)]::qsu r
end
def encE(e:Ex):LV:=.agg [str (exOp e),int .u32 (qe2 e),str (qcW e),.list (qbO e)]
theorem qnG:∀ l:List Ex,qsu l=l.map encE
 |[]=>by simp[qsu]
 |e::r=>by rw[qsu,qnG r];try rfl
theorem qjH(o:List UInt8)(n:Nat)(nm:List UInt8)(a:List Ex):qbO (.mk o n nm a)=a.map encE:=by rw[qbO,qnG]
theorem qdZ(o:List UInt8)(n:Nat)(nm:List UInt8)(a:List Ex):encE (.mk o n nm a)=.agg [str o,int .u32 n,str nm,.list (a.map encE)]:=by rw[encE,qjH];try rfl
mutual
def qoU:Sm->List LV
 |.mk _ _ _ _ t _=>qqM t
def qo3:Sm->List LV
 |.mk _ _ _ _ _ e=>qqM e
def qqM:List Sm->List LV
 |[]=>[]
 |s::r=>.agg [int .i64 (qvN s),str (qvY s),.list ((qr7 s).map encE),.list ((qth s).map encE),.list (qoU s),.list (qo3 s)]::qqM r
end
def encS(s:Sm):LV:=.agg [int .i64 (qvN s),str (qvY s),.list ((qr7 s).map encE),.list ((qth s).map encE),.list (qoU s),.list (qo3 s)]
theorem qki:∀ l:List Sm,qqM l=l.map encS
 |[]=>by simp[qqM]
 |e::r=>by rw[qqM,qki r];try rfl
theorem qcJ(k:Int)(n:List UInt8)(i v:List Ex)(t e:List Sm):encS (.mk k n i v t e)=.agg [int .i64 k,str n,.list (i.map encE),.list (v.map encE),.list (t.map encS),.list (e.map encS)]:=by
 rw[encS,qoU,qo3,qki,qki];try rfl
def qhp(a:Ar):LV:=.agg [str a.name,int .i64 a.size]
def qa7(f:FnD):LV:=.agg [str f.name,.list (f.params.map str),.list (f.locals.map str),.list (f.body.map encS)]
def qgo(p:Pr):LV:=.agg [.list (p.vars.map str),.list (p.arrays.map qhp),.list (p.funcs.map qa7)]
end Go.Proofs.YtkihibnffkpnkaaGreatDoor
namespace Go.Proofs.YtkihibnffkpnkaaGreatDoor.Chk
open Go.GL Go.RowKit Go.Stele
def qp1(es:List LV)(r:LRes)(H:Heap):Prop:=∃ v,r=.ret v/\GL.Acc 1 v es H []
theorem get_mid{A B:Type}(g:A->B)(pre:List A)(a:A)(l:List A):((pre++a::l).map g)[((pre.length:Nat):Int).toNat]? = some (g a):=by
 rw[Int.toNat_natCast,List.getElem?_map,List.getElem?_append_right (zNr _),Nat.sub_self];rfl
theorem qcY{H F:Heap}:HSub H (H++F):=⟨F,List.Perm.refl _⟩
theorem qnW(l:List (List UInt8)):∀ v∈l.map str,v.cells.length=1:=λv hv=>by
 obtain⟨a,_,rfl⟩:=List.mem_map.1 hv;rfl
theorem qwa(l:List (List UInt8)):((l.map str).flatMap LV.cells).all qc0=true:=by
 induction l with
 |nil=>rfl
 |cons a l ih=>
  simp only[zMc,List.flatMap_cons,List.all_append,ih,Bool.and_true];rfl
section
variable{C:Ctx}{n:Nat}{e:Env}{H H':Heap}{rs:List ResultVar}{vs:List LV}{es:List LV}{v:LV}
theorem qmR(hd:e.ds=[])(h:qbW C n e H rs [v])(hv:GL.Acc 1 v es H' [])(hH:HSub H' H):qad C n rs (qp1 es) .ret e H:=rR hd h hH ⟨v,rfl,hv⟩
end
attribute [local irreducible] LOps qag qae LCalls Go.GL.Pure qax qam qad LQ LAny qaJ qan LS
section
variable{B0:Nat}{w0:World}
theorem qqX(l:List (List UInt8))(hl:l.length<=2000000):LCalls (KC B0 w0) 137 [.list (l.map str)] [] (qp1 (l.map str)):=by
 refine zcI Tryz.func137 rfl (n:=8) rfl rfl rfl ?_;refine gac ?_;refine oS (S.sliceNil (es:=l.map str) rfl λb hb=>?_) rfl;refine gaf ?_;refine oC rfl (λhc=>?_) (λhc=>?_);have h0:=hb hc;refine gao ?_;exact qmR rfl (rC (rT (v:=qab) rfl zsr) rN) (by rw[h0];exact Acc.nil) zhr;refine gaj ?_;refine oS (S.litA [] rfl eN rfl rfl rfl λb4=>?_) rfl;refine gaa ?_;refine oS (S.acc (es:=[]) (F:=[]) rfl Acc.row rfl (qnW l) (qwa l) (by simp;omega) λv' H' hacc=>?_) rfl;refine zQ19 ?_;refine gaf ?_;exact qmR rfl (rC (rT (v:=v') rfl zsr) rN) hacc zhr
theorem qtb(k:Nat)(hk:k<=1000000000):LCalls (KC B0 w0) 177 [qab,int .i64 k] [] (qp1 []):=by
 refine zcI Tryz.func177 rfl (n:=27) rfl rfl rfl ?_;refine gac ?_;refine oC rfl (λhc=>?_) (λ_=>?_);have:=zt hc;omega;refine gac ?_;refine oP (Pure.rowCap rfl) rfl ?_;refine oP (pM (lv:=qab) rfl) rfl ?_;refine oP (Pure.rowLen rfl) rfl ?_;refine gab ?_;refine oC rfl (λhc=>?_) (λhc=>?_)
 have h0:0<k:=by
  have:=zt hc;simp at this;omega
 refine gag ?_;refine oP (Pure.rowCap rfl) rfl ?_;refine oP (Pure.rowSlice (n:=0) rfl rfl (zNr _)) rfl ?_;refine gaa ?_;refine oS (S.appZeros (n:=k) rfl (qao (by simp)) h0 zo λb cap hcap=>?_) rfl;refine gaa ?_;refine oP (Pure.rowSlice (n:=0) rfl rfl zo) rfl ?_;refine LOps.rowOpen 25 1 pH rfl (by simp) ?_;refine oP (pA (lv:=.app b cap 1 []) rfl) rfl ?_;refine gab ?_;exact qmR rfl (rC (rT (v:=.app b cap 1 []) rfl zsr) rN) Acc.row zhr;refine gac ?_;exact qmR rfl (rC (rT (v:=qab) rfl zsr) rN) Acc.nil zhr
def qea(l:List (List UInt8)):LV:=.list (l.map str)
theorem qvX(L:List (List (List UInt8)))(M:Nat)(h:∀ l∈L,l.length<=M):L.flatten.length<=L.length * M:=by
 induction L with
 |nil=>simp
 |cons a L ih=>
  rw[List.flatten_cons,zLa,zLc,Nat.add_mul];have h1:=h a zMs;have h2:=ih λl hl=>h l (zMo _ hl);omega
theorem qjP(L:List (List (List UInt8)))(hL:L.length<=4)(hl:∀ l∈L,l.length<=2000000):LCalls (KC B0 w0) 138 [.list (L.map qea)] [] (qp1 (L.flatten.map str)):=by
 have hsum:=qvX L 2000000 hl;refine zcI Tryz.func138 rfl (n:=36) rfl rfl rfl ?_;refine gac ?_
 refine oL (λk ls H'=>∃ pre l1,L=pre++l1/\k=l1.length/\ls=[(0,.list (L.map qea)),(3,int .i64 (pre.flatten.length:Int)),(9,.list (L.map qea)),(10,int .i64 ((L.map qea).length:Int)),(11,int .i64 (pre.length:Int))]/\H'=[])
  ⟨L.length,_,_,⟨[],L,rfl,rfl,rfl,rfl⟩,⟨rfl,rfl,rfl,rfl,rfl,trivial⟩,zhR _⟩ ?_
 rintro k ls H' ⟨pre,l1,hLe,rfl,rfl,rfl⟩ j hj
 have hb1:pre.flatten.length<=8000000:=by
  have h1:=hsum;rw[hLe,List.flatten_append,zLa] at h1;rw[hLe] at hL;omega
 have hb2:pre.length<=4:=by
  rw[hLe,zLa] at hL;omega
 refine gai ?_;refine oC rfl (λhc=>?_) (λhc=>?_);have hlen:=zt hc;rw[zLm,hLe,zLa] at hlen
 obtain⟨a,l2,rfl⟩:∃ a l2,l1=a::l2:=by
  cases l1 with
  |nil=>simp at hlen
  |cons a l2=>exact⟨a,l2,rfl⟩
 have ha:(a.map str).length<=2000000:=by
  rw[zLm];exact hl a (by rw[hLe];exact mem_append_right _ zMs)
 refine gaj ?_;refine oP (xR (el':=qea a) (cs:=[qea a]) rfl rfl zo (by rw[hLe];exact get_mid qea pre a l2) rfl rfl) rfl ?_;refine gab ?_;refine oC rfl (λhd=>?_) (λ_=>?_);have:=zt hd;omega;refine gac ?_;exact⟨l2.length,_,_,lt_succ_self _,⟨pre++[a],l2,by rw[hLe];simp,rfl,rfl,rfl⟩,⟨rfl,qao (by simp),rfl,rfl,qao (by simp),trivial⟩,zhR _,hj⟩;have hlen:=zf hc;rw[zLm,hLe,zLa] at hlen
 obtain rfl:l1=[]:=by
  cases l1 with
  |nil=>rfl
  |cons a l2=>simp at hlen;omega
 rw[zLz] at hLe;subst hLe;refine gac ?_;have hfl:L.flatten.length<=8000000:=by omega
 refine oS (S.callH (H1:=[]) (F:=[]) [_,_] rfl zpr (qtb L.flatten.length zo) ?_ (by rintro ch H' ⟨v,h,_⟩;cases h)) rfl;rintro v Ha ⟨_,h,hacc⟩;cases h;rw[zLz];refine oP (pA (lv:=v) rfl) rfl ?_;refine gac ?_
 refine oL (λk ls H'=>∃ pre l1 v1 Ha1,L=pre++l1/\k=l1.length/\ls=[(6,v1),(25,.list (L.map qea)),(26,int .i64 ((L.map qea).length:Int)),(27,int .i64 (pre.length:Int))]/\H'=Ha1/\GL.Acc 1 v1 (pre.flatten.map str) Ha1 [])
  ⟨L.length,_,_,⟨[],L,v,Ha,rfl,rfl,rfl,rfl,hacc⟩,⟨rfl,rfl,rfl,rfl,trivial⟩,zhR _⟩ ?_
 rintro k ls H' ⟨pre,l1,v1,Ha1,hLe,rfl,rfl,rfl,hacc1⟩ j2 hj2
 have hb1:pre.flatten.length<=8000000:=by
  have h1:=hsum;rw[hLe,List.flatten_append,zLa] at h1;rw[hLe] at hL;omega
 have hb2:pre.length<=4:=by
  rw[hLe,zLa] at hL;omega
 refine gai ?_;refine oC rfl (λhc=>?_) (λhc=>?_);have hlen:=zt hc;rw[zLm,hLe,zLa] at hlen
 obtain⟨a,l2,rfl⟩:∃ a l2,l1=a::l2:=by
  cases l1 with
  |nil=>simp at hlen
  |cons a l2=>exact⟨a,l2,rfl⟩
 have ha:a.length<=2000000:=hl a (by rw[hLe];exact mem_append_right _ zMs);refine gaj ?_;refine oP (xR (el':=qea a) (cs:=[qea a]) rfl rfl zo (by rw[hLe];exact get_mid qea pre a l2) rfl rfl) rfl ?_;refine gab ?_;refine oP (pM (lv:=v1) rfl) rfl ?_;refine gaa ?_;refine oS (S.acc rfl hacc1 rfl (qnW a) (qwa a) (by rw[zLm,zLm];omega) λv' H' hacc=>?_) rfl;refine zQ19 ?_;refine gar ?_
 exact⟨l2.length,_,_,lt_succ_self _,⟨pre++[a],l2,v',H',by rw[hLe];simp,rfl,rfl,rfl,by
  have e:((pre++[a]).flatten.map str)=pre.flatten.map str++a.map str:=by simp
  rw[e]
  exact hacc⟩,⟨rfl,rfl,rfl,qao (by simp),trivial⟩,zhR _,hj2⟩
 have hlen:=zf hc;rw[zLm,hLe,zLa] at hlen
 obtain rfl:l1=[]:=by
  cases l1 with
  |nil=>rfl
  |cons a l2=>simp at hlen;omega
 rw[zLz] at hLe;rw[<-hLe] at hacc1;refine gac ?_;refine oP (pM (lv:=v1) rfl) rfl ?_;refine oP (pA (lv:=v1) rfl) rfl ?_;refine gaf ?_;exact qmR (hj2.trans hj) (rC (rT (v:=v1) rfl zsr) rN) hacc1 zhr
end
def ownS(f:FnD):List (List UInt8):=(f.params++f.locals).map λx=>f.name++[46]++x
section
variable{B0:Nat}{w0:World}
theorem scalars_specG{vars:List Nm}{fs:List FnD}(AL:LV)(hv6:vars.length<=2000000)(hf6:fs.length<=2000000)(hsm:∀ f∈fs,SmF f)(hn:∀ f∈fs,f.name.length<=1000/\∀ x∈f.params++f.locals,x.length<=1000):LCalls (KC B0 w0) 80 [.agg [.list (vars.map str),AL,.list (fs.map qa7)]] [] (Ret (.list ((qaj vars fs).map str))):=by
 have hown:∀ f∈fs,(ownS f).length<=4000000:=λf hf=>by
  have h1:f.params.length<=2000000:=(hsm f hf).params;have h2:f.locals.length<=2000000:=(hsm f hf).locals;unfold ownS;rw[zLm,zLa];omega
 have hsum:∀ l:List FnD,(∀ f∈l,f∈fs)->((l.map ownS).flatten).length<=l.length * 4000000:=λl hl=>by
  have:=qvX (l.map ownS) 4000000 (λx hx=>by
   obtain⟨f,hf,rfl⟩:=List.mem_map.1 hx
   exact hown f (hl f hf))
  rwa [zLm] at this
 refine zcI Tryz.func80 rfl (n:=40) rfl rfl rfl ?_;refine gah ?_;refine oS (sB rfl λb1=>?_) rfl;refine gab ?_;refine oS (S.callH (H1:=[]) (F:=[_]) [_] rfl zpr (qqX vars hv6) ?_ (by rintro ch H' ⟨v,h,_⟩;cases h)) rfl;rintro v Ha ⟨_,h,hacc⟩;cases h;refine LOps.perm (zPc (l₂:=[_])) ?_;refine oP (pA (lv:=v) rfl) rfl ?_;refine gab ?_
 refine oL (λk ls H'=>∃ pre l1 v1 Ha1,fs=pre++l1/\k=l1.length/\ls=[(3,v1),(12,.list (fs.map qa7)),(13,int .i64 ((fs.map qa7).length:Int)),(14,int .i64 (pre.length:Int))]/\H'=Ha1/\GL.Acc 1 v1 ((vars++(pre.map ownS).flatten).map str) Ha1 [])
  ⟨fs.length,_,_,⟨[],fs,v,Ha,rfl,rfl,rfl,rfl,by simpa using hacc⟩,⟨rfl,rfl,rfl,rfl,trivial⟩,zhD zhr⟩ ?_
 rintro k ls Ha1 ⟨pre,l1,v1,_,hLe,rfl,rfl,rfl,hacc1⟩ j hj
 have hb2:pre.length<=2000000:=by
  rw[hLe,zLa] at hf6;omega
 have hb1:((pre.map ownS).flatten).length<=8000000000000:=by
  have:=hsum pre (λf hf=>by rw[hLe];exact List.mem_append_left _ hf);omega
 refine gai ?_;refine oC rfl (λhc=>?_) (λhc=>?_);have hlen:=zt hc;rw[zLm,hLe,zLa] at hlen
 obtain⟨f,l2,rfl⟩:∃ a l2,l1=a::l2:=by
  cases l1 with
  |nil=>simp at hlen
  |cons a l2=>exact⟨a,l2,rfl⟩
 have hfm:f∈fs:=by rw[hLe];exact mem_append_right _ zMs
 obtain⟨hn1,hn2⟩:=hn f hfm;have hp6:f.params.length<=2000000:=(hsm f hfm).params;have hl6:f.locals.length<=2000000:=(hsm f hfm).locals;refine gaj ?_;refine oP (xR (el':=qa7 f) (cs:=[_,_,_,_]) rfl rfl zo (by rw[hLe];exact get_mid qa7 pre f l2) rfl rfl) rfl ?_;refine gad ?_;refine oS (sA λb5=>?_) rfl;refine gab ?_;refine oS (sL (es:=[qea f.params,qea f.locals]) [_,_] rfl (eC rfl rfl (eC rfl rfl eN)) rfl rfl rfl ?_) rfl
 refine oS (S.callH (H1:=[]) (F:=(b5,.cells 110 [str f.name,qea f.params,qea f.locals,.list (f.body.map encS)])::Ha1) [_] rfl zpr (qjP [f.params,f.locals] (by simp) (by
  intro l hl;rcases zMi.1 hl with rfl|hl;exact hp6;rw[List.mem_singleton.1 hl]
  exact hl6)) ?_ (by rintro ch H' ⟨v,h,_⟩;cases h)) rfl
 rintro v2 Ha2 ⟨_,h,hacc2⟩;cases h;have hfl:[f.params,f.locals].flatten=f.params++f.locals:=by simp
 rw[hfl] at hacc2;refine LOps.sub 23 rfl hacc2.sub ?_;refine LOps.weak (H':=(b5,.cells 110 [str f.name,qea f.params,qea f.locals,.list (f.body.map encS)])::Ha1) ⟨Ha2,zPc⟩ ?_;refine gaa ?_
 refine oL (λk ls H'=>∃ pre2 l3 v3 Ha3,f.params++f.locals=pre2++l3/\k=l3.length/\ls=[(3,v3),(5,ptr b5 0),(12,.list (fs.map qa7)),(13,int .i64 ((fs.map qa7).length:Int)),(14,int .i64 (pre.length:Int)),(23,.list ((f.params++f.locals).map str)),(24,int .i64 (((f.params++f.locals).map str).length:Int)),(25,int .i64 (pre2.length:Int))] /\
   H'=(b5,.cells 110 [str f.name,qea f.params,qea f.locals,.list (f.body.map encS)])::Ha3/\GL.Acc 1 v3 ((vars++(pre.map ownS).flatten++pre2.map λx=>f.name++[46]++x).map str) Ha3 [])
  ⟨(f.params++f.locals).length,_,_,⟨[],f.params++f.locals,v1,Ha1,rfl,rfl,rfl,rfl,by simpa using hacc1⟩,⟨rfl,rfl,rfl,rfl,rfl,rfl,rfl,rfl,trivial⟩,zhR _⟩ ?_
 rintro k ls H' ⟨pre2,l3,v3,Ha3,hLe2,rfl,rfl,rfl,hacc3⟩ j2 hj2
 have hb3:pre2.length<=4000000:=by
  have:(f.params++f.locals).length<=4000000:=by rw[zLa];omega
  rw[hLe2,zLa] at this;omega
 refine gai ?_;refine oC rfl (λhd=>?_) (λhd=>?_);have hlen2:=zt hd;rw[zLm,hLe2,zLa] at hlen2
 obtain⟨x,l4,rfl⟩:∃ a l2,l3=a::l2:=by
  cases l3 with
  |nil=>simp at hlen2
  |cons a l2=>exact⟨a,l2,rfl⟩
 have hx:x.length<=1000:=hn2 x (by rw[hLe2];exact mem_append_right _ zMs);refine gaj ?_;refine oP (xR (el':=str x) (cs:=[str x]) rfl rfl zo (by rw[hLe2];exact get_mid str pre2 x l4) rfl rfl) rfl ?_;refine gab ?_;refine oP (pM (lv:=v3) rfl) rfl ?_;refine gad ?_;refine oS (sL (es:=[str (f.name++[46]++x)]) [_] rfl (eC rfl rfl eN) rfl rfl rfl ?_) rfl;refine oS (S.acc1 rfl hacc3 rfl (qnW [f.name++[46]++x]) rfl (by rw[zLm,zLa,zLa,zLm,zLc,zLn];omega) λv' H' hacc'=>?_) rfl;refine zQ19 ?_;refine gar ?_
 exact⟨l4.length,_,_,lt_succ_self _,⟨pre2++[x],l4,v',H',by rw[hLe2];simp,rfl,rfl,rfl,by
  have e:((vars++(pre.map ownS).flatten++(pre2++[x]).map λx=>f.name++[46]++x).map str)=((vars++(pre.map ownS).flatten++pre2.map λx=>f.name++[46]++x).map str)++[str (f.name++[46]++x)]:=by simp
  rw[e]
  exact hacc'⟩,⟨rfl,rfl,rfl,rfl,rfl,rfl,rfl,qao (by simp),trivial⟩,zhR _,hj2⟩
 have hlen2:=zf hd;rw[zLm,hLe2,zLa] at hlen2
 obtain rfl:l3=[]:=by
  cases l3 with
  |nil=>rfl
  |cons a l2=>simp at hlen2;omega
 rw[zLz] at hLe2;refine gac ?_
 exact⟨l2.length,_,_,lt_succ_self _,⟨pre++[f],l2,v3,Ha3,by rw[hLe];simp,rfl,rfl,rfl,by
  have e:((vars++((pre++[f]).map ownS).flatten).map str)=(vars++(pre.map ownS).flatten++pre2.map λx=>f.name++[46]++x).map str:=by
   rw[<-hLe2];simp[ownS]
  rw[e]
  exact hacc3⟩,⟨rfl,rfl,rfl,qao (by simp),trivial⟩,zhD zhr,hj2.trans hj⟩
 have hlen:=zf hc;rw[zLm,hLe,zLa] at hlen
 obtain rfl:l1=[]:=by
  cases l1 with
  |nil=>rfl
  |cons a l2=>simp at hlen;omega
 rw[zLz] at hLe;rw[<-hLe] at hacc1;refine gac ?_;refine oP (pM (lv:=v1) rfl) rfl ?_;refine oP (pA (lv:=v1) rfl) rfl ?_;refine gaf ?_;exact rR hj (rC (rT (v:=v1) rfl hacc1.sub) rN) zhn ⟨rfl,rfl⟩
end
end Go.Proofs.YtkihibnffkpnkaaGreatDoor.Chk
namespace Go.Proofs
def Tryz.lays156_ren:Go.Shelf.Ren:=⟨fun|156=>83|165=>143|166=>28|169=>29|240=>56|241=>181|276=>107|277=>208|n=>n,fun|31=>32|9=>9|3=>3|4=>4|0=>0|20=>20|72=>69|76=>72|70=>67|37=>59|75=>71|127=>97|164=>146|5=>5|80=>47|n=>n,fun|n=>n⟩
theorem Tryz.lays156:Go.Proofs.Lays.n156 Tryz.prog Tryz.lays156_ren:={
 mixed:=by kernel_rfl
 f156:=Tryz.func83.trans zCs
 f165:=Tryz.func143.trans zCs
 f166:=Tryz.func28.trans zCs
 f169:=Tryz.func29.trans zCs
 f240:=Tryz.func56.trans zCs
 f241:=Tryz.func181.trans zCs
 f276:=Tryz.func107.trans zCs
 f277:=Tryz.func208.trans zCs
 t0:=Tryz.underlying0
 a0:=Tryz.isAgg0
 z0:=Tryz.sizeOf0
 v0:=Tryz.zeroValue0
 t3:=Tryz.underlying3
 a3:=Tryz.isAgg3
 z3:=Tryz.sizeOf3
 v3:=Tryz.zeroValue3
 t4:=Tryz.underlying4
 a4:=Tryz.isAgg4
 z4:=Tryz.sizeOf4
 v4:=Tryz.zeroValue4
 t9:=Tryz.underlying9
 a9:=Tryz.isAgg9
 z9:=Tryz.sizeOf9
 v9:=Tryz.zeroValue9
 t20:=Tryz.underlying20
 a20:=Tryz.isAgg20
 z20:=Tryz.sizeOf20
 v20:=Tryz.zeroValue20
 t31:=Tryz.underlying32
 a31:=Tryz.isAgg32
 z31:=Tryz.sizeOf32
 v31:=Tryz.zeroValue32
 t37:=Tryz.underlying59
 a37:=Tryz.isAgg59
 z37:=Tryz.sizeOf59
 v37:=Tryz.zeroValue59
 t70:=Tryz.underlying67
 a70:=Tryz.isAgg67
 z70:=Tryz.sizeOf67
 v70:=Tryz.zeroValue67
 t72:=Tryz.underlying69
 a72:=Tryz.isAgg69
 z72:=Tryz.sizeOf69
 v72:=Tryz.zeroValue69
 t75:=Tryz.underlying71
 a75:=Tryz.isAgg71
 z75:=Tryz.sizeOf71
 v75:=Tryz.zeroValue71
 t76:=Tryz.underlying72
 a76:=Tryz.isAgg72
 z76:=Tryz.sizeOf72
 v76:=Tryz.zeroValue72
 t127:=Tryz.underlying97
 a127:=Tryz.isAgg97
 z127:=Tryz.sizeOf97
 v127:=Tryz.zeroValue97
 t164:=Tryz.underlying146
 a164:=Tryz.isAgg146
 z164:=Tryz.sizeOf146
 v164:=Tryz.zeroValue146 }
theorem Tryz.Builder_Extra_156:Builder.Extra Tryz.prog Tryz.lays156_ren:={
 sizeBuilder:=by kernel_rfl
 liesBuilder:=by kernel_rfl
 t5:=Tryz.underlying5
 a5:=Tryz.isAgg5
 z5:=Tryz.sizeOf5
 v5:=Tryz.zeroValue5
 infoByte:=by kernel_rfl
 cellsByte:=by kernel_rfl
 sizeByte:=by kernel_rfl
 neB5:=by decide }
open Go.RowKit in
theorem Tryz.strings_Join_none(a:Option Addr)(c:Nat)(sep:ByteArray)(w:World) :
  Calls Tryz.prog 83 #[.slice a 0 c,.string sep] w λe w'=>e=.returned (.string ⟨#[]⟩)/\w'=w:=Any.strings_Join_none Tryz.lays156 Tryz.Builder_Extra_156 a c sep w
open Go.RowKit in
theorem Tryz.strings_Join(bk o c:Nat)(xs:List ByteArray)(sep:ByteArray)(w:World)(hcells:∀ (j:Nat) x,xs[j]? = some x->w.cell? ⟨bk,o+j,none⟩=some (.string x))(hbk:bk<w.heap.size)(hN:xs.length<=140737488355328)(hcap:xs.length<=c)(hlen:(Lib.join (xs.map (·.data.toList)) sep.data.toList).length<=140737488355328) :
  Calls Tryz.prog 83 #[.slice (some ⟨bk,o,none⟩) xs.length c,.string sep] w λe w'=>e=.returned (.string ⟨(Lib.join (xs.map (·.data.toList)) sep.data.toList).toArray⟩)/\Below w.heap.size w w':=Any.strings_Join Tryz.lays156 Tryz.Builder_Extra_156 bk o c xs sep w hcells hbk hN hcap hlen
def Tryz.lays160_ren:Go.Shelf.Ren:=⟨fun|160=>194|232=>214|231=>213|227=>215|234=>217|233=>216|236=>219|235=>218|228=>245|271=>247|151=>246|197=>243|120=>262|152=>261|260=>260|137=>265|119=>266|224=>173|225=>172|217=>171|266=>202|n=>n,fun|9=>9|4=>4|3=>3|5=>5|117=>224|116=>223|0=>0|124=>227|21=>21|105=>248|46=>58|119=>269|139=>272|138=>271|n=>n,fun|3=>4|4=>5|n=>n⟩
theorem Tryz.lays160:Go.Proofs.Lays.n160 Tryz.prog Tryz.lays160_ren:={
 mixed:=by kernel_rfl
 f119:=Tryz.func266.trans zCs
 f120:=Tryz.func262.trans zCs
 f137:=Tryz.func265.trans zCs
 f151:=Tryz.func246.trans zCs
 f152:=Tryz.func261.trans zCs
 f160:=Tryz.func194.trans zCs
 f197:=Tryz.func243.trans zCs
 f217:=Tryz.func171.trans zCs
 f224:=Tryz.func173.trans zCs
 f225:=Tryz.func172.trans zCs
 f227:=Tryz.func215.trans zCs
 f228:=Tryz.func245.trans zCs
 f231:=Tryz.func213.trans zCs
 f232:=Tryz.func214.trans zCs
 f233:=Tryz.func216.trans zCs
 f234:=Tryz.func217.trans zCs
 f235:=Tryz.func218.trans zCs
 f236:=Tryz.func219.trans zCs
 f260:=Tryz.func260.trans zCs
 f266:=Tryz.func202.trans zCs
 f271:=Tryz.func247.trans zCs
 t0:=Tryz.underlying0
 a0:=Tryz.isAgg0
 z0:=Tryz.sizeOf0
 v0:=Tryz.zeroValue0
 t3:=Tryz.underlying3
 a3:=Tryz.isAgg3
 z3:=Tryz.sizeOf3
 v3:=Tryz.zeroValue3
 t4:=Tryz.underlying4
 a4:=Tryz.isAgg4
 z4:=Tryz.sizeOf4
 v4:=Tryz.zeroValue4
 t5:=Tryz.underlying5
 a5:=Tryz.isAgg5
 z5:=Tryz.sizeOf5
 v5:=Tryz.zeroValue5
 t9:=Tryz.underlying9
 a9:=Tryz.isAgg9
 z9:=Tryz.sizeOf9
 v9:=Tryz.zeroValue9
 t21:=Tryz.underlying21
 a21:=Tryz.isAgg21
 z21:=Tryz.sizeOf21
 v21:=Tryz.zeroValue21
 t46:=Tryz.underlying58
 a46:=Tryz.isAgg58
 z46:=Tryz.sizeOf58
 v46:=Tryz.zeroValue58
 t105:=Tryz.underlying248
 a105:=Tryz.isAgg248
 z105:=Tryz.sizeOf248
 v105:=Tryz.zeroValue248
 t116:=Tryz.underlying223
 a116:=Tryz.isAgg223
 z116:=Tryz.sizeOf223
 t117:=Tryz.underlying224
 a117:=Tryz.isAgg224
 z117:=Tryz.sizeOf224
 v117:=Tryz.zeroValue224
 t119:=Tryz.underlying269
 a119:=Tryz.isAgg269
 z119:=Tryz.sizeOf269
 t124:=Tryz.underlying227
 a124:=Tryz.isAgg227
 z124:=Tryz.sizeOf227
 v124:=Tryz.zeroValue227
 t138:=Tryz.underlying271
 a138:=Tryz.isAgg271
 z138:=Tryz.sizeOf271
 v138:=Tryz.zeroValue271
 t139:=Tryz.underlying272
 a139:=Tryz.isAgg272
 z139:=Tryz.sizeOf272
 v139:=Tryz.zeroValue272
 g3:=by kernel_rfl
 g4:=by kernel_rfl }
def Tryz.lays103_ren:Go.Shelf.Ren:=⟨fun|103=>182|210=>209|206=>163|n=>n,fun|9=>9|4=>4|24=>172|3=>3|n=>n,fun|n=>n⟩
theorem Tryz.lays103:Go.Proofs.Lays.n103 Tryz.prog Tryz.lays103_ren:={
 mixed:=by kernel_rfl
 f103:=Tryz.func182.trans zCs
 f206:=Tryz.func163.trans zCs
 f210:=Tryz.func209.trans zCs
 t3:=Tryz.underlying3
 a3:=Tryz.isAgg3
 z3:=Tryz.sizeOf3
 v3:=Tryz.zeroValue3
 t4:=Tryz.underlying4
 a4:=Tryz.isAgg4
 z4:=Tryz.sizeOf4
 v4:=Tryz.zeroValue4
 t9:=Tryz.underlying9
 a9:=Tryz.isAgg9
 z9:=Tryz.sizeOf9
 v9:=Tryz.zeroValue9
 t24:=Tryz.underlying172
 a24:=Tryz.isAgg172
 z24:=Tryz.sizeOf172
 v24:=Tryz.zeroValue172 }
open Go.RowKit in
theorem Tryz.strings_CutPrefix(s p:ByteArray)(w:World) :
  Calls Tryz.prog 182 #[.string s,.string p] w λe w'=>e=.returned (.tuple #[.string ⟨(Lib.trimPrefix s.data.toList p.data.toList).toArray⟩,.bool (Lib.hasPrefix s.data.toList p.data.toList)])/\w'=w:=Any.strings_CutPrefix Tryz.lays103 s p w
def Tryz.lays104_ren:Go.Shelf.Ren:=⟨fun|104=>192|211=>212|207=>244|n=>n,fun|9=>9|4=>4|24=>172|3=>3|n=>n,fun|n=>n⟩
theorem Tryz.lays104:Go.Proofs.Lays.n104 Tryz.prog Tryz.lays104_ren:={
 mixed:=by kernel_rfl
 f104:=Tryz.func192.trans zCs
 f207:=Tryz.func244.trans zCs
 f211:=Tryz.func212.trans zCs
 t3:=Tryz.underlying3
 a3:=Tryz.isAgg3
 z3:=Tryz.sizeOf3
 v3:=Tryz.zeroValue3
 t4:=Tryz.underlying4
 a4:=Tryz.isAgg4
 z4:=Tryz.sizeOf4
 v4:=Tryz.zeroValue4
 t9:=Tryz.underlying9
 a9:=Tryz.isAgg9
 z9:=Tryz.sizeOf9
 v9:=Tryz.zeroValue9
 t24:=Tryz.underlying172
 a24:=Tryz.isAgg172
 z24:=Tryz.sizeOf172
 v24:=Tryz.zeroValue172 }
open Go.RowKit in
theorem Tryz.strings_CutSuffix(s p:ByteArray)(w:World)(hs:s.size<=9223372036854775807) :
  Calls Tryz.prog 192 #[.string s,.string p] w λe w'=>e=.returned (.tuple #[.string ⟨(Lib.trimSuffix s.data.toList p.data.toList).toArray⟩,.bool (Lib.hasSuffix s.data.toList p.data.toList)])/\w'=w:=Any.strings_CutSuffix Tryz.lays104 s p w hs
def Tryz.lays283_ren:Go.Shelf.Ren:=⟨fun|283=>226|n=>n,fun|3=>3|9=>9|4=>4|n=>n,fun|n=>n⟩
theorem Tryz.lays283:Go.Proofs.Lays.n283 Tryz.prog Tryz.lays283_ren:={
 mixed:=by kernel_rfl
 f283:=Tryz.func226.trans zCs
 t3:=Tryz.underlying3
 a3:=Tryz.isAgg3
 z3:=Tryz.sizeOf3
 v3:=Tryz.zeroValue3
 t4:=Tryz.underlying4
 a4:=Tryz.isAgg4
 z4:=Tryz.sizeOf4
 v4:=Tryz.zeroValue4
 t9:=Tryz.underlying9
 a9:=Tryz.isAgg9
 z9:=Tryz.sizeOf9
 v9:=Tryz.zeroValue9 }
open Go.Lib in
theorem Tryz.internal_strconv_small(i:Nat)(h:i<100)(w:World) :
  Calls Tryz.prog 226 #[.int .i64 i] w λe w'=>e=.returned (.string ⟨(Lib.decDigits i).toArray⟩)/\w'=w:=Any.internal_strconv_small Tryz.lays283 i h w
def Tryz.laysM284_ren:Go.Shelf.Ren:=⟨fun|284=>227|129=>251|317=>250|318=>252|n=>n,fun|53=>186|3=>3|212=>255|0=>0|4=>4|46=>58|5=>5|9=>9|n=>n,fun|17=>3|n=>n⟩
theorem Tryz.laysM284:Go.Proofs.LaysM.n284 Tryz.prog Tryz.laysM284_ren:={
 mixed:=by kernel_rfl
 f129:=Tryz.func251.trans zCs
 f284:=Tryz.func227.trans zCs
 f317:=Tryz.func250.trans zCs
 f318:=Tryz.func252.trans zCs
 t0:=Tryz.underlying0
 a0:=Tryz.isAgg0
 z0:=Tryz.sizeOf0
 v0:=Tryz.zeroValue0
 t3:=Tryz.underlying3
 a3:=Tryz.isAgg3
 z3:=Tryz.sizeOf3
 v3:=Tryz.zeroValue3
 t4:=Tryz.underlying4
 a4:=Tryz.isAgg4
 z4:=Tryz.sizeOf4
 v4:=Tryz.zeroValue4
 t5:=Tryz.underlying5
 a5:=Tryz.isAgg5
 z5:=Tryz.sizeOf5
 v5:=Tryz.zeroValue5
 t9:=Tryz.underlying9
 a9:=Tryz.isAgg9
 z9:=Tryz.sizeOf9
 v9:=Tryz.zeroValue9
 t46:=Tryz.underlying58
 a46:=Tryz.isAgg58
 z46:=Tryz.sizeOf58
 v46:=Tryz.zeroValue58
 t53:=Tryz.underlying186
 a53:=Tryz.isAgg186
 z53:=Tryz.sizeOf186
 v53:=Tryz.zeroValue186
 t212:=Tryz.underlying255
 a212:=Tryz.isAgg255
 z212:=Tryz.sizeOf255
 v212:=Tryz.zeroValue255
 g17:=by kernel_rfl
 i0:=by kernel_rfl
 i3:=by kernel_rfl
 i4:=by kernel_rfl
 i5:=by kernel_rfl
 i9:=by kernel_rfl
 i46:=by kernel_rfl
 i53:=by kernel_rfl
 i212:=by kernel_rfl
 m17:=by kernel_rfl }
open Go.Lib in
theorem Tryz.internal_strconv_numDigits (u : Nat) (h1 : 1 ≤ u) (h2 : u < 18446744073709551616) (w : World) (htab : Lib.TabIs Tryz.prog w "internal/strconv.uint64pow10" .u64 Lib.pow10Tab) :
  Calls Tryz.prog 227 #[.int .u64 u] w λe w'=>e=.returned (.int .i64 (Lib.nDigits u))/\w'=w:=Any.internal_strconv_numDigits Tryz.laysM284 u h1 h2 w htab
def Tryz.lays285_ren:Go.Shelf.Ren:=⟨fun|285=>228|n=>n,fun|37=>59|53=>186|3=>3|4=>4|51=>30|9=>9|5=>5|0=>0|n=>n,fun|n=>n⟩
theorem Tryz.lays285:Go.Proofs.Lays.n285 Tryz.prog Tryz.lays285_ren:={
 mixed:=by kernel_rfl
 f285:=Tryz.func228.trans zCs
 t0:=Tryz.underlying0
 a0:=Tryz.isAgg0
 z0:=Tryz.sizeOf0
 v0:=Tryz.zeroValue0
 t3:=Tryz.underlying3
 a3:=Tryz.isAgg3
 z3:=Tryz.sizeOf3
 v3:=Tryz.zeroValue3
 t4:=Tryz.underlying4
 a4:=Tryz.isAgg4
 z4:=Tryz.sizeOf4
 v4:=Tryz.zeroValue4
 t5:=Tryz.underlying5
 a5:=Tryz.isAgg5
 z5:=Tryz.sizeOf5
 v5:=Tryz.zeroValue5
 t9:=Tryz.underlying9
 a9:=Tryz.isAgg9
 z9:=Tryz.sizeOf9
 v9:=Tryz.zeroValue9
 t37:=Tryz.underlying59
 a37:=Tryz.isAgg59
 z37:=Tryz.sizeOf59
 v37:=Tryz.zeroValue59
 t51:=Tryz.underlying30
 a51:=Tryz.isAgg30
 z51:=Tryz.sizeOf30
 v51:=Tryz.zeroValue30
 t53:=Tryz.underlying186
 a53:=Tryz.isAgg186
 z53:=Tryz.sizeOf186
 v53:=Tryz.zeroValue186 }
open Go.RowKit Go.Sort Go.Lib in
theorem Tryz.internal_strconv_formatBase10(blk off cap:Nat)(u:Nat)(d:Array UInt8)(w:World)(hH:Holds (λ(b:UInt8)=>Value.int .u8 (b.toNat:Int)) w blk off d)(hu:u<10 ^ d.size)(hu64:u<18446744073709551616)(hsz:d.size<4611686018427387904) :
  Calls Tryz.prog 228 #[.slice (some ⟨blk,off,none⟩) d.size cap,.int .u64 u] w λe w'=>
   e=.returned (.tuple #[])/\∃ (n v':Nat) (dk:Array UInt8),w'=(putRow (λ(b:UInt8)=>Value.int .u8 (b.toNat:Int)) w blk off dk).drewN n/\FmtInv d.size u 0 v' dk:=Any.internal_strconv_formatBase10 Tryz.lays285 blk off cap u d w hH hu hu64 hsz
def Tryz.laysM171_ren:Go.Shelf.Ren:=⟨fun|171=>168|243=>198|246=>230|283=>226|284=>227|285=>228|286=>229|129=>251|317=>250|318=>252|319=>253|320=>254|337=>263|338=>264|n=>n,fun|3=>3|9=>9|2=>2|4=>4|171=>233|0=>0|53=>186|37=>59|5=>5|173=>236|212=>255|51=>30|20=>20|213=>256|46=>58|232=>274|233=>275|n=>n,fun|17=>3|18=>6|19=>7|n=>n⟩
theorem Tryz.laysM171:Go.Proofs.LaysM.n171 Tryz.prog Tryz.laysM171_ren:={
 mixed:=by kernel_rfl
 f129:=Tryz.func251.trans zCs
 f171:=Tryz.func168.trans zCs
 f243:=Tryz.func198.trans zCs
 f246:=Tryz.func230.trans zCs
 f283:=Tryz.func226.trans zCs
 f284:=Tryz.func227.trans zCs
 f285:=Tryz.func228.trans zCs
 f286:=Tryz.func229.trans zCs
 f317:=Tryz.func250.trans zCs
 f318:=Tryz.func252.trans zCs
 f319:=Tryz.func253.trans zCs
 f320:=Tryz.func254.trans zCs
 f337:=Tryz.func263.trans zCs
 f338:=Tryz.func264.trans zCs
 t0:=Tryz.underlying0
 a0:=Tryz.isAgg0
 z0:=Tryz.sizeOf0
 v0:=Tryz.zeroValue0
 t2:=Tryz.underlying2
 a2:=Tryz.isAgg2
 z2:=Tryz.sizeOf2
 v2:=Tryz.zeroValue2
 t3:=Tryz.underlying3
 a3:=Tryz.isAgg3
 z3:=Tryz.sizeOf3
 v3:=Tryz.zeroValue3
 t4:=Tryz.underlying4
 a4:=Tryz.isAgg4
 z4:=Tryz.sizeOf4
 v4:=Tryz.zeroValue4
 t5:=Tryz.underlying5
 a5:=Tryz.isAgg5
 z5:=Tryz.sizeOf5
 v5:=Tryz.zeroValue5
 t9:=Tryz.underlying9
 a9:=Tryz.isAgg9
 z9:=Tryz.sizeOf9
 v9:=Tryz.zeroValue9
 t20:=Tryz.underlying20
 a20:=Tryz.isAgg20
 z20:=Tryz.sizeOf20
 v20:=Tryz.zeroValue20
 t37:=Tryz.underlying59
 a37:=Tryz.isAgg59
 z37:=Tryz.sizeOf59
 v37:=Tryz.zeroValue59
 t46:=Tryz.underlying58
 a46:=Tryz.isAgg58
 z46:=Tryz.sizeOf58
 v46:=Tryz.zeroValue58
 t51:=Tryz.underlying30
 a51:=Tryz.isAgg30
 z51:=Tryz.sizeOf30
 v51:=Tryz.zeroValue30
 t53:=Tryz.underlying186
 a53:=Tryz.isAgg186
 z53:=Tryz.sizeOf186
 v53:=Tryz.zeroValue186
 t171:=Tryz.underlying233
 a171:=Tryz.isAgg233
 z171:=Tryz.sizeOf233
 v171:=Tryz.zeroValue233
 t173:=Tryz.underlying236
 a173:=Tryz.isAgg236
 z173:=Tryz.sizeOf236
 v173:=Tryz.zeroValue236
 t212:=Tryz.underlying255
 a212:=Tryz.isAgg255
 z212:=Tryz.sizeOf255
 v212:=Tryz.zeroValue255
 t213:=Tryz.underlying256
 a213:=Tryz.isAgg256
 z213:=Tryz.sizeOf256
 t232:=Tryz.underlying274
 a232:=Tryz.isAgg274
 z232:=Tryz.sizeOf274
 v232:=Tryz.zeroValue274
 t233:=Tryz.underlying275
 a233:=Tryz.isAgg275
 z233:=Tryz.sizeOf275
 v233:=Tryz.zeroValue275
 g17:=by kernel_rfl
 g18:=by kernel_rfl
 g19:=by kernel_rfl
 i0:=by kernel_rfl
 i2:=by kernel_rfl
 i3:=by kernel_rfl
 i4:=by kernel_rfl
 i5:=by kernel_rfl
 i9:=by kernel_rfl
 i20:=by kernel_rfl
 i37:=by kernel_rfl
 i46:=by kernel_rfl
 i51:=by kernel_rfl
 i53:=by kernel_rfl
 i171:=by kernel_rfl
 i173:=by kernel_rfl
 i212:=by kernel_rfl
 i232:=by kernel_rfl
 i233:=by kernel_rfl
 m17:=by kernel_rfl
 m18:=by kernel_rfl
 m19:=by kernel_rfl }
open Go.RowKit Go.Sort Go.Lib in
theorem Tryz.strconv_Itoa (n : Int) (h0 : -9223372036854775808 ≤ n) (h1 : n ≤ 9223372036854775807) (w : World) (htab : Lib.TabIs Tryz.prog w "internal/strconv.uint64pow10" .u64 Lib.pow10Tab) :
  Calls Tryz.prog 168 #[.int .i64 n] w λe w'=>e=.returned (.string ⟨(Lib.itoa n).toArray⟩)/\∃ k os,w'=grow (w.drewN k) os:=Any.strconv_Itoa Tryz.laysM171 n h0 h1 w htab
def Tryz.laysPu14_ren:Go.Shelf.Ren:=⟨fun|14=>164|16=>195|17=>196|19=>220|20=>221|21=>222|22=>223|23=>224|24=>225|25=>248|27=>168|26=>249|28=>198|29=>230|30=>226|31=>227|32=>228|33=>229|35=>251|34=>250|36=>252|37=>253|38=>254|39=>263|40=>264|n=>n,fun|9=>9|3=>3|22=>186|24=>71|25=>187|4=>4|34=>228|5=>5|36=>58|37=>59|0=>0|39=>230|21=>21|44=>252|47=>97|50=>266|48=>264|2=>2|52=>233|55=>236|59=>255|60=>30|20=>20|61=>256|65=>274|66=>275|67=>47|n=>n,fun|0=>1|1=>2|2=>3|3=>6|4=>7|n=>n⟩
theorem Tryz.laysPu14:Go.Proofs.LaysPu.n14 Tryz.prog Tryz.laysPu14_ren:={
 mixed:=by kernel_rfl
 f14:=Tryz.func164.trans zCs
 f16:=Tryz.func195.trans zCs
 f17:=Tryz.func196.trans zCs
 f19:=Tryz.func220.trans zCs
 f20:=Tryz.func221.trans zCs
 f21:=Tryz.func222.trans zCs
 f22:=Tryz.func223.trans zCs
 f23:=Tryz.func224.trans zCs
 f24:=Tryz.func225.trans zCs
 f25:=Tryz.func248.trans zCs
 f26:=Tryz.func249.trans zCs
 f27:=Tryz.func168.trans zCs
 f28:=Tryz.func198.trans zCs
 f29:=Tryz.func230.trans zCs
 f30:=Tryz.func226.trans zCs
 f31:=Tryz.func227.trans zCs
 f32:=Tryz.func228.trans zCs
 f33:=Tryz.func229.trans zCs
 f34:=Tryz.func250.trans zCs
 f35:=Tryz.func251.trans zCs
 f36:=Tryz.func252.trans zCs
 f37:=Tryz.func253.trans zCs
 f38:=Tryz.func254.trans zCs
 f39:=Tryz.func263.trans zCs
 f40:=Tryz.func264.trans zCs
 t0:=Tryz.underlying0
 a0:=Tryz.isAgg0
 z0:=Tryz.sizeOf0
 v0:=Tryz.zeroValue0
 i0:=by kernel_rfl
 t2:=Tryz.underlying2
 a2:=Tryz.isAgg2
 z2:=Tryz.sizeOf2
 v2:=Tryz.zeroValue2
 i2:=by kernel_rfl
 t3:=Tryz.underlying3
 a3:=Tryz.isAgg3
 z3:=Tryz.sizeOf3
 v3:=Tryz.zeroValue3
 i3:=by kernel_rfl
 t4:=Tryz.underlying4
 a4:=Tryz.isAgg4
 z4:=Tryz.sizeOf4
 v4:=Tryz.zeroValue4
 i4:=by kernel_rfl
 t5:=Tryz.underlying5
 a5:=Tryz.isAgg5
 z5:=Tryz.sizeOf5
 v5:=Tryz.zeroValue5
 i5:=by kernel_rfl
 t9:=Tryz.underlying9
 a9:=Tryz.isAgg9
 z9:=Tryz.sizeOf9
 v9:=Tryz.zeroValue9
 i9:=by kernel_rfl
 t20:=Tryz.underlying20
 a20:=Tryz.isAgg20
 z20:=Tryz.sizeOf20
 v20:=Tryz.zeroValue20
 i20:=by kernel_rfl
 t21:=Tryz.underlying21
 a21:=Tryz.isAgg21
 z21:=Tryz.sizeOf21
 v21:=Tryz.zeroValue21
 i21:=by kernel_rfl
 t22:=Tryz.underlying186
 a22:=Tryz.isAgg186
 z22:=Tryz.sizeOf186
 v22:=Tryz.zeroValue186
 i22:=by kernel_rfl
 t24:=Tryz.underlying71
 a24:=Tryz.isAgg71
 z24:=Tryz.sizeOf71
 v24:=Tryz.zeroValue71
 i24:=by kernel_rfl
 t25:=Tryz.underlying187
 a25:=Tryz.isAgg187
 z25:=Tryz.sizeOf187
 v25:=Tryz.zeroValue187
 i25:=by kernel_rfl
 t34:=Tryz.underlying228
 a34:=Tryz.isAgg228
 z34:=Tryz.sizeOf228
 v34:=Tryz.zeroValue228
 i34:=by kernel_rfl
 c34:=by kernel_rfl
 t36:=Tryz.underlying58
 a36:=Tryz.isAgg58
 z36:=Tryz.sizeOf58
 v36:=Tryz.zeroValue58
 i36:=by kernel_rfl
 t37:=Tryz.underlying59
 a37:=Tryz.isAgg59
 z37:=Tryz.sizeOf59
 v37:=Tryz.zeroValue59
 i37:=by kernel_rfl
 t39:=Tryz.underlying230
 a39:=Tryz.isAgg230
 z39:=Tryz.sizeOf230
 v39:=Tryz.zeroValue230
 i39:=by kernel_rfl
 t44:=Tryz.underlying252
 a44:=Tryz.isAgg252
 z44:=Tryz.sizeOf252
 v44:=Tryz.zeroValue252
 i44:=by kernel_rfl
 t47:=Tryz.underlying97
 a47:=Tryz.isAgg97
 z47:=Tryz.sizeOf97
 v47:=Tryz.zeroValue97
 i47:=by kernel_rfl
 t48:=Tryz.underlying264
 a48:=Tryz.isAgg264
 z48:=Tryz.sizeOf264
 v48:=Tryz.zeroValue264
 i48:=by kernel_rfl
 t50:=Tryz.underlying266
 a50:=Tryz.isAgg266
 z50:=Tryz.sizeOf266
 v50:=Tryz.zeroValue266
 i50:=by kernel_rfl
 t52:=Tryz.underlying233
 a52:=Tryz.isAgg233
 z52:=Tryz.sizeOf233
 v52:=Tryz.zeroValue233
 i52:=by kernel_rfl
 t55:=Tryz.underlying236
 a55:=Tryz.isAgg236
 z55:=Tryz.sizeOf236
 v55:=Tryz.zeroValue236
 i55:=by kernel_rfl
 t59:=Tryz.underlying255
 a59:=Tryz.isAgg255
 z59:=Tryz.sizeOf255
 v59:=Tryz.zeroValue255
 i59:=by kernel_rfl
 t60:=Tryz.underlying30
 a60:=Tryz.isAgg30
 z60:=Tryz.sizeOf30
 v60:=Tryz.zeroValue30
 i60:=by kernel_rfl
 t61:=Tryz.underlying256
 a61:=Tryz.isAgg256
 z61:=Tryz.sizeOf256
 t65:=Tryz.underlying274
 a65:=Tryz.isAgg274
 z65:=Tryz.sizeOf274
 v65:=Tryz.zeroValue274
 i65:=by kernel_rfl
 t66:=Tryz.underlying275
 a66:=Tryz.isAgg275
 z66:=Tryz.sizeOf275
 v66:=Tryz.zeroValue275
 i66:=by kernel_rfl
 t67:=Tryz.underlying47
 a67:=Tryz.isAgg47
 z67:=Tryz.sizeOf47
 v67:=Tryz.zeroValue47
 i67:=by kernel_rfl
 g0:=by kernel_rfl
 m0:=by kernel_rfl
 g1:=by kernel_rfl
 m1:=by kernel_rfl
 g2:=by kernel_rfl
 m2:=by kernel_rfl
 g3:=by kernel_rfl
 m3:=by kernel_rfl
 g4:=by kernel_rfl
 m4:=by kernel_rfl }
open Go.RowKit in
theorem Tryz.strconv_ParseUint_10_at32_ok(s:ByteArray)(hmax:s.size<=9223372036854775806)(u:Nat)(h:Lib.parseUintB 32 s.data.toList=.ok u)(w:World) :
  Calls Tryz.prog 164 #[.string s,.int .i64 10,.int .i64 32] w λe w'=>e=.returned (.tuple #[.int .u64 u,.nilIface])/\(w'=w∨w'=Lib.bytesWorld w 5 s):=Any.strconv_ParseUint_10_at32_ok Tryz.laysPu14 s hmax u h w
open Go.RowKit in
theorem Tryz.strconv_ParseUint_10_at32_syntax_var (s : ByteArray) (hlim : s.size ≤ 281474976710656) (h : (∀ u, Lib.parseUintB 32 s.data.toList ≠ .ok u) ∧ Lib.parseUintB 32 s.data.toList ≠ .range) (tp : TypeId) (p : Value) (w : World) (hvar : w.var? Tryz.prog "strconv.ErrSyntax" = some #[.iface tp p]) :
  Calls Tryz.prog 164 #[.string s,.int .i64 10,.int .i64 32] w λe w'=>∃ N,e=.returned (.tuple #[.int .u64 0,.iface 230 (.pointer (some ⟨N,0,none⟩))])/\w.heap.size<=N/\w'.heap[N]? = some (.cells #[.string ⟨#[80,97,114,115,101,85,105,110,116]⟩,.string s,.iface tp p] 252 (0,0))/\Below w.heap.size w w':=by
 refine Any.strconv_ParseUint_10_at32_syntax_var Tryz.laysPu14 s hlim ?_ tp p w hvar
 cases hq:Lib.parseUintB 32 s.data.toList with
 |ok u=>exact absurd hq (h.1 u)
 |range=>exact absurd hq h.2
 |_=>rfl
open Go.RowKit in
theorem Tryz.strconv_ParseUint_10_at32_range_var (s : ByteArray) (hlim : s.size ≤ 281474976710656) (h : Lib.parseUintB 32 s.data.toList = .range) (tp : TypeId) (p : Value) (w : World) (hvar : w.var? Tryz.prog "strconv.ErrRange" = some #[.iface tp p]) :
  Calls Tryz.prog 164 #[.string s,.int .i64 10,.int .i64 32] w λe w'=>∃ N,e=.returned (.tuple #[.int .u64 4294967295,.iface 230 (.pointer (some ⟨N,0,none⟩))])/\w.heap.size<=N/\w'.heap[N]? = some (.cells #[.string ⟨#[80,97,114,115,101,85,105,110,116]⟩,.string s,.iface tp p] 252 (0,0))/\Below w.heap.size w w':=Any.strconv_ParseUint_10_at32_range_var Tryz.laysPu14 s hlim h tp p w hvar
def Tryz.lays144_ren:Go.Shelf.Ren:=⟨fun|144=>33|143=>66|219=>128|217=>171|225=>172|224=>173|267=>174|266=>202|314=>203|n=>n,fun|9=>9|4=>4|3=>3|5=>5|46=>58|146=>214|51=>30|n=>n,fun|1=>0|n=>n⟩
def Tryz.lays145_ren:Go.Shelf.Ren:=⟨fun|145=>155|220=>191|219=>128|217=>171|225=>172|224=>173|267=>174|266=>202|314=>203|n=>n,fun|9=>9|4=>4|59=>181|3=>3|5=>5|46=>58|146=>214|51=>30|n=>n,fun|1=>0|n=>n⟩
theorem Tryz.lays145:Go.Proofs.Lays.n145 Tryz.prog Tryz.lays145_ren:={
 mixed:=by kernel_rfl
 f145:=Tryz.func155.trans zCs
 f217:=Tryz.func171.trans zCs
 f219:=Tryz.func128.trans zCs
 f220:=Tryz.func191.trans zCs
 f224:=Tryz.func173.trans zCs
 f225:=Tryz.func172.trans zCs
 f266:=Tryz.func202.trans zCs
 f267:=Tryz.func174.trans zCs
 f314:=Tryz.func203.trans zCs
 t3:=Tryz.underlying3
 a3:=Tryz.isAgg3
 z3:=Tryz.sizeOf3
 v3:=Tryz.zeroValue3
 t4:=Tryz.underlying4
 a4:=Tryz.isAgg4
 z4:=Tryz.sizeOf4
 v4:=Tryz.zeroValue4
 t5:=Tryz.underlying5
 a5:=Tryz.isAgg5
 z5:=Tryz.sizeOf5
 v5:=Tryz.zeroValue5
 t9:=Tryz.underlying9
 a9:=Tryz.isAgg9
 z9:=Tryz.sizeOf9
 v9:=Tryz.zeroValue9
 t46:=Tryz.underlying58
 a46:=Tryz.isAgg58
 z46:=Tryz.sizeOf58
 v46:=Tryz.zeroValue58
 t51:=Tryz.underlying30
 a51:=Tryz.isAgg30
 z51:=Tryz.sizeOf30
 v51:=Tryz.zeroValue30
 t59:=Tryz.underlying181
 a59:=Tryz.isAgg181
 z59:=Tryz.sizeOf181
 v59:=Tryz.zeroValue181
 t146:=Tryz.underlying214
 a146:=Tryz.isAgg214
 z146:=Tryz.sizeOf214
 v146:=Tryz.zeroValue214
 g1:=by kernel_rfl }
open Go.RowKit Go.Lib in
theorem Tryz.strings_Cut(s sep:ByteArray)(m:Int)(w:World)(hs:s.size<4294967281)(hm:w.cell? ⟨0,0,none⟩=some (.int .i64 m)) :
  Calls Tryz.prog 155 #[.string s,.string sep] w λe w'=>e=.returned (.tuple #[.string ⟨(Lib.cut s.data.toList sep.data.toList).1.toArray⟩,.string ⟨(Lib.cut s.data.toList sep.data.toList).2.1.toArray⟩,.bool (Lib.cut s.data.toList sep.data.toList).2.2])/\∃ n,w'=w.drewN n:=Any.strings_Cut Tryz.lays145 s sep m w hs hm
def Tryz.lays138_ren:Go.Shelf.Ren:=⟨fun|138=>59|195=>118|218=>119|143=>66|219=>128|217=>171|225=>172|224=>173|267=>174|266=>202|314=>203|n=>n,fun|9=>9|3=>3|4=>4|5=>5|0=>0|46=>58|146=>214|51=>30|n=>n,fun|1=>0|n=>n⟩
theorem Tryz.lays138:Go.Proofs.Lays.n138 Tryz.prog Tryz.lays138_ren:={
 mixed:=by kernel_rfl
 f138:=Tryz.func59.trans zCs
 f143:=Tryz.func66.trans zCs
 f195:=Tryz.func118.trans zCs
 f217:=Tryz.func171.trans zCs
 f218:=Tryz.func119.trans zCs
 f219:=Tryz.func128.trans zCs
 f224:=Tryz.func173.trans zCs
 f225:=Tryz.func172.trans zCs
 f266:=Tryz.func202.trans zCs
 f267:=Tryz.func174.trans zCs
 f314:=Tryz.func203.trans zCs
 t0:=Tryz.underlying0
 a0:=Tryz.isAgg0
 z0:=Tryz.sizeOf0
 v0:=Tryz.zeroValue0
 t3:=Tryz.underlying3
 a3:=Tryz.isAgg3
 z3:=Tryz.sizeOf3
 v3:=Tryz.zeroValue3
 t4:=Tryz.underlying4
 a4:=Tryz.isAgg4
 z4:=Tryz.sizeOf4
 v4:=Tryz.zeroValue4
 t5:=Tryz.underlying5
 a5:=Tryz.isAgg5
 z5:=Tryz.sizeOf5
 v5:=Tryz.zeroValue5
 t9:=Tryz.underlying9
 a9:=Tryz.isAgg9
 z9:=Tryz.sizeOf9
 v9:=Tryz.zeroValue9
 t46:=Tryz.underlying58
 a46:=Tryz.isAgg58
 z46:=Tryz.sizeOf58
 v46:=Tryz.zeroValue58
 t51:=Tryz.underlying30
 a51:=Tryz.isAgg30
 z51:=Tryz.sizeOf30
 v51:=Tryz.zeroValue30
 t146:=Tryz.underlying214
 a146:=Tryz.isAgg214
 z146:=Tryz.sizeOf214
 v146:=Tryz.zeroValue214
 g1:=by kernel_rfl }
open Go.RowKit Go.Lib in
theorem Tryz.strings_Count_one(s:ByteArray)(c:UInt8)(w:World) :
  Calls Tryz.prog 59 #[.string s,.string ⟨#[c]⟩] w λe w'=>e=.returned (.int .i64 (Lib.countByte s.data.toList c))/\w'=w:=Any.strings_Count_one Tryz.lays138 s c w
def Tryz.lays99_ren:Go.Shelf.Ren:=⟨fun|99=>108|206=>163|n=>n,fun|9=>9|4=>4|3=>3|n=>n,fun|n=>n⟩
theorem Tryz.lays99:Go.Proofs.Lays.n99 Tryz.prog Tryz.lays99_ren:={
 mixed:=by kernel_rfl
 f99:=Tryz.func108.trans zCs
 f206:=Tryz.func163.trans zCs
 t3:=Tryz.underlying3
 a3:=Tryz.isAgg3
 z3:=Tryz.sizeOf3
 v3:=Tryz.zeroValue3
 t4:=Tryz.underlying4
 a4:=Tryz.isAgg4
 z4:=Tryz.sizeOf4
 v4:=Tryz.zeroValue4
 t9:=Tryz.underlying9
 a9:=Tryz.isAgg9
 z9:=Tryz.sizeOf9
 v9:=Tryz.zeroValue9 }
open Go.RowKit Go.Lib in
theorem Tryz.strings_HasPrefix(s p:ByteArray)(w:World) :
  Calls Tryz.prog 108 #[.string s,.string p] w λe w'=>e=.returned (.bool (Lib.hasPrefix s.data.toList p.data.toList))/\w'=w:=Any.strings_HasPrefix Tryz.lays99 s p w
def Tryz.lays146_ren:Go.Shelf.Ren:=⟨fun|146=>154|221=>190|268=>211|138=>59|143=>66|195=>118|197=>243|218=>119|219=>128|260=>260|217=>171|225=>172|224=>173|267=>174|266=>202|314=>203|n=>n,fun|9=>9|31=>32|3=>3|4=>4|0=>0|105=>248|21=>21|5=>5|46=>58|119=>269|139=>272|138=>271|146=>214|51=>30|n=>n,fun|1=>0|3=>4|4=>5|n=>n⟩
theorem Tryz.lays146:Go.Proofs.Lays.n146 Tryz.prog Tryz.lays146_ren:={
 mixed:=by kernel_rfl
 f138:=Tryz.func59.trans zCs
 f143:=Tryz.func66.trans zCs
 f146:=Tryz.func154.trans zCs
 f195:=Tryz.func118.trans zCs
 f197:=Tryz.func243.trans zCs
 f217:=Tryz.func171.trans zCs
 f218:=Tryz.func119.trans zCs
 f219:=Tryz.func128.trans zCs
 f221:=Tryz.func190.trans zCs
 f224:=Tryz.func173.trans zCs
 f225:=Tryz.func172.trans zCs
 f260:=Tryz.func260.trans zCs
 f266:=Tryz.func202.trans zCs
 f267:=Tryz.func174.trans zCs
 f268:=Tryz.func211.trans zCs
 f314:=Tryz.func203.trans zCs
 t0:=Tryz.underlying0
 a0:=Tryz.isAgg0
 z0:=Tryz.sizeOf0
 v0:=Tryz.zeroValue0
 t3:=Tryz.underlying3
 a3:=Tryz.isAgg3
 z3:=Tryz.sizeOf3
 v3:=Tryz.zeroValue3
 t4:=Tryz.underlying4
 a4:=Tryz.isAgg4
 z4:=Tryz.sizeOf4
 v4:=Tryz.zeroValue4
 t5:=Tryz.underlying5
 a5:=Tryz.isAgg5
 z5:=Tryz.sizeOf5
 v5:=Tryz.zeroValue5
 t9:=Tryz.underlying9
 a9:=Tryz.isAgg9
 z9:=Tryz.sizeOf9
 v9:=Tryz.zeroValue9
 t21:=Tryz.underlying21
 a21:=Tryz.isAgg21
 z21:=Tryz.sizeOf21
 v21:=Tryz.zeroValue21
 t31:=Tryz.underlying32
 a31:=Tryz.isAgg32
 z31:=Tryz.sizeOf32
 v31:=Tryz.zeroValue32
 t46:=Tryz.underlying58
 a46:=Tryz.isAgg58
 z46:=Tryz.sizeOf58
 v46:=Tryz.zeroValue58
 t51:=Tryz.underlying30
 a51:=Tryz.isAgg30
 z51:=Tryz.sizeOf30
 v51:=Tryz.zeroValue30
 t105:=Tryz.underlying248
 a105:=Tryz.isAgg248
 z105:=Tryz.sizeOf248
 v105:=Tryz.zeroValue248
 t119:=Tryz.underlying269
 a119:=Tryz.isAgg269
 z119:=Tryz.sizeOf269
 t138:=Tryz.underlying271
 a138:=Tryz.isAgg271
 z138:=Tryz.sizeOf271
 v138:=Tryz.zeroValue271
 t139:=Tryz.underlying272
 a139:=Tryz.isAgg272
 z139:=Tryz.sizeOf272
 v139:=Tryz.zeroValue272
 t146:=Tryz.underlying214
 a146:=Tryz.isAgg214
 z146:=Tryz.sizeOf214
 v146:=Tryz.zeroValue214
 g1:=by kernel_rfl
 g3:=by kernel_rfl
 g4:=by kernel_rfl }
open Go.RowKit Go.Lib in
theorem Tryz.strings_Split(s sep:ByteArray)(m:Int)(w:World)(hs:s.size<4294967281)(hm:w.cell? ⟨0,0,none⟩=some (.int .i64 m))(h1:1<=sep.size) :
  Calls Tryz.prog 154 #[.string s,.string sep] w λe w'=>
   e=.returned (.slice (some ⟨w.heap.size,0,none⟩) (Lib.countB s sep+1) (Lib.countB s sep+1))/\w'=w.alloc (.cells ((Lib.splitB sep 0 (Lib.countB s sep) s).map Value.string).toArray 9):=Any.strings_Split Tryz.lays146 (by kernel_rfl) s sep m w hs hm h1
end Go.Proofs
namespace Go.Proofs.YtkihibnffkpnkaaGreatDoor
open Go.GL Go.RowKit Go.Stele
attribute [local irreducible] LOps qag qae LCalls Go.GL.Pure qax qam qad
section
variable{B0:Nat}{w0:World}
theorem qgd{f:FuncId} [TEnter Tryz.prog f](p:UInt8->Bool)(hp:∀ c:UInt8,LCalls (KC B0 w0) f [int .u8 c.toNat] [] (Ret (bool (p c))))(s:List UInt8)(hs:s.length<=1000000000) :
  LCalls (KC B0 w0) 109 [str s,.atom (.func (.func f) #[] #[])] [] (Ret (str (s.takeWhile p))):=by
 refine zcI Tryz.func109 rfl (n:=22) rfl rfl rfl ?_;refine gac ?_
 refine oL (λk l H=>∃ m:Nat,k=s.length-m/\l=[(0,str s),(1,.atom (.func (.func f) #[] #[])),(5,int .i64 m)]/\H=[]/\m<=s.length/\s.takeWhile p=s.take m++(s.drop m).takeWhile p)
  ⟨_,_,_,⟨0,rfl,rfl,rfl,by omega,by simp⟩,⟨rfl,rfl,rfl,trivial⟩,zhR _⟩ ?_
 rintro k l H ⟨m,rfl,rfl,rfl,hm,hI⟩ j hj;refine gab ?_;refine oB 10 rfl (λht=>?_) (λht=>?_);have hlt:m<s.length:=by simpa using ht
 refine gaa ?_;refine oP (pI (c:=s[m]) rfl rfl zo (by simp)) rfl ?_;refine LOps.want rfl rfl ?_;refine oS (S.fnV [_] rfl rfl (hp s[m]) ?_) rfl;refine gaa ?_;refine oC rfl (λhc=>?_) (λhc=>?_);refine gac ?_;exact⟨_,_,_,by omega,⟨m+1,rfl,rfl,rfl,by omega,(qgy hlt hI).1 (by simpa using hc)⟩,⟨rfl,rfl,qao zo,trivial⟩,zhR _,hj⟩;refine gac ?_;refine oP (Pure.sslice (i:=0) (j:=m) rfl rfl ⟨_,rfl⟩ zo zo zo) rfl ?_;refine gaf ?_
 exact qac hj (zra rfl) (by
  rw[(qgy hlt hI).2 (by simpa using hc)]
  simp[qbI])
 have hge:s.length<=m:=by simpa using ht
 refine gaa ?_;refine oC rfl (λhc=>?_) (λhc=>?_);cases hc;refine gac ?_;refine oP (Pure.sslice (i:=0) (j:=m) rfl rfl ⟨_,rfl⟩ zo zo zo) rfl ?_;refine gaf ?_
 exact qac hj (zra rfl) (by
  rw[qlX hge hI]
  simp[qbI])
theorem qgu(s p:List UInt8):LCalls (KC B0 w0) 108 [str s,str p] [] (Ret (bool (p.isPrefixOf s))):=
 LCalls.ret_of (vs:=[.string ⟨s.toArray⟩,.string ⟨p.toArray⟩]) λw _=>(Go.Proofs.Tryz.strings_HasPrefix _ _ w).mono λe w' he=>by
  obtain⟨h1,h2⟩:=he;subst h2;exact⟨by simpa [Go.Lib.hasPrefix] using h1,Below.refl _ _⟩
theorem qtf(s:List UInt8)(hs:s.length<=1000000000):LCalls (KC B0 w0) 57 [str s] [] (Ret (int .i64 (qbp s))):=by
 refine zcI Tryz.func57 rfl (n:=11) rfl rfl rfl ?_;refine gap ?_;refine oS (sF [_,_] rfl (qgu s [47,47]) ?_) rfl;refine gaf ?_;refine oC rfl (λhc=>?_) (λhc=>?_);refine gag ?_;refine oS (sF [_,_] rfl (qgd qwG qqP s hs) ?_) rfl;refine gad ?_;exact qac rfl (zra rfl) (by simp only[qbI,qbp,hc,if_true]);refine gac ?_;refine oS (sF [_,_] rfl (qgd qdy qrm s hs) ?_) rfl;refine gad ?_;exact qac rfl (zra rfl) (by simp only[qbI,qbp,hc,Bool.false_eq_true,if_false])
end
end Go.Proofs.YtkihibnffkpnkaaGreatDoor
namespace Go.Proofs.YtkihibnffkpnkaaGreatDoor
open Go Go.Shelf Go.RowKit Go.Sort Go.Lib
set_option maxHeartbeats 6400000
theorem qj3 (u : Nat) (hu64 : u < 18446744073709551616) (w : World) (htab : Lib.TabIs Tryz.prog w "internal/strconv.uint64pow10" .u64 Lib.pow10Tab) :
  Calls Tryz.prog 197 #[.int .u64 u,.int .i64 10] w λe w'=>e=.returned (.string ⟨(Lib.decDigits u).toArray⟩)/\Below w.heap.size w w':=by
 have mixed:Tryz.prog.follows .mixedOrders=true:=by kernel_rfl
 have t3:=Tryz.underlying3;have a3:=Tryz.isAgg3;have z3:=Tryz.sizeOf3;have v3:=Tryz.zeroValue3;have t9:=Tryz.underlying9;have a9:=Tryz.isAgg9;have z9:=Tryz.sizeOf9;have v9:=Tryz.zeroValue9;have t4:=Tryz.underlying4;have a4:=Tryz.isAgg4;have z4:=Tryz.sizeOf4;have v4:=Tryz.zeroValue4;have t142:=Tryz.underlying233;have a142:=Tryz.isAgg233;have z142:=Tryz.sizeOf233;have v142:=Tryz.zeroValue233;have t0:=Tryz.underlying0;have a0:=Tryz.isAgg0;have z0:=Tryz.sizeOf0;have v0:=Tryz.zeroValue0;have t119:=Tryz.underlying186;have a119:=Tryz.isAgg186;have z119:=Tryz.sizeOf186;have v119:=Tryz.zeroValue186;have t85:=Tryz.underlying59;have a85:=Tryz.isAgg59;have z85:=Tryz.sizeOf59;have v85:=Tryz.zeroValue59;have t5:=Tryz.underlying5;have a5:=Tryz.isAgg5;have z5:=Tryz.sizeOf5;have v5:=Tryz.zeroValue5;have e137:∀ args w,(callFunc 226 args).run Tryz.prog w=.ok (.enter 226 args) w:=enters_of Tryz.func226 (by kernel_rfl) rfl;have e138:∀ args w,(callFunc 227 args).run Tryz.prog w=.ok (.enter 227 args) w:=enters_of Tryz.func227 (by kernel_rfl) rfl;have e139:∀ args w,(callFunc 228 args).run Tryz.prog w=.ok (.enter 228 args) w:=enters_of Tryz.func228 (by kernel_rfl) rfl
 by_cases hs:u<100
 go_enter Tryz.func197,Tryz.ntmps197
 go_wp2_with (go_at_fn (226);refine(Tryz.internal_strconv_small u hs _).mono ?_;rintro e w' ⟨rfl,rfl⟩)
 go_ret
 exact⟨rfl,Below.refl _ _⟩;have hu1:1<=u:=by omega
 have hnd20:Lib.nDigits u<=20:=by have:=Lib.numDigits_eq u hu1 hu64;split at this <;> omega
 have hal:Tryz.prog.arrayLen 233=24:=by simp[Program.arrayLen,Tryz.underlying233]
 have hsl:∀ W,(Instr.sliceAt 233 (.pointer (some ⟨w.heap.size,0,none⟩)) none (some (.int .i64 (Lib.nDigits u:Int))) none).run Tryz.prog W=.ok (.slice (some ⟨w.heap.size,0,none⟩) (Lib.nDigits u) 24) W:=λW=>by
  rw[run_sliceAt_array_h W 233 ⟨w.heap.size,0,none⟩ (by simp[Program.arrayLen,Program.elem,Tryz.underlying233]) .i64 (Lib.nDigits u:Int) (by omega) (by rw[hal];omega)]
  go_simp
 have hH0:=Lib.holds_zero0 w 233 (Lib.nDigits u) (by omega);have hfmt:=Tryz.internal_strconv_formatBase10 w.heap.size 0 24 u (Array.replicate (Lib.nDigits u) 0) (w.alloc (.cells Lib.zeros24 233)) hH0 (by rw[Array.size_replicate];exact Lib.lt_pow_nDigits u) hu64 (by rw[Array.size_replicate];omega);rw[Array.size_replicate] at hfmt;have HH0:=Lib.hid hH0;clear hH0 hal
 go_enter Tryz.func197,Tryz.ntmps197
 go_wp2_with (first
  |(go_at_fn (227);refine(Tryz.internal_strconv_numDigits u hu1 hu64 _ (Lib.tabIs_alloc htab _)).mono ?_;rintro e w' ⟨rfl,rfl⟩))
 go_at_fn (228)
 refine hfmt.mono ?_;rintro e w' ⟨rfl,k,v',dk,rfl,hF⟩
 have hcv:(convert 59 9 (.slice (some ⟨w.heap.size,0,none⟩) (Lib.nDigits u) 24)).run Tryz.prog ((putRow (λ(b:UInt8)=>Value.int .u8 (b.toNat:Int)) (w.alloc (.cells Lib.zeros24 233)) w.heap.size 0 dk).drewN k)=.ok (.string ⟨(Lib.decDigits u).toArray⟩) ((putRow (λ(b:UInt8)=>Value.int .u8 (b.toNat:Int)) (w.alloc (.cells Lib.zeros24 233)) w.heap.size 0 dk).drewN k):=by
  have h:=run_convert_bytes_back (P:=Tryz.prog) ((putRow (λ(b:UInt8)=>Value.int .u8 (b.toNat:Int)) (w.alloc (.cells Lib.zeros24 233)) w.heap.size 0 dk).drewN k) 59 9 5 ⟨w.heap.size,0,none⟩ 24 (Lib.decDigits u) Tryz.underlying59 Tryz.underlying5 Tryz.underlying9 (λj hj=>by
   rw[Lib.row_is_numeral hF j hj,Lib.add_plain,World.cell?_drewN]
   exact cell?_putRow (λ(b:UInt8)=>Value.int .u8 (b.toNat:Int)) _ w.heap.size 0 _ dk HH0.out (by rw[hF.size,Array.size_replicate]) j (by rw[hF.size];rw[Lib.decDigits_length] at hj;exact hj))
  rw[Lib.decDigits_length] at h;exact h
 go_wp2
 go_ret
 refine⟨rfl,?_⟩;obtain⟨os,eo⟩:=Lib.fin_at w (.cells Lib.zeros24 233) dk k 0;rw[eo];exact Lib.below_grow _ w (zNr _) k os
open Go.GL Go.RowKit Go.Stele
attribute [local irreducible] LOps qag qae LCalls Go.GL.Pure qax qam qad
structure GW(B0:Nat)(w0:World):Prop where
 pow10 : Go.Lib.TabIs Tryz.prog w0 "internal/strconv.uint64pow10" .u64 Go.Lib.pow10Tab
 errRange : ∃ tp p, w0.var? Tryz.prog "strconv.ErrRange" = some #[.iface tp p]
 big:8<=B0
section
variable{B0:Nat}{w0:World}
theorem GW.tab (h : GW B0 w0) {w : World} (hb : Below B0 w0 w) : Go.Lib.TabIs Tryz.prog w "internal/strconv.uint64pow10" .u64 Go.Lib.pow10Tab := by
 have hg : Tryz.prog.globalNamed "internal/strconv.uint64pow10" = some 3 := by kernel_rfl
 exact var?_below hb hg (Nat.lt_of_lt_of_le zDd h.big) h.pow10
theorem GW.err (h : GW B0 w0) {w : World} (hb : Below B0 w0 w) : ∃ tp p, w.var? Tryz.prog "strconv.ErrRange" = some #[.iface tp p] := by
 have hg : Tryz.prog.globalNamed "strconv.ErrRange" = some 2 := by kernel_rfl
 obtain⟨tp,p,hv⟩:=h.errRange;exact⟨tp,p,var?_below hb hg (Nat.lt_of_lt_of_le zDd h.big) hv⟩
theorem qdp(hG:GW B0 w0)(u:Nat)(hu:u<=9223372036854775807):LCalls (KC B0 w0) 168 [int .i64 u] [] (Ret (str (Go.Lib.decDigits u))):=
 LCalls.ret_of (vs:=[.int .i64 u]) λw hw=>(Go.Proofs.Tryz.strconv_Itoa u zo zo w (hG.tab hw)).mono λe w' he=>by
  obtain⟨h1,k,os,h2⟩:=he;rw[Go.Lib.itoa_nonneg] at h1;exact⟨h1,by rw[h2];exact Go.Lib.below_grow _ w (zNr _) k os⟩
theorem fmtUint_spec(hG:GW B0 w0)(u:Nat)(hu:u<18446744073709551616):LCalls (KC B0 w0) 165 [int .u64 u,int .i64 10] [] (Ret (str (Go.Lib.decDigits u))):=by
 refine zcI Tryz.func165 rfl (n:=8) rfl rfl rfl ?_;refine gap ?_;refine oS (sF [_,_] rfl (LCalls.ret_of (vs:=[.int .u64 u,.int .i64 10]) λw hw=>qj3 u hu w (hG.tab hw)) ?_) rfl;refine gaf ?_;exact qac rfl (zra rfl) rfl
theorem qiI(s:List UInt8)(hs:s.length<=1000000000)(u:Nat)(h:Go.Lib.parseUintB 32 s=.ok u) :
  LCalls (KC B0 w0) 164 [str s,int .i64 10,int .i64 32] [] (Ret (.tuple [int .u64 u,.atom .nilIface])):=by
 refine LCalls.mono (LCalls.of_belowT (vs:=[.string ⟨s.toArray⟩,.int .i64 10,.int .i64 32]) (p:=λus=>us=[.int .u64 u,.nilIface]) λw hw=>?_) ?_;refine(Go.Proofs.Tryz.strconv_ParseUint_10_at32_ok ⟨s.toArray⟩ ?_ u (by simpa using h) w).mono λe w' he=>⟨_,he.1,rfl,?_⟩;show s.toArray.size<=_
 simp
 omega;rcases he.2 with h2|h2;rw[h2];exact Below.refl _ _;rw[h2];exact⟨rfl,rfl,rfl,by rw[Go.Lib.bytesWorld_size];omega,λk hk=>Go.Lib.bytesWorld_at_old w 5 _ k hk⟩;rintro r H ⟨v,rfl,⟨us,rfl,rfl⟩,rfl⟩;exact⟨rfl,rfl⟩
theorem qkx(hG:GW B0 w0)(s:List UInt8)(hs:s.length<=1000000000)(h:Go.Lib.parseUintB 32 s=.range) :
  LCalls (KC B0 w0) 164 [str s,int .i64 10,int .i64 32] [] (qg3 λlv=>∃ v t p,lv=.tuple [int .u64 v,.atom (.iface t p)]):=by
 refine LCalls.mono (LCalls.of_belowT (vs:=[.string ⟨s.toArray⟩,.int .i64 10,.int .i64 32]) (p:=λus=>∃ v t p,us=[.int .u64 v,.iface t p]) λw hw=>?_) ?_;obtain⟨tp,p,hv⟩:=hG.err hw;refine(Go.Proofs.Tryz.strconv_ParseUint_10_at32_range_var ⟨s.toArray⟩ ?_ (by simpa using h) tp p w hv).mono λe w' he=>?_;show s.toArray.size<=_
 simp
 omega;obtain⟨N,h1,_,_,h4⟩:=he;exact⟨_,h1,⟨_,_,_,rfl⟩,h4⟩;rintro r H ⟨v,rfl,⟨us,⟨a,t,p,rfl⟩,rfl⟩,rfl⟩;exact⟨_,rfl,⟨a,t,p,rfl⟩,rfl⟩
theorem qiN(s:List UInt8):LCalls (KC B0 w0) 59 [str s,str [10]] [] (Ret (int .i64 (s.count 10))):=
 LCalls.ret_of (vs:=[.string ⟨s.toArray⟩,.string ⟨#[10]⟩]) λw _=>(Go.Proofs.Tryz.strings_Count_one _ _ w).mono λe w' he=>by
  obtain⟨h1,h2⟩:=he;subst h2;exact⟨by simpa [Go.Lib.countByte] using h1,Below.refl _ _⟩
end
def qdr(t:Tok):LV:=.agg [int .i64 t.kind,str t.text,int .i64 t.line]
def qlV(r:TokR):LV:=.tuple [qdr r.1,int .i64 r.2.1,int .i64 r.2.2]
theorem qaF(l:List (List UInt8)):qdz 1 (l.map str):=λv hv=>by
 obtain⟨x,_,rfl⟩:=List.mem_map.1 hv;exact⟨rfl,rfl⟩
section
variable{B0:Nat}{w0:World}
theorem qht:LCalls (KC B0 w0) 167 [] [] (Ret (.list (qdl.map str))):=by
 refine zcI Tryz.func167 rfl (n:=2) rfl rfl rfl ?_;refine gaq ?_;refine oS (sL [_,_,_,_,_,_,_,_] rfl (qaF qdl) rfl rfl rfl ?_) rfl;refine gad ?_;exact qac rfl (rC (rT (v:=.list _) rfl zsr) rN) rfl
theorem qqR:LCalls (KC B0 w0) 117 [] [] (Ret (.list (qcO.map str))):=by
 refine zcI Tryz.func117 rfl (n:=2) rfl rfl rfl ?_;refine gaq ?_;refine oS (sL [_,_,_,_,_,_,_,_,_,_,_,_,_,_,_,_,_,_,_,_,_,_,_,_] rfl (qaF qcO) rfl rfl rfl ?_) rfl;refine gad ?_;exact qac rfl (rC (rT (v:=.list _) rfl zsr) rN) rfl
theorem qrc(l:List (List UInt8))(x:List UInt8)(hl:l.length<=1000000000):LCalls (KC B0 w0) 169 [.list (l.map str),str x] [] (qg3 λlv=>∃ n:Int,lv=int .i64 n/\decide (0<=n)=l.contains x):=by
 refine zcI Tryz.func169 rfl (n:=19) rfl rfl rfl ?_;refine gac ?_
 refine oL (λk ls H=>∃ m:Nat,k=l.length-m/\ls=[(0,.list (l.map str)),(1,str x),(7,int .i64 (l.map str).length),(8,int .i64 m)]/\H=[]/\m<=l.length/\l.contains x=(l.drop m).contains x)
  ⟨_,_,_,⟨0,rfl,rfl,rfl,by omega,by simp⟩,⟨rfl,rfl,rfl,rfl,trivial⟩,zhR _⟩ ?_
 rintro k ls H ⟨m,rfl,rfl,rfl,hm,hI⟩ j hj;refine gai ?_;refine oC rfl (λhc=>?_) (λhc=>?_);have hlt:m<l.length:=by simpa using hc
 refine gac ?_;refine oP (xR (el':=str l[m]) rfl rfl zo (by simp) rfl rfl) rfl ?_;refine gad ?_;refine oC rfl (λhe=>?_) (λhe=>?_);refine gac ?_;have hx:x=l[m]:=by simpa using he
 exact qcj hj (zra rfl) ⟨m,rfl,by
  rw[hx,decide_eq_true zo]
  simp⟩
 refine gac ?_;have hx:¬ x=l[m]:=by simpa using he
 exact⟨_,_,_,by omega,⟨m+1,rfl,rfl,rfl,by omega,by
  rw[hI,List.drop_eq_getElem_cons hlt,List.contains_cons]
  simp[hx]⟩,⟨rfl,rfl,rfl,qao zo,trivial⟩,zhR _,hj⟩
 have hge:l.length<=m:=by simpa using hc
 refine gac ?_
 exact qcj hj (zra rfl) ⟨-1,rfl,by
  rw[hI,List.drop_eq_nil_of_le hge]
  rfl⟩
theorem qdN(l:List (List UInt8))(x:List UInt8)(hl:l.length<=1000000000):LCalls (KC B0 w0) 120 [.list (l.map str),str x] [] (Ret (bool (l.contains x))):=by
 refine zcI Tryz.func120 rfl (n:=9) rfl rfl rfl ?_;refine gac ?_;refine oS (S.fnIf [_,_] rfl (qrc l x hl) ?_) rfl;rintro lv ⟨n,rfl,hn⟩;refine gad ?_;exact qac rfl (zra rfl) (by rw[<-hn];rfl)
theorem qs1(s:List UInt8)(hs:s.length<=1000000000):LCalls (KC B0 w0) 115 [str s] [] (Ret (qlV (qfD s))):=by
 refine zcI Tryz.func115 rfl (n:=21) rfl rfl rfl ?_;refine gah ?_;refine oS (sA λb=>?_) rfl;refine gap ?_;refine oS (sF [_,_] rfl (qgd qaW qq5 s hs) ?_) rfl;refine gab ?_;refine oC rfl (λhc=>?_) (λhc=>?_);refine gab ?_
 exact qac rfl (rC (rA rfl zm0 rfl zsr) (rC (zrt rfl) (zra rfl))) (by
  rw[qfD,if_pos (by have:=zt hc;omega)]
  rfl)
 refine gac ?_;refine oS (sF [] rfl qht ?_) rfl;refine gaa ?_;refine oS (sF [_,_] rfl (qdN qdl (s.takeWhile qaW) zDd) ?_) rfl;refine gaf ?_;refine oC rfl (λhk=>?_) (λhk=>?_);refine gab ?_
 exact qac rfl (rC (rA rfl zm0 rfl zsr) (rC (zrt rfl) (zra rfl))) (by
  rw[qfD,if_neg (by have:=zf hc;omega),if_pos hk]
  rfl)
 refine gab ?_
 exact qac rfl (rC (rA rfl zm0 rfl zsr) (rC (zrt rfl) (zra rfl))) (by
  rw[qfD,if_neg (by have:=zf hc;omega),if_neg (by rw[hk];decide)]
  rfl)
end
theorem qio(M:Nat)(acc:Nat)(l:List UInt8)(h:∀ c∈l,qap c=true):Go.Lib.parseUintM M acc l=.range∨∃ u,Go.Lib.parseUintM M acc l=.ok u:=by
 induction l generalizing acc with
 |nil=>exact .inr ⟨acc,rfl⟩
 |cons c r ih=>
  have hc:=h c List.mem_cons_self;simp only[qap,zBa,zDe,cv] at hc;rw[Go.Lib.parseUintM,if_pos zo];split;exact .inl rfl;split;exact .inl rfl;exact ih _ (λc hc=>h c (zMo _ hc))
theorem qiU(M:Nat)(acc:Nat)(l:List UInt8)(ha:acc<=M){u:Nat}(h:Go.Lib.parseUintM M acc l=.ok u):u<=M:=by
 induction l generalizing acc with
 |nil=>simp only[Go.Lib.parseUintM,Go.Lib.NumEnd.ok.injEq] at h;omega
 |cons c r ih=>
  rw[Go.Lib.parseUintM] at h;split at h;split at h;cases h;split at h;cases h;exact ih _ zo h;cases h
theorem qiR(s:List UInt8)(hne:s.takeWhile qap≠[]):Go.Lib.parseUintB 32 (s.takeWhile qap)=.range∨∃ u,u<18446744073709551616/\Go.Lib.parseUintB 32 (s.takeWhile qap)=.ok u:=by
 unfold Go.Lib.parseUintB;rw[if_neg hne]
 have hall:∀ (s:List UInt8),∀ c∈s.takeWhile qap,qap c=true:=λs c hc=>by
  induction s with
  |nil=>cases hc
  |cons a r ih=>
   by_cases ha:qap a=true
   rw[List.takeWhile_cons_of_pos ha] at hc;rcases zMi.1 hc with rfl|hc;exact ha;exact ih hc;rw[List.takeWhile_cons_of_neg ha] at hc;cases hc
 rcases qio (2 ^ 32-1) 0 (s.takeWhile qap) (hall s) with h|⟨u,h⟩;exact .inl h;have:=qiU _ _ _ zo h;exact .inr ⟨u,by omega,h⟩
instance:TIface zTp 71:=.of zk
section
variable{B0:Nat}{w0:World}
theorem qdd(hG:GW B0 w0)(s:List UInt8)(hs:s.length<=1000000000)(hne:s.takeWhile qap≠[]):LCalls (KC B0 w0) 113 [str s] [] (Ret (qlV (qdo s))):=by
 refine zcI Tryz.func113 rfl (n:=43) rfl rfl rfl ?_;refine gah ?_;refine oS (sA λb=>?_) rfl;refine gap ?_;refine oS (sF [_,_] rfl (qgd qap qhM s hs) ?_) rfl;refine gab ?_;refine LOps.cut [(0,str s),(2,ptr b 0),(5,str (s.takeWhile qap)),(28,bool (qdk s (s.takeWhile qap).length))] ?_ (λj hj=>?_);refine oB 17 rfl (λht=>?_) (λht=>?_);have hlt:(s.takeWhile qap).length<s.length:=by simpa using ht
 have hw:qdk s (s.takeWhile qap).length=(qaV s[(s.takeWhile qap).length] || decide (cv s[(s.takeWhile qap).length]=95)):=by
  rw[qdk,List.getElem?_eq_getElem hlt]
 refine gaa ?_;refine oP (pI (c:=s[(s.takeWhile qap).length]) rfl rfl zo (by simp)) rfl ?_;refine LOps.want rfl rfl ?_;refine oS (sF [_] rfl (qgQ _) ?_) rfl;refine gaa ?_;refine oB 22 rfl (λhl=>?_) (λhl=>?_);refine gaa ?_;exact⟨⟨rfl,rfl,rfl,qau (by rw[hw,hl];rfl),trivial⟩,rfl,rfl⟩;refine gaa ?_;refine oP (pI (c:=s[(s.takeWhile qap).length]) rfl rfl zo (by simp)) rfl ?_;refine gaa ?_;exact⟨⟨rfl,rfl,rfl,qau (by rw[hw,hl];rfl),trivial⟩,rfl,rfl⟩;have hge:s.length<=(s.takeWhile qap).length:=by simpa using ht
 refine gad ?_;exact⟨⟨rfl,rfl,rfl,qau (by rw[qdk,List.getElem?_eq_none hge]),trivial⟩,rfl,rfl⟩
 skip
 refine oC rfl (λhc=>?_) (λhc=>?_);refine gab ?_
 exact qac hj (rC (rA rfl zm0 rfl zsr) (rC (zrt rfl) (zra rfl))) (by
  rw[qdo,if_pos hc]
  rfl)
 refine gac ?_;rcases qiR s hne with hp|⟨u,hu,hp⟩;refine oS (S.fnIf [_,_,_] rfl (qkx hG (s.takeWhile qap) (zNt (List.takeWhile_prefix qap).length_le hs) hp) ?_) rfl;rintro lv ⟨v,t,p,rfl⟩;refine gab ?_;refine oC rfl (λhc=>?_) (λhc=>?_);refine gab ?_
 exact qac hj (rC (rA rfl zm0 rfl zsr) (rC (zrt rfl) (zra rfl))) (by
  rw[qdo,if_neg (by rw[‹qdk s _=false›];decide),hp]
  rfl)
 cases hc;refine oS (sF [_,_,_] rfl (qiI (s.takeWhile qap) (zNt (List.takeWhile_prefix qap).length_le hs) u hp) ?_) rfl;refine gab ?_;refine oC rfl (λhc=>?_) (λhc=>?_);cases hc;refine gac ?_;refine oS (sF [_,_] rfl (fmtUint_spec hG u hu) ?_) rfl;refine gad ?_
 exact qac hj (rC (rA rfl zm0 rfl zsr) (rC (zrt rfl) (zra rfl))) (by
  rw[qdo,if_neg (by rw[‹qdk s _=false›];decide),hp]
  rfl)
theorem qnT(hG:GW B0 w0)(s:List UInt8)(hs:s.length<=1000000000):LCalls (KC B0 w0) 116 [str s] [] (Ret (qlV (qcr s))):=by
 by_cases h3:s.length<3
 have hl:qcr s=qb9 3:=by
  match s,h3 with
  |[],_=>rfl
  |[_],_=>rfl
  |[_,_],_=>rfl
 refine zcI Tryz.func116 rfl (n:=39) rfl rfl rfl ?_;refine gah ?_;refine oS (sA λb=>?_) rfl;refine gab ?_;refine oB 8 rfl (λht=>?_) (λht=>?_);refine gaa ?_;refine oC rfl (λhc=>?_) (λhc=>?_);refine gab ?_;exact qac rfl (rC (rA rfl zm0 rfl zsr) (rC (zrt rfl) (zra rfl))) (by rw[hl];rfl);cases hc;exact absurd (zf ht) zo
 match s,h3 with
 |[],h=>exact absurd (by simp) h
 |[_],h=>exact absurd (by simp) h
 |[_,_],h=>exact absurd (by simp) h
 |x::c1::c2::r,h=>
  refine zcI Tryz.func116 rfl (n:=39) rfl rfl rfl ?_;refine gah ?_;refine oS (sA λb=>?_) rfl;refine gab ?_;refine LOps.cut [(0,str (x::c1::c2::r)),(2,ptr b 0),(32,bool ((!decide (cv c2=39)) || decide (cv c1<32) || decide (126<cv c1) || decide (cv c1=39) || decide (cv c1=92)))] ?_ (λj hj=>?_)
  ·refine oB 8 rfl (λht=>?_) (λht0=>?_);exact absurd (zt ht) (by simp only[zLc];omega)
   skip
   refine oP (pI (c:=c2) rfl rfl zDd rfl) rfl ?_;refine gad ?_;refine oB 13 rfl (λht=>?_) (λht1=>?_);refine gaa ?_;exact⟨⟨rfl,rfl,qau (by rw[ht];rfl),trivial⟩,rfl,rfl⟩;refine zQ52 ?_;refine gaa ?_;refine oB 18 rfl (λht=>?_) (λht2=>?_);refine gaa ?_;exact⟨⟨rfl,rfl,qau (by rw[ht1,ht];rfl),trivial⟩,rfl,rfl⟩;refine zQ52 ?_;refine gad ?_;refine oB 23 rfl (λht=>?_) (λht3=>?_);refine gaa ?_;exact⟨⟨rfl,rfl,qau (by rw[ht1,ht2,ht];rfl),trivial⟩,rfl,rfl⟩;refine zQ52 ?_;refine gaa ?_;refine oB 28 rfl (λht=>?_) (λht4=>?_);refine gaa ?_;exact⟨⟨rfl,rfl,qau (by rw[ht1,ht2,ht3,ht];rfl),trivial⟩,rfl,rfl⟩;refine zQ52 ?_;refine gaa ?_;exact⟨⟨rfl,rfl,qau (by rw[ht1,ht2,ht3,ht4];rfl),trivial⟩,rfl,rfl⟩
  skip
  refine oC rfl (λhc=>?_) (λhc=>?_);refine gab ?_;exact qac hj (rC (rA rfl zm0 rfl zsr) (rC (zrt rfl) (zra rfl))) (by rw[qcr,if_pos hc];rfl);refine gac ?_;refine oP (pI (c:=c1) rfl rfl zDd rfl) rfl ?_;refine oP (Pure.cvt rfl) rfl ?_;have hw:IntKind.i64.wrap (c1.toNat:Int)=((c1.toNat:Nat):Int):=qep (by have:=c1.toNat_lt;omega);rw[hw];refine oS (sF [_] rfl (qdp hG c1.toNat (by have:=c1.toNat_lt;omega)) ?_) rfl;refine gad ?_;exact qac hj (rC (rA rfl zm0 rfl zsr) (rC (zrt rfl) (zra rfl))) (by rw[qcr,if_neg (by rw[hc];decide)];rfl)
theorem qqZ(hG:GW B0 w0)(s:List UInt8)(hs:s.length<=1000000000)(hne:s≠[]):LCalls (KC B0 w0) 58 [str s] [] (Ret (qlV (qaw s))):=by
 match s,hne with
 |c::r,_=>
  refine zcI Tryz.func58 rfl (n:=49) rfl rfl rfl ?_;refine gah ?_;refine oS (sA λb=>?_) rfl;refine gac ?_;refine oP (pI (c:=c) rfl rfl zDd rfl) rfl ?_;refine oS (sF [_] rfl (qhM c) ?_) rfl;refine gaf ?_;refine oC rfl (λhc=>?_) (λhc=>?_);refine gag ?_;refine oS (sF [_] rfl (qdd hG (c::r) hs (by rw[List.takeWhile_cons_of_pos hc];simp)) ?_) rfl;refine gad ?_;exact qac rfl (rC (rA rfl zm0 rfl zsr) (rC (zrt rfl) (zra rfl))) (by simp only[qaw,hc,if_true];rfl);refine gag ?_;refine oP (pI (c:=c) rfl rfl zDd rfl) rfl ?_;refine oS (sF [_] rfl (qgQ c) ?_) rfl;refine gaf ?_;refine oC rfl (λhl=>?_) (λhl=>?_);refine gag ?_;refine oS (sF [_] rfl (qs1 (c::r) hs) ?_) rfl;refine gad ?_;exact qac rfl (rC (rA rfl zm0 rfl zsr) (rC (zrt rfl) (zra rfl))) (by simp only[qaw,hc,hl,if_true,Bool.false_eq_true,if_false];rfl);refine gag ?_;refine oP (pI (c:=c) rfl rfl zDd rfl) rfl ?_;refine gaa ?_;refine oC rfl (λhq=>?_) (λhq=>?_);refine gag ?_;refine oS (sF [_] rfl (qnT hG (c::r) hs) ?_) rfl;refine gad ?_;exact qac rfl (rC (rA rfl zm0 rfl zsr) (rC (zrt rfl) (zra rfl))) (by simp only[qaw,hc,hl,Bool.false_eq_true,if_false];rw[if_pos hq];rfl);have htok:qaw (c::r)=qgC (c::r):=by simp only[qaw,hc,hl,Bool.false_eq_true,if_false];rw[if_neg (by rw[hq];decide)]
  refine gac ?_;refine oS (sF [] rfl qqR ?_) rfl;refine gaa ?_
  refine oL (λk ls H=>∃ m:Nat,k=qcO.length-m/\ls=[(0,str (c::r)),(2,ptr b 0),(34,.list (qcO.map str)),(35,int .i64 24),(36,int .i64 m)]/\H=[(b,.cells 100 [int .i64 0,str [],int .i64 0])]/\m<=24/\qcO.find? (λx=>x.isPrefixOf (c::r))=(qcO.drop m).find? (λx=>x.isPrefixOf (c::r)))
   ⟨_,_,_,⟨0,rfl,rfl,rfl,by omega,by simp⟩,⟨rfl,rfl,rfl,rfl,rfl,trivial⟩,zhR _⟩ ?_
  rintro k ls H ⟨m,rfl,rfl,rfl,hm,hI⟩ j hj;have h24:qcO.length=24:=rfl;refine gai ?_;refine oC rfl (λht=>?_) (λht=>?_);have hlt:m<qcO.length:=by have:=zt ht;omega
  refine gaj ?_;refine oP (xR (el':=str qcO[m]) rfl rfl zo (by simp) rfl rfl) rfl ?_;refine gab ?_;refine oS (sF [_,_] rfl (qgu (c::r) qcO[m]) ?_) rfl;refine gaf ?_;refine oC rfl (λhp=>?_) (λhp=>?_);refine gab ?_
  exact qac hj (rC (rA rfl zm0 rfl zsr) (rC (zrt rfl) (zra rfl))) (by
   rw[htok,qgC,hI,List.drop_eq_getElem_cons hlt,List.find?_cons_of_pos (by simpa using hp)]
   rfl)
  refine gac ?_
  exact⟨_,_,_,by omega,⟨m+1,rfl,rfl,rfl,by omega,by
   rw[hI,List.drop_eq_getElem_cons hlt,List.find?_cons_of_neg (by rw[hp];decide)]⟩,⟨rfl,rfl,rfl,rfl,qao zo,trivial⟩,zhR _,hj⟩
  have hge:qcO.length<=m:=by have:=zf ht;omega
  refine gab ?_
  exact qac hj (rC (rA rfl zm0 rfl zsr) (rC (zrt rfl) (zra rfl))) (by
   rw[htok,qgC,hI,List.drop_eq_nil_of_le hge]
   rfl)
end
def qc2(s:List UInt8):Except (Int×Int) (List Tok):=if 60000<s.length then .error (0,6) else lexP s.length s 1
def qp4:Except (Int×Int) (List Tok)->LV
 |.ok T=>.tuple [.list (T.map qdr),int .i64 0,int .i64 0]
 |.error (l,e)=>.tuple [.list [],int .i64 l,int .i64 e]
theorem qq7{A B D:Type}(f:A->B)(h:B->D)(r:Except (Int×Int) A):(r.map f).map h=r.map (λx=>h (f x)):=by cases r <;> rfl
section
variable{B0:Nat}{w0:World}
theorem qqt(hG:GW B0 w0)(s:List UInt8):LCalls (KC B0 w0) 30 [str s] [] (Ret (qp4 (qc2 s))):=by
 refine zcI Tryz.func30 rfl (n:=49) rfl rfl rfl ?_;refine gab ?_;refine oC rfl (λhc=>?_) (λhc=>?_);refine gao ?_
 exact qac rfl (rC (rT (v:=qab) rfl vN) (rC (zrt rfl) (zra rfl))) (by
  rw[qc2,if_pos (by have:=zt hc;omega)]
  rfl)
 have hlen:s.length<=60000:=by have:=zf hc;omega
 refine gac ?_
 refine oL (λk ls H=>∃ (v:LV) (out:List Tok) (rest:List UInt8) (line:Int) (fuel:Nat),k=rest.length/\ls=[(5,v),(6,int .i64 line),(7,str rest)]/\Acc 3 v (out.map qdr) H [] /\
   rest.length<=fuel/\0<=line/\line+rest.length<=60001/\out.length+rest.length<=60000/\lexP s.length s 1=(lexP fuel rest line).map (out++·))
  ⟨_,_,_,⟨qab,[],s,1,s.length,rfl,rfl,Acc.nil,by omega,by omega,by omega,by simp;omega,by cases lexP s.length s 1 <;> rfl⟩,⟨rfl,rfl,rfl,trivial⟩,zhR _⟩ ?_
 rintro k ls H ⟨v,out,rest,line,fuel,rfl,rfl,hacc,hf,hl0,hl1,ho,hI⟩ j hj;refine gab ?_;refine oC rfl (λhne=>?_) (λhne=>?_);have hrest:rest≠[]:=by simpa using hne
 obtain⟨f,rfl⟩:∃ f,fuel=f+1:=⟨fuel-1,by
  have:0<rest.length:=List.length_pos_iff.2 hrest
  omega⟩
 rw[lexP,if_neg hrest] at hI;have hsk:=qkZ rest;refine gac ?_;refine oS (sF [_] rfl (qtf rest zo) ?_) rfl;refine gac ?_;refine oC rfl (λhz=>?_) (λhz=>?_);have hz':qbp rest=0:=by have:=zt hz;omega
 rw[if_pos hz'] at hI;refine gag ?_;refine oS (sF [_] rfl (qqZ hG rest zo hrest) ?_) rfl;refine gad ?_;refine oS (sA λb=>?_) rfl;refine gab ?_;refine oC rfl (λhe=>?_) (λhe=>?_);have he':(qaw rest).2.2≠0:=by simpa using he
 rw[if_pos he'] at hI;refine gac ?_
 exact qac hj (rC (rT (v:=qab) rfl vN) (rC (zrt rfl) (zra rfl))) (by
  rw[qc2,if_neg zo,hI]
  rfl)
 have he':(qaw rest).2.2=0:=by simpa using he
 rw[if_neg (by simpa using he')] at hI;obtain⟨hs0,hs1⟩:=qfe rest he';refine gab ?_;refine zQ14 ?_;refine gad ?_;refine zQ0 ?_;refine LOps.weak (zhD zhr) ?_;refine oS (S.acc rfl hacc rfl (by simp;rfl) rfl (by simp;omega) λv' H' hacc'=>?_) rfl;refine zQ19 ?_;refine gap ?_;refine oP (Pure.sslice (i:=0) (j:=(qaw rest).2.1) rfl rfl ⟨_,rfl⟩ zo zo zo) rfl ?_;refine oS (sF [_,_] rfl (qiN _) ?_) rfl;have hcnt:(List.drop (Int.toNat 0) (List.take ((qaw rest).2.1:Int).toNat rest)).count 10<=(qaw rest).2.1:=zNt List.count_le_length (by simp;omega);refine gac ?_;refine oP (Pure.sslice (i:=(qaw rest).2.1) (j:=rest.length) rfl ⟨_,rfl⟩ rfl zo zo zo) rfl ?_;refine gaa ?_
 have hacc2:Acc 3 v' ((out++[{ (qaw rest).1 with line:=line }]).map qdr) H' []:=by
  rw[zMa];exact hacc'
 exact⟨_,_,_,by simp only[length_drop];omega,⟨v',out++[{ (qaw rest).1 with line:=line }],rest.drop (qaw rest).2.1,line+((rest.take (qaw rest).2.1).count 10:Nat),f,rfl,rfl,hacc2,
  by simp only[length_drop];omega,by omega,by simp only[length_drop];simp at hcnt;omega,by simp only[length_drop,zLa,length_singleton];omega,by
   rw[hI,qq7];congr 1;funext x
   simp⟩,⟨rfl,qao (by simp),qng (by simp),trivial⟩,zhR _,hj⟩
 have hz':¬ qbp rest=0:=by have:=zf hz;omega
 rw[if_neg hz'] at hI;refine gac ?_;refine oP (Pure.sslice (i:=0) (j:=qbp rest) rfl rfl ⟨_,rfl⟩ zo zo zo) rfl ?_;refine oS (sF [_,_] rfl (qiN _) ?_) rfl;have hcnt:(List.drop (Int.toNat 0) (List.take (qbp rest:Int).toNat rest)).count 10<=qbp rest:=zNt List.count_le_length (by simp;omega);refine gac ?_;refine oP (Pure.sslice (i:=qbp rest) (j:=rest.length) rfl ⟨_,rfl⟩ rfl zo zo zo) rfl ?_;refine gaa ?_
 exact⟨_,_,_,by simp only[length_drop];omega,⟨v,out,rest.drop (qbp rest),line+((rest.take (qbp rest)).count 10:Nat),f,rfl,rfl,hacc,
   by simp only[length_drop];omega,by omega,by simp only[length_drop];simp at hcnt;omega,by simp only[length_drop];omega,hI⟩,⟨rfl,qao (by simp),qng (by simp),trivial⟩,zhR _,hj⟩
 have hrest:rest=[]:=by simpa using hne
 refine gac ?_;refine zQ30 ?_
 exact qac hj (rC (rT (v:=v) rfl hacc.sub) (rC (zrt rfl) (zra rfl))) (by
  rw[qc2,if_neg zo,hI,hrest]
  cases fuel <;> simp[lexP,Except.map,qp4,qbI])
end
attribute [local irreducible] LQ LAny qaJ qan
@[reducible] def srcH(sb:Nat)(T:List Tok)(i op:Nat):Nat×LObj:=(sb,.cells 82 [.list (T.map qdr),int .i64 i,int .i64 op])
def pan(l e:Int):List PanicEntry:=[{ v:=.iface 78 (.agg #[.int .i64 l,.int .i64 e]),recovered:=false }]
def qdx{A:Type}(sb:Nat)(T:List Tok)(enc:A->LV)(res:Res A)(r:LRes)(H:Heap):Prop:=match res with
 |.ok v i op=>r=.ret (enc v)/\H=[srcH sb T i op]
 |.err l e=>r=.panic (pan l e)/\∃ i op:Nat,H=[srcH sb T i op]
def encU:Unit->LV:=λ_=>.tuple []
theorem qa5{A:Type}(f:A->LV)(l:List A)(i:Nat)(h:i<l.length):(l.map f)[((i:Nat):Int).toNat]? = some (f l[i]):=by
 rw[Int.toNat_natCast,List.getElem?_map,List.getElem?_eq_getElem h];rfl
section
variable{B0:Nat}{w0:World}
theorem qcp(sb:Nat)(T:List Tok)(i op:Nat)(xs:List (List UInt8))(hT:T.length<=100000)(hi:i<=1000000)(hx:xs.length<=1000) :
  LCalls (KC B0 w0) 60 [ptr sb 0,.list (xs.map str)] [srcH sb T i op] (λr H=>r=.ret (bool (isTok T i xs))/\H=[srcH sb T i op]):=by
 refine zcI Tryz.func60 rfl (n:=40) rfl rfl rfl ?_;refine gaq ?_;refine zcC [(0,ptr sb 0),(1,.list (xs.map str)),(15,bool (decide (T.length<=i)))] ?_ (λj hj=>?_);refine zQ23 ?_;exact⟨⟨rfl,rfl,qau (by rw[decide_eq_decide];simp),trivial⟩,rfl,rfl⟩
 skip
 refine oC rfl (λhc=>?_) (λhc=>?_);refine gao ?_;exact rR hj (zra rfl) zhr ⟨by rw[isTok,List.getElem?_eq_none (zt hc)];rfl,rfl⟩;have hlt:i<T.length:=by have:=zf hc;omega
 refine gaa ?_;refine cD (m:=12) rfl [srcH sb T i op] ?_;refine zQ9 ?_;refine aT 3 rfl rfl (pL (c:=.list _) rfl zm0 rfl) ?_;refine aT 4 rfl rfl (pM (lv:=.atom _) rfl) ?_;refine aT 5 rfl rfl (pN rfl) ?_;refine aT 6 rfl rfl (pF rfl) ?_;refine aT 7 rfl rfl (pL (c:=.atom _) rfl zm0 rfl) ?_;refine LAny.take (i:=8) zhr rfl zk zk zk rfl (xR (el':=qdr T[i]) (cs:=[_,_,_]) rfl rfl zo (qa5 _ _ _ hlt) rfl rfl) ?_;refine aT 9 rfl rfl (pR (cs':=[_,_,_]) rfl rfl rfl) ?_;refine aL ?_ zhr;refine lO 10 (lS (H1:=[]) (F:=[srcH sb T i op]) rfl (.inl rfl) rfl zpr zhr (sA λb=>?_));refine lO 11 (lS (H1:=[(b,_)]) (F:=[srcH sb T i op]) rfl (.inl rfl) rfl zpr zhr (sS (cs':=[_,_,_]) rfl pH rfl rfl rfl rfl rfl ?_));refine lD zk ?_;refine gac ?_;have hsp:isTok T i xs=((decide (T[i].kind=3) || decide (T[i].kind=4)) && xs.contains T[i].text):=by rw[isTok,List.getElem?_eq_getElem hlt]
 rw[hsp];refine oB 29 rfl (λh3=>?_) (λh3=>?_);refine gaa ?_;refine oS (sF [_,_] rfl (qdN xs T[i].text zo) ?_) rfl;refine gaa ?_;exact rR hj (zra rfl) (zhD zhr) ⟨by rw[h3];rfl,rfl⟩;refine gaa ?_;refine oB 34 rfl (λh4=>?_) (λh4=>?_);refine gaa ?_;refine oS (sF [_,_] rfl (qdN xs T[i].text zo) ?_) rfl;refine gaa ?_;exact rR hj (zra rfl) (zhD zhr) ⟨by rw[h3,h4];rfl,rfl⟩;refine gaa ?_;exact rR hj (zra rfl) (zhD zhr) ⟨by rw[h3,h4];rfl,rfl⟩
end
section steps
variable{C:Ctx}{e:Env}{H:Heap}{dst:Option Nat}{ty:TypeId}{pos:String}{aft:Array Edge}{g:Option (Nat×Bool)}{K:LV->Heap->Prop}{X:List PanicEntry->Heap->Prop}
theorem sH{f:FuncId} [TEnter C.P f](args:List Operand){ats:Array TypeId}{av:List LV}{lv:LV}{p p':Nat×LObj}{F:Heap}(has:args.map e.ev=av)(hp:Pick p H F)(hc:LCalls C f av [p] (λr H=>r=.ret lv/\H=[p']))(hk:K lv (p'::F)) :
  qae C ⟨dst,.call { callee:=.value (.func f),args:=args.toArray,argTypes:=ats },ty,pos,aft,g⟩ e H K X:=
 S.call1 args has hp hc (by rintro v H' ⟨h,rfl⟩;cases h;exact hk) (by rintro ch H' ⟨h,_⟩;cases h)
theorem sP{A:Type}{enc:A->LV}{res:Res A}{sb i op:Nat}{T:List Tok}{f:FuncId} [TEnter C.P f](args:List Operand){ats:Array TypeId}{av:List LV}{F:Heap}(has:args.map e.ev=av)(hp:Pick (srcH sb T i op) H F)
  (hc:LCalls C f av [srcH sb T i op] (qdx sb T enc res)) (hk:∀ v i' op',res=.ok v i' op'->K (enc v) (srcH sb T i' op'::F)) (hx:∀ l er i' op',res=.err l er->X (pan l er) (srcH sb T i' op'::F)) :
  qae C ⟨dst,.call { callee:=.value (.func f),args:=args.toArray,argTypes:=ats },ty,pos,aft,g⟩ e H K X:=by
 refine S.call1 args has hp hc ?_ ?_;intro v H' h
 cases hr:res with
 |ok u i' op'=>
  rw[hr] at h;obtain⟨h1,rfl⟩:=h;cases h1
  exact hk _ _ _ hr
 |err l er=>
  rw[hr] at h;obtain⟨h1,_⟩:=h;cases h1
 intro ch H' h
 cases hr:res with
 |ok u i' op'=>
  rw[hr] at h;obtain⟨h1,_⟩:=h
  cases h1
 |err l er=>
  rw[hr] at h;obtain⟨h1,i',op',rfl⟩:=h;cases h1;exact hx _ _ _ _ hr
theorem retP{A:Type}{enc:A->LV}{res:Res A}{sb:Nat}{T:List Tok}{n:Nat}{rs:List ResultVar}{vs:List LV}{v:A}{i op:Nat}(hd:e.ds=[])(h:qbW C n e H rs vs)(hr:res=.ok v i op)(hv:qbI vs=enc v)(hH:HSub [srcH sb T i op] H) :
  qad C n rs (qdx sb T enc res) .ret e H:=rR hd h hH (by rw[hr];exact⟨by rw[hv],rfl⟩)
theorem qxp{A:Type}{enc:A->LV}{res:Res A}{sb:Nat}{T:List Tok}{n:Nat}{rs:List ResultVar}{vs:List LV}{v:A}{i op:Nat}(hd:e.ds=[])(h:qbW C n e H rs vs)(hr:res=.ok v i op)(hv:qbI vs=enc v)(hH:HSub [srcH sb T i op] H) :
  qad C n rs (qdx sb T enc res) .normal e H:=rO hd h hH (by rw[hr];exact⟨by rw[hv],rfl⟩)
theorem panP{A:Type}{enc:A->LV}{res:Res A}{sb:Nat}{T:List Tok}{n:Nat}{rs:List ResultVar}{i op:Nat}{l er:Int}(hd:e.ds=[])(hr:res=.err l er)(hH:HSub [srcH sb T i op] H) :
  qad C n rs (qdx sb T enc res) (.panic (pan l er)) e H:=qad.panic hd hH (by rw[hr];exact⟨rfl,i,op,rfl⟩)
end steps
section
variable{B0:Nat}{w0:World}
theorem qfN{A:Type}(enc:A->LV)(sb:Nat)(T:List Tok)(i op:Nat)(er:Int)(hT:T.length<=100000)(hi:i<=1000000) :
  LCalls (KC B0 w0) 65 [ptr sb 0,int .i64 er] [srcH sb T i op] (qdx sb T enc (.err (qf3 T i) er)):=by
 have hml:(T.map qdr).length=T.length:=zLm _;refine zcI Tryz.func65 rfl (n:=31) rfl rfl rfl ?_;refine gab ?_;refine zcC [(0,ptr sb 0),(1,int .i64 er),(4,int .i64 (qf3 T i))] ?_ (λj hj=>?_);refine oC rfl (λhc=>?_) (λhc=>?_);have hpos:0<T.length:=by have:=zt hc;simp at this;omega
 have hmin:min i (T.length-1)<T.length:=by omega
 have hmv:(if ((T.map qdr).length:Int)-1<(i:Int) then ((T.map qdr).length:Int)-1 else (i:Int))=((min i (T.length-1):Nat):Int):=by
  rw[zLm];split <;> omega
 refine zQ23 ?_;refine qP (xR (n:=((min i (T.length-1):Nat):Int)) (el':=qdr T[min i (T.length-1)]) (cs:=[_,_,_]) rfl (congrArg (int .i64) hmv) zo (qa5 _ _ _ hmin) rfl rfl) rfl ?_;refine gad ?_;exact⟨⟨rfl,rfl,qao (by rw[qf3,List.getElem?_eq_getElem hmin]),trivial⟩,rfl,rfl⟩
 have hz:T=[]:=by
  have:=zf hc;exact List.length_eq_zero_iff.1 zo
 refine gaa ?_;exact⟨⟨rfl,rfl,qao (by rw[qf3,hz];rfl),trivial⟩,rfl,rfl⟩;refine gab ?_;refine oS (qae.panic rfl λe' he'=>?_) rfl;exact panP (he'.trans hj) rfl zhr
theorem qcC(sb:Nat)(T:List Tok)(i op:Nat)(x:List UInt8)(hT:T.length<=100000)(hi:i<=1000000) :
  LCalls (KC B0 w0) 62 [ptr sb 0,str x] [srcH sb T i op] (λr H=>r=.ret (bool (isTok T i [x]))/\H=[srcH sb T (if isTok T i [x] then i+1 else i) op]):=by
 refine zcI Tryz.func62 rfl (n:=17) rfl rfl rfl ?_;refine gap ?_;refine zQ0 ?_;refine oS (sH [_,_] rfl pH (qcp sb T i op [x] hT hi (by simp)) ?_) rfl;refine gad ?_;refine oC rfl (λhc=>?_) (λhc=>?_);have h:isTok T i [x]=false:=by simpa using hc
 refine gao ?_;exact rR rfl (zra rfl) zhr ⟨by rw[h];rfl,by rw[h];rfl⟩;have h:isTok T i [x]=true:=by simpa using hc
 refine gab ?_;exact rR rfl (zra rfl) zhr ⟨by rw[h];rfl,by rw[h];rfl⟩
theorem qdX(sb:Nat)(T:List Tok)(i op:Nat)(x:List UInt8)(hT:T.length<=100000)(hi:i<=1000000) :
  LCalls (KC B0 w0) 122 [ptr sb 0,str x] [srcH sb T i op] (qdx sb T encU (qds T x i op)):=by
 refine zcI Tryz.func122 rfl (n:=10) rfl rfl rfl ?_;refine gag ?_;refine oS (sH [_,_] rfl pH (qcC sb T i op x hT hi) ?_) rfl;refine gad ?_;refine oC rfl (λhc=>?_) (λhc=>?_);have h:isTok T i [x]=false:=by simpa using hc
 simp only[h,Bool.false_eq_true,if_false];refine gag ?_;refine oS (sP [_,_] rfl pH (qfN encU sb T i op 3 hT hi) (λ_ _ _ h=>by cases h) (λl er i' op' h e' he'=>?_)) rfl;cases h;exact panP (he'.trans rfl) (by rw[qds,h,if_neg zDd];rfl) zhr;have h:isTok T i [x]=true:=by simpa using hc
 simp only[h,if_true];refine gaa ?_;exact qxp rfl rN (by rw[qds,h,if_pos rfl]) rfl zhr
theorem qaQ(sb:Nat)(T:List Tok)(i op:Nat)(k:Int)(hT:T.length<=100000)(hi:i<=1000000) :
  LCalls (KC B0 w0) 123 [ptr sb 0,int .i64 k] [srcH sb T i op] (qdx sb T str (qc7 T k i op)):=by
 have hml:(T.map qdr).length=T.length:=zLm _;refine zcI Tryz.func123 rfl (n:=51) rfl rfl rfl ?_;refine gaq ?_;refine zcC [(0,ptr sb 0),(1,int .i64 k),(29,bool (match T[i]? with|some t=>!decide (t.kind=k)|none=>true))] ?_ (λj hj=>?_);refine zQ23 ?_;refine LQ.bcase 15 rfl (λh=>?_) (λh=>?_);have hge:T.length<=i:=by have:=zt h;omega
 refine gad ?_;exact⟨⟨rfl,rfl,qau (by rw[List.getElem?_eq_none hge]),trivial⟩,rfl,rfl⟩;have hlt:i<T.length:=by have:=zf h;omega
 refine gad ?_;refine qP (xR (el':=qdr T[i]) (cs:=[_,_,_]) rfl rfl zo (qa5 _ _ _ hlt) rfl rfl) rfl ?_;refine gad ?_;exact⟨⟨rfl,rfl,qau (by rw[List.getElem?_eq_getElem hlt]),trivial⟩,rfl,rfl⟩
 skip
 refine oC rfl (λhc=>?_) (λhc=>?_)
 have hs:qc7 T k i op=qiH T i:=by
  unfold qc7
  cases hg:T[i]? with
  |none=>rfl
  |some t=>
   rw[hg] at hc;have:¬ t.kind=k:=by simpa using hc
   simp only;rw[if_neg this]
 refine gag ?_;refine oS (sP [_,_] rfl pH (qfN str sb T i op 3 hT hi) (λ_ _ _ h=>by cases h) (λl er i' op' h e' he'=>?_)) rfl;cases h;refine gak ?_;exact panP (he'.trans hj) hs zhr
 have hlt:i<T.length:=by
  rcases Nat.lt_or_ge i T.length with h|h;exact h;rw[List.getElem?_eq_none h] at hc;cases hc
 rw[List.getElem?_eq_getElem hlt] at hc;have hk:T[i].kind=k:=by simpa using hc
 have hs:qc7 T k i op=.ok T[i].text (i+1) op:=by rw[qc7,List.getElem?_eq_getElem hlt];simp only;rw[if_pos hk]
 refine gab ?_;refine zcC [(0,ptr sb 0),(4,str T[i].text)] ?_ (λj2 hj2=>?_);refine zQ23 ?_;refine qP (xR (n:=((i:Nat):Int)) (el':=qdr T[i]) (cs:=[_,_,_]) rfl (qao zo) zo (qa5 _ _ _ hlt) rfl rfl) rfl ?_;refine gad ?_;exact⟨⟨rfl,rfl,trivial⟩,rfl,rfl⟩;refine gaf ?_;exact retP (hj2.trans hj) (zra rfl) hs rfl zhr
theorem qcv(sb:Nat)(T:List Tok)(i op:Nat)(x:List UInt8)(hT:T.length<=100000)(hi:i<=1000000)(ho:op<=1000000) :
  LCalls (KC B0 w0) 124 [ptr sb 0,str x] [srcH sb T i op] (qdx sb T encU (qbV T x i op)):=by
 refine zcI Tryz.func124 rfl (n:=32) rfl rfl rfl ?_;refine gag ?_;refine zQ0 ?_;refine oS (sH [_,_] rfl pH (qcp sb T i op [x] hT hi (by simp)) ?_) rfl;refine gad ?_;refine oC rfl (λhc=>?_) (λhc=>?_);have h:isTok T i [x]=false:=by simpa using hc
 refine gag ?_;refine oS (sP [_,_] rfl pH (qfN encU sb T i op 3 hT hi) (λ_ _ _ h=>by cases h) (λl er i' op' h' e' he'=>?_)) rfl;cases h';refine gak ?_;exact panP (he'.trans rfl) (by rw[qbV,h,if_neg zDd];rfl) zhr;have h:isTok T i [x]=true:=by simpa using hc
 refine gab ?_;refine oC rfl (λhd=>?_) (λhd=>?_);have hd':100<=op:=by have:=zt hd;omega
 refine gag ?_;refine oS (sP [_,_] rfl pH (qfN encU sb T i op 6 hT hi) (λ_ _ _ h=>by cases h) (λl er i' op' h' e' he'=>?_)) rfl;cases h';refine gak ?_;exact panP (he'.trans rfl) (by rw[qbV,h,if_pos rfl,if_pos hd']) zhr;have hd':¬ 100<=op:=by have:=zf hd;omega
 refine gab ?_;exact qxp rfl rN (by rw[qbV,h,if_pos rfl,if_neg hd']) rfl zhr
theorem qfh(sb:Nat)(T:List Tok)(i op:Nat)(x:List UInt8)(hT:T.length<=100000)(hi:i<=1000000)(ho:op<=1000000)(h1:1<=op) :
  LCalls (KC B0 w0) 126 [ptr sb 0,str x] [srcH sb T i op] (qdx sb T encU (sEnd T x i op)):=by
 refine zcI Tryz.func126 rfl (n:=14) rfl rfl rfl ?_;refine gag ?_;refine oS (sP [_,_] rfl pH (qdX sb T i op x hT hi) (λv i' op' h=>?_) (λl er i' op' h e' he'=>?_)) rfl
 have hop:op'=op:=by
  unfold qds at h;split at h;cases h;rfl;cases h
 subst hop;refine gab ?_;rw[show((op':Int)-1)=((op'-1:Nat):Int) by omega];exact qxp rfl rN (by rw[sEnd,h];rfl) rfl zhr;refine gak ?_;exact panP (he'.trans rfl) (by rw[sEnd,h];rfl) zhr
end
theorem qal{A B:Type}{v:A}{i op:Nat}{f:A->Nat->Nat->OR B}:qaE (some (.ok v i op)) f=f v i op:=rfl
theorem qat{A B:Type}{l e:Int}{f:A->Nat->Nat->OR B}:qaE (some (.err l e)) f=some (.err l e):=rfl
theorem qaS{A B:Type}{r:OR A}{f:A->Nat->Nat->OR B}{q:Res B}(h:qaE r f=some q):∃ r1,r=some r1:=by
 cases r with
 |none=>cases h
 |some r1=>exact⟨r1,rfl⟩
structure TOK(T:List Tok):Prop where
 len:T.length<=100000
 txt:∀ t∈T,t.text.length<=100000
 num:∀ t∈T,t.kind=1->∃ u,u<4294967296/\Go.Lib.parseUintB 32 t.text=.ok u
theorem qvl{n:Int}(h:0<=n/\n<=4294967295):IntKind.u32.wrap n=n:=by
 simp only[IntKind.wrap,IntKind.bits,IntKind.signed,Bool.false_and]
 simp
 omega
theorem qdP{T:List Tok}{k:Int}{i op i' op':Nat}{s:List UInt8}(h:qc7 T k i op=.ok s i' op'):i'=i+1/\op'=op/\∃ t,T[i]? = some t/\t.kind=k/\t.text=s:=by
 unfold qc7 at h;split at h
 rename_i t ht
 split at h
 rename_i hk
 cases h;exact⟨rfl,rfl,t,ht,hk,rfl⟩;cases h;cases h
def qpp(l:List (List UInt8)):LV:=.list (l.map str)
def encN(n:Nat):LV:=int .u32 n
def qlZ(B0:Nat)(w0:World)(sb:Nat)(T:List Tok)(f:Nat):Prop:=
 ∀ i op r,i<=T.length->op<=100->eLev T f 0 i op=some r->LCalls (KC B0 w0) 199 [ptr sb 0] [srcH sb T i op] (qdx sb T encE r)
section
variable{B0:Nat}{w0:World}
theorem qiA(hG:GW B0 w0)(sb:Nat)(T:List Tok)(hT:TOK T)(i op:Nat)(hi:i<=1000000):LCalls (KC B0 w0) 125 [ptr sb 0] [srcH sb T i op] (qdx sb T encN (qcQ T i op)):=by
 have hl:=hT.len;refine zcI Tryz.func125 rfl (n:=13) rfl rfl rfl ?_;refine gap ?_;refine oS (sP [_,_] rfl pH (qaQ sb T i op 1 hl hi) (λs i1 op1 h1=>?_) (λl er i1 op1 h1 e' he'=>?_)) rfl;obtain⟨rfl,rfl,t,ht,hk,rfl⟩:=qdP h1;have hmem:=List.mem_of_getElem? ht;obtain⟨u,hu,hp⟩:=hT.num t hmem hk;have htx:=hT.txt t hmem;have hn:qs5 t.text=u:=by rw[qs5,hp]
 have hw:IntKind.u32.wrap (u:Int)=(u:Int):=qvl zo;refine oS (sF [_,_,_] rfl (qiI t.text zo u hp) ?_) rfl;refine gab ?_;exact retP (v:=qs5 t.text) rfl (zra rfl) (by rw[qcQ,h1];rfl) (by rw[hn];exact qao hw) zhr;refine gak ?_;exact panP (he'.trans rfl) (by rw[qcQ,h1];rfl) zhr
theorem qjk(sb:Nat)(T:List Tok)(hT:TOK T)(f i op:Nat)(r:Res (List (List UInt8)))(hi:i<=T.length)(hr:qej T f i op=some r) :
  LCalls (KC B0 w0) 121 [ptr sb 0] [srcH sb T i op] (qdx sb T qpp r):=by
 have hl:=hT.len;rw[qej] at hr;refine zcI Tryz.func121 rfl (n:=15) rfl rfl rfl ?_;refine gap ?_;refine oS (sP [_,_] rfl pH (qaQ sb T i op 2 hl zo) (λs i1 op1 h1=>?_) (λl er i1 op1 h1 e' he'=>?_)) rfl;rw[h1,qal] at hr
 have hi1:i1<=T.length:=by
  have:=qbJ T 2 i op;rw[h1] at this;exact this.2.2.1 hi
 refine oS (S.litA [_] rfl (eC rfl rfl eN) rfl rfl rfl λb=>?_) rfl;refine gad ?_
 refine oL (λk ls H=>∃ (v:LV) (l:List (List UInt8)) (i2:Nat) (Ha:Heap),ls=[(0,ptr sb 0),(3,v)]/\H=srcH sb T i2 op1::Ha/\Acc 1 v (l.map str) Ha []/\i2<=T.length/\l.length<=i2+1/\qaR T k l i2 op1=some r)
  ⟨f,_,srcH sb T i1 op1::[(b,.row 1)],⟨.app b 1 1 [str s],[s],i1,_,rfl,rfl,Acc.row,hi1,by simp,hr⟩,⟨rfl,rfl,trivial⟩,zhP zp1 zhr⟩ ?_
 rintro k ls H ⟨v,l,i2,Ha,rfl,rfl,hacc,hi2,hll,hI⟩ j hj
 obtain⟨k,rfl⟩:∃ k',k=k'+1:=by
  cases k with
  |zero=>rw[qaR] at hI;cases hI
  |succ k=>exact⟨k,rfl⟩
 rw[qaR] at hI;refine gag ?_;refine oS (sH [_,_] rfl pH (qcC sb T i2 op1 [44] hl zo) ?_) rfl;refine gaf ?_;refine oC rfl (λhc=>?_) (λhc=>?_);have hlt:=qaK hc;rw[if_pos hc] at hI;simp only[hc,if_true];refine gaj ?_;refine zQ46 ?_;refine oS (sP [_,_] rfl pH (qaQ sb T (i2+1) op1 2 hl zo) (λs2 i3 op3 h3=>?_) (λl er i3 op3 h3 e' he'=>?_)) rfl;rw[h3,qal] at hI;obtain⟨rfl,rfl,t,ht,_,_⟩:=qdP h3;have:=qjX ht;refine zQ0 ?_;refine oS (S.acc1 rfl hacc rfl (by simp;rfl) rfl (by simp;omega) λv' H' hacc'=>?_) rfl;refine zQ19 ?_;refine gaa ?_;exact⟨k,_,_,by omega,⟨v',l++[s2],i2+1+1,H',rfl,rfl,by rw[zMa];exact hacc',by omega,by simp;omega,hI⟩,⟨rfl,rfl,trivial⟩,zhR _,hj⟩;rw[h3,qat] at hI;refine gae ?_;exact panP (he'.trans hj) (by cases hI;rfl) zhp;have hc':isTok T i2 [[44]]=false:=hc;rw[if_neg (by rw[hc'];decide)] at hI;simp only[hc',Bool.false_eq_true,if_false];refine gac ?_;refine zQ30 ?_;exact retP (v:=l) hj (rC (rT (v:=v) rfl hacc.sub) rN) (by cases hI;rfl) rfl zhp;exact zT20
theorem qih(sb:Nat)(T:List Tok)(hT:TOK T)(f:Nat)(hE:qlZ B0 w0 sb T f)(i op:Nat)(r:Res Ex)(hi:i<=T.length)(ho:op<=100)(hr:qcg T (f+1) i op=some r) :
  LCalls (KC B0 w0) 236 [ptr sb 0] [srcH sb T i op] (qdx sb T encE r):=by
 have hl:=hT.len;rw[qcg] at hr;refine zcI Tryz.func236 rfl (n:=11) rfl rfl rfl ?_;refine gah ?_;refine oS (sA λb=>?_) rfl;refine gam ?_;refine oS (sP [_,_] rfl zp1 (qcv sb T i op [91] hl zo zo) (λv i1 op1 h1=>?_) (λl er i1 op1 h1 e' he'=>?_)) rfl;rw[h1,qal] at hr;obtain⟨rfl,rfl,ho1,hi1⟩:=qbB h1;refine gam ?_;obtain⟨r1,hr1⟩:=qaS hr;refine oS (sP [_] rfl pH (hE _ _ r1 zo zo hr1) (λv i2 op2 h2=>?_) (λl er i2 op2 h2 e' he'=>?_)) rfl;rw[hr1,h2,qal] at hr;obtain⟨g1,_,g3,rfl⟩:=(qcU T f).1 0 _ _ _ (hr1.trans (congrArg some h2));have g4:=g3 zo;refine oS (sA λb2=>?_) rfl;refine gab ?_;refine oS (sP [_,_] rfl zp1 (qfh sb T i2 (op+1) [93] hl zo zo zo) (λu i3 op3 h3=>?_) (λl er i3 op3 h3 e' he'=>?_)) rfl;rw[h3,qal] at hr;refine gab ?_;exact retP rfl (rC (rA rfl zm0 rfl zsr) rN) (by cases hr;rfl) rfl (zhD zhp);rw[h3,qat] at hr;refine gak ?_;exact panP (he'.trans rfl) (by cases hr;rfl) zhp;rw[hr1,h2,qat] at hr;refine gak ?_;exact panP (he'.trans rfl) (by cases hr;rfl) zhp;exact zT20
end
def encEL(l:List Ex):LV:=.list (l.map encE)
section
variable{B0:Nat}{w0:World}
theorem qmP(sb:Nat)(T:List Tok)(hT:TOK T)(f:Nat)(hE:∀ g,g<f->qlZ B0 w0 sb T g)(i op:Nat)(r:Res (List Ex))(hi:i<=T.length)(ho:op<=100)(hr:qd9 T f i op=some r) :
  LCalls (KC B0 w0) 235 [ptr sb 0] [srcH sb T i op] (qdx sb T encEL r):=by
 have hl:=hT.len
 obtain⟨f,rfl⟩:∃ g,f=g+1:=by
  cases f with
  |zero=>rw[qd9] at hr;cases hr
  |succ g=>exact⟨g,rfl⟩
 rw[qd9] at hr;refine zcI Tryz.func235 rfl (n:=23) rfl rfl rfl ?_;refine gap ?_;refine oS (sP [_,_] rfl pH (qcv sb T i op [40] hl zo zo) (λv i1 op1 h1=>?_) (λl er i1 op1 h1 e' he'=>?_)) rfl;rw[h1,qal] at hr;obtain⟨rfl,rfl,ho1,hi1⟩:=qbB h1;refine gac ?_;obtain⟨r1,hr1⟩:=qaS hr
 refine oL (λk ls H=>∃ (v:LV) (l:List Ex) (i2:Nat) (Ha:Heap),k<=f/\ls=[(0,ptr sb 0),(3,v)]/\H=srcH sb T i2 (op+1)::Ha/\Acc 4 v (l.map encE) Ha []/\i2<=T.length/\l.length<=i2+1/\qaP T k l i2 (op+1)=some r1)
  ⟨f,_,srcH sb T (i+1) (op+1)::[],⟨qab,[],i+1,_,zNr _,rfl,rfl,Acc.nil,by omega,by simp,hr1⟩,⟨rfl,rfl,trivial⟩,zhR _⟩ ?_
 rintro k ls H ⟨v,l,i2,Ha,hkf,rfl,rfl,hacc,hi2,hll,hI⟩ j hj
 obtain⟨k,rfl⟩:∃ k',k=k'+1:=by
  cases k with
  |zero=>rw[qaP] at hI;cases hI
  |succ k=>exact⟨k,rfl⟩
 rw[qaP] at hI;refine gag ?_;refine zQ0 ?_;refine oS (sH [_,_] rfl pH (qcp sb T i2 (op+1) [[41]] hl zo (by simp)) ?_) rfl;refine gad ?_;refine oC rfl (λhc=>?_) (λhc=>?_);have hc':isTok T i2 [[41]]=false:=by simpa using hc
 rw[if_neg (by rw[hc'];decide)] at hI;refine gaj ?_;refine zQ14 ?_;refine oP (Pure.llen hacc.elems) rfl ?_;refine gad ?_;refine oC rfl (λhd=>?_) (λhd=>?_)
 have hl0:¬ l=[]:=by
  rintro rfl;have:=zt hd;simp at this
 rw[if_neg hl0] at hI;refine gag ?_;refine oS (sP [_,_] rfl pH (qdX sb T i2 (op+1) [44] hl zo) (λu i3 op3 h3=>?_) (λl er i3 op3 h3 e' he'=>?_)) rfl;rw[h3,qal] at hI
 obtain⟨q1,q2,q3,rfl⟩:i2<=i3/\(true=true->i2<i3)/\(i2<=T.length->i3<=T.length)/\op3=op+1:=by
  have:=qbg T [44] i2 (op+1);rw[h3] at this;exact this
 have q4:=q3 hi2;refine gai ?_;refine zQ46 ?_;obtain⟨r2,hr2⟩:=qaS hI;refine oS (sP [_] rfl pH (hE k zo _ _ r2 zo zo hr2) (λe2 i4 op4 h4=>?_) (λl er i4 op4 h4 e' he'=>?_)) rfl;exact zT9;rw[hr2,h4,qat] at hI;rw[hr1] at hr;cases hI;rw[qat] at hr;refine gae ?_;exact panP (he'.trans hj) (by cases hr;rfl) zhp;rw[h3,qat] at hI;rw[hr1] at hr;cases hI;rw[qat] at hr;refine gae ?_;exact panP (he'.trans hj) (by cases hr;rfl) zhp
 have hl0:l=[]:=by
  have:=zf hd;simp at this;exact this
 rw[if_pos hl0,qal] at hI;refine gaj ?_;refine zQ46 ?_;obtain⟨r2,hr2⟩:=qaS hI;refine oS (sP [_] rfl pH (hE k zo _ _ r2 zo zo hr2) (λe2 i4 op4 h4=>?_) (λl er i4 op4 h4 e' he'=>?_)) rfl;exact zT9;rw[hr2,h4,qat] at hI;rw[hr1] at hr;cases hI;rw[qat] at hr;refine gae ?_;exact panP (he'.trans hj) (by cases hr;rfl) zhp;have hc':isTok T i2 [[41]]=true:=by simpa using hc
 rw[if_pos hc'] at hI;refine gac ?_;rw[hr1] at hr;cases hI;rw[qal] at hr;refine oS (sP [_,_] rfl pH (qfh sb T i2 (op+1) [41] hl zo zo zo) (λu i3 op3 h3=>?_) (λl er i3 op3 h3 e' he'=>?_)) rfl;rw[h3,qal] at hr;refine gai ?_;refine zQ30 ?_;exact retP (v:=l) hj (rC (rT (v:=v) rfl hacc.sub) rN) (by cases hr;rfl) rfl zhp;rw[h3,qat] at hr;refine gak ?_;exact panP (he'.trans hj) (by cases hr;rfl) zhp;exact zT20
theorem qjs(sb:Nat)(T:List Tok)(hT:TOK T)(f:Nat)(hE:∀ g,g<f->qlZ B0 w0 sb T g)(i op:Nat)(r:Res Ex)(hi:i<=T.length)(ho:op<=100)(hr:qcg T f i op=some r) :
  LCalls (KC B0 w0) 236 [ptr sb 0] [srcH sb T i op] (qdx sb T encE r):=by
 cases f with
 |zero=>rw[qcg] at hr;cases hr
 |succ f=>exact qih sb T hT f (hE f zo) i op r hi ho hr
theorem qtP(hG:GW B0 w0)(sb:Nat)(T:List Tok)(hT:TOK T)(f:Nat)(hE:∀ g,g<f->qlZ B0 w0 sb T g)(i op:Nat)(r:Res Ex)(hi:i<=T.length)(ho:op<=100)(hr:qeg T f i op=some r) :
  LCalls (KC B0 w0) 255 [ptr sb 0] [srcH sb T i op] (qdx sb T encE r):=by
 have hl:=hT.len;have hml:(T.map qdr).length=T.length:=zLm _
 obtain⟨f,rfl⟩:∃ g,f=g+1:=by
  cases f with
  |zero=>rw[qeg] at hr;cases hr
  |succ g=>exact⟨g,rfl⟩
 rw[qeg] at hr;refine zcI Tryz.func255 rfl (n:=63) rfl rfl rfl ?_;refine gah ?_;refine oS (sA λb=>?_) rfl;refine gam ?_;refine zQ0 ?_;refine oS (sH [_,_] rfl zp1 (qcp sb T i op [[40]] hl zo (by simp)) ?_) rfl;refine gaf ?_;refine oC rfl (λhp=>?_) (λhp=>?_);rw[if_pos hp] at hr;refine gag ?_;refine oS (sP [_,_] rfl pH (qcv sb T i op [40] hl zo zo) (λv i1 op1 h1=>?_) (λl er i1 op1 h1 e' he'=>?_)) rfl;rw[h1,qal] at hr;obtain⟨rfl,rfl,ho1,hi1⟩:=qbB h1;refine gam ?_;obtain⟨r1,hr1⟩:=qaS hr;refine oS (sP [_] rfl pH (hE f zo _ _ r1 zo zo hr1) (λv i2 op2 h2=>?_) (λl er i2 op2 h2 e' he'=>?_)) rfl;rw[hr1,h2,qal] at hr;obtain⟨g1,_,g3,rfl⟩:=(qcU T f).1 0 _ _ _ (hr1.trans (congrArg some h2));have g4:=g3 zo;refine oS (sA λb2=>?_) rfl;refine gab ?_;refine oS (sP [_,_] rfl zp1 (qfh sb T i2 (op+1) [41] hl zo zo zo) (λu i3 op3 h3=>?_) (λl er i3 op3 h3 e' he'=>?_)) rfl;rw[h3,qal] at hr;refine gab ?_;exact retP rfl (rC (rA rfl zm0 rfl zsr) rN) (by cases hr;rfl) rfl (zhD zhp);rw[h3,qat] at hr;refine gak ?_;exact panP (he'.trans rfl) (by cases hr;rfl) zhp;rw[hr1,h2,qat] at hr;refine gak ?_;exact panP (he'.trans rfl) (by cases hr;rfl) zhp;exact zT20;have hp':isTok T i [[40]]=false:=hp;rw[if_neg (by rw[hp'];decide)] at hr;refine gaa ?_;refine zcC [(0,ptr sb 0),(2,ptr b 0),(38,bool (decide (qkf T i=1)))] ?_ (λj hj=>?_);refine zQ23 ?_;refine LQ.bcase 25 rfl (λh=>?_) (λh=>?_);have hlt:i<T.length:=by have:=zt h;omega
 refine gad ?_;refine qP (xR (el':=qdr T[i]) (cs:=[_,_,_]) rfl rfl zo (qa5 _ _ _ hlt) rfl rfl) rfl ?_;refine gad ?_;exact⟨⟨rfl,rfl,qau (by rw[qkf,List.getElem?_eq_getElem hlt]),trivial⟩,rfl,rfl⟩;have hge:T.length<=i:=by have:=zf h;omega
 refine gad ?_;exact⟨⟨rfl,rfl,qau (by rw[qkf,List.getElem?_eq_none hge];rfl),trivial⟩,rfl,rfl⟩
 skip
 refine oC rfl (λhk=>?_) (λhk=>?_);rw[if_pos (zt hk)] at hr;refine gag ?_;refine oS (sP [_] rfl pH (qiA hG sb T hT i op zo) (λn i1 op1 h1=>?_) (λl er i1 op1 h1 e' he'=>?_)) rfl;rw[h1,qal] at hr;refine gad ?_;exact retP (v:=.mk nNum n [] []) hj (rC (rA (k:=4) rfl zm0 rfl (vA (bs:=[_,_,_,.list []]) ⟨vR _,vR _,vR _,vN,trivial⟩)) rN) (by cases hr;rfl) (by rw[qdZ];rfl) (zhP zp1 zhn);rw[h1,qat] at hr;refine gak ?_;exact panP (he'.trans hj) (by cases hr;rfl) zhp;rw[if_neg (zf hk)] at hr;refine gac ?_;refine oS (sP [_,_] rfl pH (qaQ sb T i op 2 hl zo) (λs i1 op1 h1=>?_) (λl er i1 op1 h1 e' he'=>?_)) rfl;rw[h1,qal] at hr;obtain⟨rfl,rfl,t,ht,_,_⟩:=qdP h1;have:=qjX ht;refine gac ?_;refine zQ0 ?_;refine oS (sH [_,_] rfl pH (qcp sb T (i+1) op1 [[91]] hl zo (by simp)) ?_) rfl;refine gaf ?_;refine oC rfl (λhx=>?_) (λhx=>?_);rw[if_pos hx] at hr;obtain⟨r1,hr1⟩:=qaS hr;refine gag ?_;refine oS (sP [_] rfl pH (qjs sb T hT f (λg hg=>hE g zo) (i+1) op1 r1 zo zo hr1) (λe2 i2 op2 h2=>?_) (λl er i2 op2 h2 e' he'=>?_)) rfl;rw[hr1,h2,qal] at hr;refine zQ0 ?_;refine gad ?_;exact retP (v:=.mk qec 0 s [e2]) hj (rC (rA rfl zm0 rfl zsr) rN) (by cases hr;rfl) (by rw[qdZ];rfl) (zhP zp1 zhn);exact zT19;have hx':isTok T (i+1) [[91]]=false:=hx;rw[if_neg (by rw[hx'];decide)] at hr;refine gag ?_;refine zQ0 ?_;refine oS (sH [_,_] rfl pH (qcp sb T (i+1) op1 [[40]] hl zo (by simp)) ?_) rfl;refine gaf ?_;refine oC rfl (λhy=>?_) (λhy=>?_);rw[if_pos hy] at hr;obtain⟨r1,hr1⟩:=qaS hr;refine gag ?_;refine oS (sP [_] rfl pH (qmP sb T hT f (λg hg=>hE g zo) (i+1) op1 r1 zo zo hr1) (λe2 i2 op2 h2=>?_) (λl er i2 op2 h2 e' he'=>?_)) rfl;rw[hr1,h2,qal] at hr;refine gad ?_;exact retP (v:=.mk qbN 0 s e2) hj (rC (rA rfl zm0 rfl zsr) rN) (by cases hr;rfl) (by rw[qdZ];rfl) (zhP zp1 zhn);exact zT19;have hy':isTok T (i+1) [[40]]=false:=hy;rw[if_neg (by rw[hy'];decide)] at hr;refine gab ?_;exact retP (v:=.mk nVar 0 s []) hj (rC (rA (k:=4) rfl zm0 rfl (vA (bs:=[_,_,_,.list []]) ⟨vR _,vR _,vR _,vN,trivial⟩)) rN) (by cases hr;rfl) (by rw[qdZ];rfl) (zhP zp1 zhn);rw[h1,qat] at hr;refine gak ?_;exact panP (he'.trans hj) (by cases hr;rfl) zhp
end
def e45:MapEntry:={ key:=.string ⟨#[45]⟩,val:=.string ⟨#[110,101,103]⟩,born:=0 }
def e33:MapEntry:={ key:=.string ⟨#[33]⟩,val:=.string ⟨#[110,111,116]⟩,born:=1 }
section
variable{B0:Nat}{w0:World}
def qx0(B0:Nat)(w0:World)(sb:Nat)(T:List Tok)(f:Nat):Prop:=
 ∀ i op r,i<=T.length->op<=100->qb4 T f i op=some r->LCalls (KC B0 w0) 231 [ptr sb 0] [srcH sb T i op] (qdx sb T encE r)
def qm0(T:List Tok)(i:Nat)(seen:Array Nat):Prop:=
 seen=#[]∨(seen=#[0]/\isTok T i [[45]]=false)∨(seen=#[1]/\isTok T i [[33]]=false)∨((seen=#[0,1]∨seen=#[1,0])/\isTok T i [[45]]=false/\isTok T i [[33]]=false)
theorem qrA{T:List Tok}{i:Nat}{seen:Array Nat}(h:qm0 T i seen)(ho:#[e45,e33].filter (λe=>!seen.contains e.born)=#[]):isTok T i [[45]]=false/\isTok T i [[33]]=false:=by
 have h1:=Array.filter_eq_empty_iff.1 ho e45 (by simp);have h2:=Array.filter_eq_empty_iff.1 ho e33 (by simp);rcases h with rfl|⟨rfl,_⟩|⟨rfl,_⟩|⟨_,h3,h4⟩;simp[e45] at h1;simp[e33] at h2;simp[e45] at h1;exact⟨h3,h4⟩
theorem qrF{T:List Tok}{i:Nat}{seen:Array Nat}{e:MapEntry}(h:qm0 T i seen)(he:e∈(#[e45,e33].filter (λe=>!seen.contains e.born)).toList) :
  seen.size<2/\((e=e45/\(isTok T i [[45]]=false->qm0 T i (seen.push 0)))∨(e=e33/\(isTok T i [[33]]=false->qm0 T i (seen.push 1)))):=by
 have he':=Array.mem_filter.1 (Array.mem_toList_iff.1 he);have hor:e=e45∨e=e33:=by simpa using he'.1
 have hno:=he'.2;rcases h with rfl|⟨rfl,h1⟩|⟨rfl,h1⟩|⟨rfl|rfl,_,_⟩;rcases hor with rfl|rfl;exact⟨by decide,.inl ⟨rfl,λh=>.inr (.inl ⟨rfl,h⟩)⟩⟩;exact⟨by decide,.inr ⟨rfl,λh=>.inr (.inr (.inl ⟨rfl,h⟩))⟩⟩;rcases hor with rfl|rfl;simp[e45] at hno;exact⟨by decide,.inr ⟨rfl,λh=>.inr (.inr (.inr ⟨.inl rfl,h1,h⟩))⟩⟩;rcases hor with rfl|rfl;exact⟨by decide,.inl ⟨rfl,λh=>.inr (.inr (.inr ⟨.inr rfl,h,h1⟩))⟩⟩;simp[e33] at hno;rcases hor with rfl|rfl;simp[e45] at hno;simp[e33] at hno;rcases hor with rfl|rfl;simp[e45] at hno;simp[e33] at hno
theorem qqG{T:List Tok}{i:Nat}(h:isTok T i [[33]]=true):isTok T i [[45]]=false:=by
 unfold isTok at h ⊢;split at h
 rename_i t ht
 simp only[zBa] at h;have h2:t.text=[33]:=by simpa using h.2
 rw[h2]
 simp
 cases h
theorem qqU(hG:GW B0 w0)(sb:Nat)(T:List Tok)(hT:TOK T):∀ f:Nat,(∀ g,g<f->qlZ B0 w0 sb T g)->qx0 B0 w0 sb T f:=by
 intro f
 induction f with
 |zero=>intro _ i op r _ _ hr;rw[qb4] at hr;cases hr
 |succ f ih=>
  intro hE i op r hi ho hr;have hl:=hT.len;rw[qb4] at hr;refine zcI Tryz.func231 rfl (n:=36) rfl rfl rfl ?_;refine gah ?_;refine oS (sA λb=>?_) rfl;refine gai ?_;refine oS (S.makeMap λmb=>?_) rfl;refine oS (S.insert (k:=⟨#[45]⟩) (v:=.string ⟨#[110,101,103]⟩) (kt:=9) (el:=9) zk zk rfl rfl rfl pH (by simp) ?_) rfl;refine oS (S.insert (k:=⟨#[33]⟩) (v:=.string ⟨#[110,111,116]⟩) (kt:=9) (el:=9) zk zk rfl rfl rfl pH (λe he=>⟨⟨#[45]⟩,by simp at he;rw[he],by decide⟩) ?_) rfl;refine oP (pM (lv:=.atom _) rfl) rfl ?_;refine oS (S.range (kt:=9) (el:=9) zk rfl zm0 λrb=>?_) rfl;refine gaa ?_
  refine oL (λk ls H=>∃ seen:Array Nat,k=2-seen.size/\ls=[(0,ptr sb 0),(2,ptr b 0),(8,ptr rb 0)]/\H=[(rb,.obj (.mapIter (some mb) 2 seen 2)),(mb,.obj (.map #[e45,e33] 2)),(b,.cells 202 [str [],int .u32 0,str [],qab]),srcH sb T i op]/\qm0 T i seen)
   ⟨_,_,_,⟨#[],rfl,rfl,rfl,.inl rfl⟩,⟨rfl,rfl,rfl,trivial⟩,zhR _⟩ ?_
  rintro k ls H ⟨seen,rfl,rfl,rfl,hS⟩ j hj;refine gah ?_;refine oS (S.next (F:=[(b,.cells 202 [str [],int .u32 0,str [],qab]),srcH sb T i op]) rfl zpr zDd (λhov=>?_) (λen hen=>?_)) rfl;obtain⟨hn1,hn2⟩:=qrA hS hov;rw[if_neg (by rw[hn1];decide),if_neg (by rw[hn2];decide)] at hr;refine gaa ?_;refine oC rfl (λhcc=>?_) (λhcc=>?_);cases hcc;refine gac ?_;refine oS (sP [_] rfl zp3 (qtP hG sb T hT f (λg hg=>hE g zo) i op r hi ho hr) (λv i1 op1 h1=>?_) (λl er i1 op1 h1 e' he'=>?_)) rfl;refine gad ?_;exact retP (v:=v) hj (rC (rA rfl zm0 rfl zsr) rN) h1 rfl (zhP zp1 zhn);refine gak ?_;exact panP (he'.trans hj) h1 zhp;obtain⟨hsz,⟨rfl,hnext⟩|⟨rfl,hnext⟩⟩:=qrF hS hen;refine gaa ?_;refine oC rfl (λhcc=>?_) (λhcc=>?_);refine gaj ?_;refine oP (Pure.entry (en:=e45) (stamp:=0) rfl zm0 zm1 rfl (by show(seen.push 0).back? = _;simp) rfl) rfl ?_;refine gac ?_;refine zQ0 ?_;refine oS (sH [_,_] rfl zp3 (qcp sb T i op [[45]] hl zo (by simp)) ?_) rfl;refine gaf ?_;refine oC rfl (λhc=>?_) (λhc=>?_);rw[if_pos hc] at hr;refine gag ?_;refine oS (sP [_,_] rfl pH (qcv sb T i op [45] hl zo zo) (λv i1 op1 h1=>?_) (λl er i1 op1 h1 e' he'=>?_)) rfl;rw[h1,qal] at hr;obtain⟨rfl,rfl,ho1,hi1⟩:=qbB h1;refine gam ?_;obtain⟨r1,hr1⟩:=qaS hr;refine oS (sP [_] rfl pH (ih (λg hg=>hE g zo) _ _ r1 zo zo hr1) (λe2 i2 op2 h2=>?_) (λl er i2 op2 h2 e' he'=>?_)) rfl;rw[hr1,h2,qal] at hr;obtain⟨g1,_,g3,rfl⟩:=(qcU T f).2.2.1 _ _ _ (hr1.trans (congrArg some h2));have g4:=g3 zo;refine zQ0 ?_;refine gad ?_;refine oS (sA λb2=>?_) rfl;refine gab ?_
  exact retP (v:=.mk nNeg 0 [] [e2]) hj (rC (rA rfl zm0 rfl zsr) rN) (by cases hr;rfl) (by rw[qdZ];rfl) (by
   rw[show(((op+1:Nat):Int)-1)=((op+1-1:Nat):Int) by omega]
   exact zhP zp1 zhn)
  exact zT19;rw[h1,qat] at hr;refine gae ?_;exact panP (he'.trans hj) (by cases hr;rfl) zhp;refine gaa ?_;exact⟨_,_,_,by have:=hsz;simp;omega,⟨seen.push 0,rfl,rfl,rfl,hnext hc⟩,⟨rfl,rfl,rfl,trivial⟩,zhP zp1 (zhP zp1 (zhP zp1 zhp)),hj⟩;cases hcc;refine gaa ?_;refine oC rfl (λhcc=>?_) (λhcc=>?_);refine gaj ?_;refine oP (Pure.entry (en:=e33) (stamp:=1) rfl zm0 zm1 rfl (by show(seen.push 1).back? = _;simp) rfl) rfl ?_;refine gac ?_;refine zQ0 ?_;refine oS (sH [_,_] rfl zp3 (qcp sb T i op [[33]] hl zo (by simp)) ?_) rfl;refine gaf ?_;refine oC rfl (λhc=>?_) (λhc=>?_);rw[if_neg (by rw[qqG hc];decide),if_pos hc] at hr;refine gag ?_;refine oS (sP [_,_] rfl pH (qcv sb T i op [33] hl zo zo) (λv i1 op1 h1=>?_) (λl er i1 op1 h1 e' he'=>?_)) rfl;rw[h1,qal] at hr;obtain⟨rfl,rfl,ho1,hi1⟩:=qbB h1;refine gam ?_;obtain⟨r1,hr1⟩:=qaS hr;refine oS (sP [_] rfl pH (ih (λg hg=>hE g zo) _ _ r1 zo zo hr1) (λe2 i2 op2 h2=>?_) (λl er i2 op2 h2 e' he'=>?_)) rfl;rw[hr1,h2,qal] at hr;obtain⟨g1,_,g3,rfl⟩:=(qcU T f).2.2.1 _ _ _ (hr1.trans (congrArg some h2));have g4:=g3 zo;refine zQ0 ?_;refine gad ?_;refine oS (sA λb2=>?_) rfl;refine gab ?_
  exact retP (v:=.mk nNot 0 [] [e2]) hj (rC (rA rfl zm0 rfl zsr) rN) (by cases hr;rfl) (by rw[qdZ];rfl) (by
   rw[show(((op+1:Nat):Int)-1)=((op+1-1:Nat):Int) by omega]
   exact zhP zp1 zhn)
  exact zT19;rw[h1,qat] at hr;refine gae ?_;exact panP (he'.trans hj) (by cases hr;rfl) zhp;refine gaa ?_;exact⟨_,_,_,by have:=hsz;simp;omega,⟨seen.push 1,rfl,rfl,rfl,hnext hc⟩,⟨rfl,rfl,rfl,trivial⟩,zhP zp1 (zhP zp1 (zhP zp1 zhp)),hj⟩;cases hcc
end
inductive Clo (sb:Nat):Nat->FuncId->Array Value->Array Value->Heap->Prop
 |un:Clo sb 6 231 #[.pointer (some ⟨sb,0,none⟩)] #[] []
 |bin {k bo bs bp bn:Nat} {f:FuncId} {first caps:Array Value} {H:Heap} (h:Clo sb (k+1) f first caps H):Clo sb k 257 #[] #[.pointer (some ⟨bo,0,none⟩),.pointer (some ⟨bs,0,none⟩),.pointer (some ⟨bp,0,none⟩),.pointer (some ⟨bn,0,none⟩)]
   ((bo,.cells 213 [.atom (.func (.func f) first caps)])::(bs,.cells 80 [ptr sb 0])::(bp,.cells 32 [.list ((qb1 k).map str)])::(bn,.cells 4 [bool (decide ((k:Int)=2))])::H)
def qwP{A:Type}(sb:Nat)(T:List Tok)(enc:A->LV)(Hc:Heap)(res:Res A)(r:LRes)(H:Heap):Prop:=match res with
 |.ok v i op=>r=.ret (enc v)/\H=srcH sb T i op::Hc
 |.err l e=>r=.panic (pan l e)/\∃ i op:Nat,H=srcH sb T i op::Hc
def CloC(B0:Nat)(w0:World)(sb:Nat)(T:List Tok)(f:Nat):Prop:=
 ∀ k fn first caps Hc i op r,Clo sb k fn first caps Hc->i<=T.length->op<=100->eLev T f k i op=some r ->
  LCalls (KC B0 w0) fn (first.toList.map .atom++caps.toList.map .atom) (srcH sb T i op::Hc) (qwP sb T encE Hc r)
section steps
variable{C:Ctx}{e:Env}{H:Heap}{dst:Option Nat}{ty:TypeId}{pos:String}{aft:Array Edge}{g:Option (Nat×Bool)}{K:LV->Heap->Prop}{X:List PanicEntry->Heap->Prop}
theorem qx5(a b:List LV){e:Env}:a++([]:List Operand).map e.ev++b=a++b:=by simp
theorem S.callClo{A:Type}{enc:A->LV}{res:Res A}{sb i op:Nat}{T:List Tok}{fo:Operand}{f:FuncId} [TEnter C.P f]{first caps:Array Value}{ats:Array TypeId}{Hc F:Heap}(hf:e.ev fo=.atom (.func (.func f) first caps))(hp:Pick (srcH sb T i op) H (F++Hc))
  (hc:LCalls C f (first.toList.map .atom++caps.toList.map .atom) (srcH sb T i op::Hc) (qwP sb T enc Hc res)) (hk:∀ v i' op',res=.ok v i' op'->K (enc v) (srcH sb T i' op'::(F++Hc))) (hx:∀ l er i' op',res=.err l er->X (pan l er) (srcH sb T i' op'::Hc++F)) :
  qae C ⟨dst,.call { callee:=.value fo,args:=#[],argTypes:=ats },ty,pos,aft,g⟩ e H K X:=by
 have hp':H.Perm ((srcH sb T i op::Hc)++F):=hp.trans (List.Perm.cons _ zPc);refine qae.conseq (K:=λv H'=>∃ u i' op',res=.ok u i' op'/\v=enc u/\H'=srcH sb T i' op'::Hc++F) (S.callV (H1:=srcH sb T i op::Hc) (F:=F) [] hf (qx5 _ _) hp' hc ?_ ?_) ?_;intro v H' h
 cases hr:res with
 |ok u i' op'=>rw[hr] at h;obtain⟨h1,rfl⟩:=h;cases h1;exact⟨u,i',op',rfl,rfl,rfl⟩
 |err l er=>rw[hr] at h;obtain⟨h1,_⟩:=h;cases h1
 intro ch H' h
 cases hr:res with
 |ok u i' op'=>rw[hr] at h;obtain⟨h1,_⟩:=h;cases h1
 |err l er=>rw[hr] at h;obtain⟨h1,i',op',rfl⟩:=h;cases h1;exact hx _ _ _ _ hr
 rintro v H' ⟨u,i',op',h1,rfl,rfl⟩;exact⟨_,_,vR _,⟨[],by simpa using zPc⟩,hk u i' op' h1⟩
end steps
theorem Clo.enter{sb k:Nat}{f:FuncId}{first caps:Array Value}{H:Heap}(h:Clo sb k f first caps H):TEnter Tryz.prog f:=by
 cases h <;> infer_instance
theorem Clo.le{sb k:Nat}{f:FuncId}{first caps:Array Value}{H:Heap}(h:Clo sb k f first caps H):k<=6:=by
 induction h with
 |un=>exact zNr _
 |bin _ ih=>omega
theorem quD{s:Nat×LObj}{A B Hc:Heap}:HSub (s::(B++Hc)) ((s::Hc++[])++(A++B)):=by
 refine⟨A,?_⟩;have h1:(Hc++(A++B)).Perm ((B++Hc)++A):=zPc.trans (by rw[zAs];exact zPc);simpa using List.Perm.cons s h1
theorem qnD{s u:Nat×LObj}{A Hc:Heap}:HSub (u::s::(A++Hc)) (u::((s::([]++Hc))++A)):=by
 refine⟨[],?_⟩;have h1:(Hc++A).Perm (A++Hc):=zPc;simpa using List.Perm.cons u (List.Perm.cons s h1)
theorem HSub.appR{H' l1 l2:Heap}(h:HSub H' l2):HSub H' (l1++l2):=by
 obtain⟨G,hG⟩:=h;refine⟨G++l1,?_⟩;have h1:(l1++l2).Perm (l2++l1):=zPc;have h2:(l2++l1).Perm ((H'++G)++l1):=hG.append_right l1;simpa using h1.trans h2
theorem qpr{a:Nat×LObj}{l1 l2:Heap}:([]++(l1++a::l2)).Perm ([a]++(l1++l2)):=by
 exact(List.nil_append _).symm▸List.perm_middle
theorem qvm(k:Nat):(qb1 k).length<=1000:=by
 unfold qb1;split <;> simp
theorem qtz{T:List Tok}{i:Nat}(h:i<T.length):qeI T i=T[i].text:=by rw[qeI,List.getElem?_eq_getElem h]
section
variable{B0:Nat}{w0:World}
theorem qvH(hG:GW B0 w0)(sb:Nat)(T:List Tok)(hT:TOK T)(f:Nat)(hC:∀ g,g<f->CloC B0 w0 sb T g)(k bo bs bp bn:Nat)(fn:FuncId)(first caps:Array Value)(Hc:Heap)(hclo:Clo sb (k+1) fn first caps Hc)(i op:Nat)(r:Res Ex)
  (hi:i<=T.length) (ho:op<=100) (hr:eLev T f k i op=some r) :
  LCalls (KC B0 w0) 257 [ptr bo 0,ptr bs 0,ptr bp 0,ptr bn 0] (srcH sb T i op::(bo,.cells 213 [.atom (.func (.func fn) first caps)])::(bs,.cells 80 [ptr sb 0])::(bp,.cells 32 [.list ((qb1 k).map str)])::(bn,.cells 4 [bool (decide ((k:Int)=2))])::Hc)
   (qwP sb T encE ((bo,.cells 213 [.atom (.func (.func fn) first caps)])::(bs,.cells 80 [ptr sb 0])::(bp,.cells 32 [.list ((qb1 k).map str)])::(bn,.cells 4 [bool (decide ((k:Int)=2))])::Hc) r):=by
 have hl:=hT.len;have hk6:=hclo.le;have hen:=hclo.enter
 obtain⟨f,rfl⟩:∃ g,f=g+1:=by
  cases f with
  |zero=>rw[eLev] at hr;cases hr
  |succ g=>exact⟨g,rfl⟩
 rw[eLev,if_neg zo] at hr;obtain⟨r1,hr1⟩:=qaS hr;refine zcI Tryz.func257 rfl (n:=38) rfl rfl rfl ?_;refine gah ?_;refine oS (sA λb=>?_) rfl;refine gab ?_;refine oS (S.callClo (F:=[(b,_),(bo,_),(bs,_),(bp,_),(bn,_)]) (Hc:=Hc) rfl zp1 (hC f zo _ _ _ _ _ _ _ r1 hclo hi ho hr1) (λv i1 op1 h1=>?_) (λl er i1 op1 h1 e' he'=>?_)) rfl;rw[hr1,h1,qal] at hr;obtain⟨g1,_,g3,rfl⟩:=(qcU T f).1 _ _ _ _ (hr1.trans (congrArg some h1));have g4:=g3 hi;refine oS (sA λb5=>?_) rfl;refine gad ?_
 refine oL (λq ls H=>∃ (ex:Ex) (i2:Nat),q<=f/\ls=[(0,ptr bo 0),(1,ptr bs 0),(2,ptr bp 0),(3,ptr bn 0),(4,ptr b 0),(5,ptr b5 0)] /\
   H=(b5,.cells 202 [str (exOp ex),int .u32 (qe2 ex),str (qcW ex),.list (qbO ex)])::srcH sb T i2 op1::(b,.cells 202 [str [],int .u32 0,str [],qab])::([(bo,.cells 213 [.atom (.func (.func fn) first caps)]),(bs,.cells 80 [ptr sb 0]),(bp,.cells 32 [.list ((qb1 k).map str)]),(bn,.cells 4 [bool (decide ((k:Int)=2))])]++Hc)/\i2<=T.length/\qdE T q k ex i2 op1=some r)
  ⟨f,_,_,⟨v,i1,zNr _,rfl,rfl,g4,hr⟩,⟨rfl,rfl,rfl,rfl,rfl,rfl,trivial⟩,zhR _⟩ ?_
 rintro q ls H ⟨ex,i2,hqf,rfl,rfl,hi2,hI⟩ j hj
 obtain⟨q,rfl⟩:∃ q',q=q'+1:=by
  cases q with
  |zero=>rw[qdE] at hI;cases hI
  |succ q=>exact⟨q,rfl⟩
 rw[qdE] at hI;refine gab ?_;refine oS (sH [_,_] rfl zp1 (qcp sb T i2 op1 (qb1 k) hl zo (qvm k)) ?_) rfl;refine gaf ?_;refine oC rfl (λhc=>?_) (λhc=>?_);have hlt:=qaK hc;rw[if_pos hc] at hI;refine gaa ?_;refine zcC [(0,ptr bo 0),(1,ptr bs 0),(2,ptr bp 0),(3,ptr bn 0),(4,ptr b 0),(5,ptr b5 0),(6,str (qeI T i2))] ?_ (λj2 hj2=>?_);refine zQ23 ?_;refine qP (xR (el':=qdr T[i2]) (cs:=[_,_,_]) rfl rfl zo (qa5 _ _ _ hlt) rfl rfl) rfl ?_;refine gad ?_;exact⟨⟨rfl,rfl,rfl,rfl,rfl,rfl,qng (qtz hlt).symm,trivial⟩,rfl,rfl⟩;obtain⟨r2,hr2⟩:=qaS hI;refine gab ?_;refine cD (m:=7) rfl [(bo,.cells 213 [.atom (.func (.func fn) first caps)])] ?_;have hHF:HSub [(bo,.cells 213 [.atom (.func (.func fn) first caps)])] (srcH sb T (i2+1) op1::(b5,.cells 202 [str (exOp ex),int .u32 (qe2 ex),str (qcW ex),.list (qbO ex)])::(b,.cells 202 [str [],int .u32 0,str [],qab])::(bo,.cells 213 [.atom (.func (.func fn) first caps)])::[(bs,.cells 80 [ptr sb 0]),(bp,.cells 32 [.list ((qb1 k).map str)]),(bn,.cells 4 [bool (decide ((k:Int)=2))])]++Hc):=zhP zp3 zhn;refine LAny.take (i:=0) hHF rfl zk zk zk rfl (pM (lv:=.atom _) rfl) ?_;refine LAny.take (i:=2) hHF rfl zk zk zk rfl (pL (c:=.atom _) rfl zm0 rfl) ?_;refine aL ?_ hHF;refine zl2 (i:=1) (j:=3) zk ?_ ?_;have hperm:(srcH sb T (i2+1) op1::(b5,LObj.cells 202 [str (exOp ex),int .u32 (qe2 ex),str (qcW ex),.list (qbO ex)])::(b,LObj.cells 202 [str [],int .u32 0,str [],qab])::([(bo,LObj.cells 213 [.atom (.func (.func fn) first caps)]),(bs,LObj.cells 80 [ptr sb 0]),(bp,LObj.cells 32 [.list ((qb1 k).map str)]),(bn,LObj.cells 4 [bool (decide ((k:Int)=2))])]++Hc)).Perm ((srcH sb T (i2+1) op1::Hc)++[(b5,LObj.cells 202 [str (exOp ex),int .u32 (qe2 ex),str (qcW ex),.list (qbO ex)]),(b,LObj.cells 202 [str [],int .u32 0,str [],qab]),(bo,LObj.cells 213 [.atom (.func (.func fn) first caps)]),(bs,LObj.cells 80 [ptr sb 0]),(bp,LObj.cells 32 [.list ((qb1 k).map str)]),(bn,LObj.cells 4 [bool (decide ((k:Int)=2))])]):=List.Perm.cons _ (show([(b5,LObj.cells 202 [str (exOp ex),int .u32 (qe2 ex),str (qcW ex),.list (qbO ex)]),(b,LObj.cells 202 [str [],int .u32 0,str [],qab]),(bo,LObj.cells 213 [.atom (.func (.func fn) first caps)]),(bs,LObj.cells 80 [ptr sb 0]),(bp,LObj.cells 32 [.list ((qb1 k).map str)]),(bn,LObj.cells 4 [bool (decide ((k:Int)=2))])]++Hc).Perm (Hc++[(b5,LObj.cells 202 [str (exOp ex),int .u32 (qe2 ex),str (qcW ex),.list (qbO ex)]),(b,LObj.cells 202 [str [],int .u32 0,str [],qab]),(bo,LObj.cells 213 [.atom (.func (.func fn) first caps)]),(bs,LObj.cells 80 [ptr sb 0]),(bp,LObj.cells 32 [.list ((qb1 k).map str)]),(bn,LObj.cells 4 [bool (decide ((k:Int)=2))])]) from zPc);refine lH rfl rfl (pG (cs':=[_,_,_,_]) rfl zm1 rfl rfl) ?_;refine lO 3 (lS (H1:=srcH sb T (i2+1) op1::Hc) (F:=[(b5,LObj.cells 202 [str (exOp ex),int .u32 (qe2 ex),str (qcW ex),.list (qbO ex)]),(b,LObj.cells 202 [str [],int .u32 0,str [],qab]),(bo,LObj.cells 213 [.atom (.func (.func fn) first caps)]),(bs,LObj.cells 80 [ptr sb 0]),(bp,LObj.cells 32 [.list ((qb1 k).map str)]),(bn,LObj.cells 4 [bool (decide ((k:Int)=2))])]) rfl (.inl rfl) rfl (hperm) (zhP zp2 zhn) (S.callClo (F:=[]) (Hc:=Hc) rfl pH (hC q zo _ _ _ _ _ _ _ r2 hclo zo ho hr2) (λe2 i3 op3 h3=>?_) (λl er i3 op3 h3 e' he'=>?_)));rw[hr2,h3,qal] at hI;obtain⟨q1,q2,q3,rfl⟩:=(qcU T q).1 _ _ _ _ (hr2.trans (congrArg some h3));have q4:=q3 zo;refine lO 4 (lS (H1:=[]) (F:=(srcH sb T i3 op3::([]++Hc))++[(b5,LObj.cells 202 [str (exOp ex),int .u32 (qe2 ex),str (qcW ex),.list (qbO ex)]),(b,LObj.cells 202 [str [],int .u32 0,str [],qab]),(bo,LObj.cells 213 [.atom (.func (.func fn) first caps)]),(bs,LObj.cells 80 [ptr sb 0]),(bp,LObj.cells 32 [.list ((qb1 k).map str)]),(bn,LObj.cells 4 [bool (decide ((k:Int)=2))])]) rfl (.inl rfl) rfl zpr (HSub.appR (zhP zp2 zhn)) (sL (es:=[encE ex,encE e2]) [_,_] rfl (eC rfl rfl (eC rfl rfl eN)) rfl rfl rfl ?_))
 refine lO 5 (lH rfl rfl (pB _ (cs:=[_,_,_,_]) rfl) ?_);refine lO 6 (lS (H1:=[(b5,LObj.cells 202 [str (exOp ex),int .u32 (qe2 ex),str (qcW ex),.list (qbO ex)])]) (F:=(srcH sb T i3 op3::([]++Hc))++[(b,LObj.cells 202 [str [],int .u32 0,str [],qab]),(bo,LObj.cells 213 [.atom (.func (.func fn) first caps)]),(bs,LObj.cells 80 [ptr sb 0]),(bp,LObj.cells 32 [.list ((qb1 k).map str)]),(bn,LObj.cells 4 [bool (decide ((k:Int)=2))])]) rfl (.inl rfl) rfl qpr (HSub.appR (zhP zp1 zhn)) (sS (cs':=[_,_,_,_]) rfl pH rfl rfl rfl rfl rfl ?_));refine lD zk ?_;refine qN ?_;refine cW (H':=(b5,LObj.cells 202 [str (qeI T i2),int .u32 0,str [],.list [encE ex,encE e2]])::srcH sb T i3 op3::(b,LObj.cells 202 [str [],int .u32 0,str [],qab])::([(bo,LObj.cells 213 [.atom (.func (.func fn) first caps)]),(bs,LObj.cells 80 [ptr sb 0]),(bp,LObj.cells 32 [.list ((qb1 k).map str)]),(bn,LObj.cells 4 [bool (decide ((k:Int)=2))])]++Hc)) (qnD (A:=[(b,LObj.cells 202 [str [],int .u32 0,str [],qab]),(bo,LObj.cells 213 [.atom (.func (.func fn) first caps)]),(bs,LObj.cells 80 [ptr sb 0]),(bp,LObj.cells 32 [.list ((qb1 k).map str)]),(bn,LObj.cells 4 [bool (decide ((k:Int)=2))])])) ?_;refine gab ?_;refine oC rfl (λhk2=>?_) (λhk2=>?_);exact zT29;exact zT21;exact zT3;have hperm:(srcH sb T (i2+1) op1::(b5,LObj.cells 202 [str (exOp ex),int .u32 (qe2 ex),str (qcW ex),.list (qbO ex)])::(b,LObj.cells 202 [str [],int .u32 0,str [],qab])::([(bo,LObj.cells 213 [.atom (.func (.func fn) first caps)]),(bs,LObj.cells 80 [ptr sb 0]),(bp,LObj.cells 32 [.list ((qb1 k).map str)]),(bn,LObj.cells 4 [bool (decide ((k:Int)=2))])]++Hc)).Perm ((srcH sb T (i2+1) op1::Hc)++[(b5,LObj.cells 202 [str (exOp ex),int .u32 (qe2 ex),str (qcW ex),.list (qbO ex)]),(b,LObj.cells 202 [str [],int .u32 0,str [],qab]),(bo,LObj.cells 213 [.atom (.func (.func fn) first caps)]),(bs,LObj.cells 80 [ptr sb 0]),(bp,LObj.cells 32 [.list ((qb1 k).map str)]),(bn,LObj.cells 4 [bool (decide ((k:Int)=2))])]):=List.Perm.cons _ (show([(b5,LObj.cells 202 [str (exOp ex),int .u32 (qe2 ex),str (qcW ex),.list (qbO ex)]),(b,LObj.cells 202 [str [],int .u32 0,str [],qab]),(bo,LObj.cells 213 [.atom (.func (.func fn) first caps)]),(bs,LObj.cells 80 [ptr sb 0]),(bp,LObj.cells 32 [.list ((qb1 k).map str)]),(bn,LObj.cells 4 [bool (decide ((k:Int)=2))])]++Hc).Perm (Hc++[(b5,LObj.cells 202 [str (exOp ex),int .u32 (qe2 ex),str (qcW ex),.list (qbO ex)]),(b,LObj.cells 202 [str [],int .u32 0,str [],qab]),(bo,LObj.cells 213 [.atom (.func (.func fn) first caps)]),(bs,LObj.cells 80 [ptr sb 0]),(bp,LObj.cells 32 [.list ((qb1 k).map str)]),(bn,LObj.cells 4 [bool (decide ((k:Int)=2))])]) from zPc);refine(lS (H1:=srcH sb T (i2+1) op1::Hc) (F:=[(b5,LObj.cells 202 [str (exOp ex),int .u32 (qe2 ex),str (qcW ex),.list (qbO ex)]),(b,LObj.cells 202 [str [],int .u32 0,str [],qab]),(bo,LObj.cells 213 [.atom (.func (.func fn) first caps)]),(bs,LObj.cells 80 [ptr sb 0]),(bp,LObj.cells 32 [.list ((qb1 k).map str)]),(bn,LObj.cells 4 [bool (decide ((k:Int)=2))])]) rfl (.inl rfl) rfl (hperm) (zhP zp2 zhn) (S.callClo (F:=[]) (Hc:=Hc) rfl pH (hC q zo _ _ _ _ _ _ _ r2 hclo zo ho hr2) (λe2 i3 op3 h3=>?_) (λl er i3 op3 h3 e' he'=>?_)));rw[hr2,h3,qal] at hI;obtain⟨q1,q2,q3,rfl⟩:=(qcU T q).1 _ _ _ _ (hr2.trans (congrArg some h3));have q4:=q3 zo;refine lO 1 (lH rfl rfl (pG (cs':=[_,_,_,_]) rfl (mem_append_right _ zm0) rfl rfl) ?_);refine lO 4 (lS (H1:=[]) (F:=(srcH sb T i3 op3::([]++Hc))++[(b5,LObj.cells 202 [str (exOp ex),int .u32 (qe2 ex),str (qcW ex),.list (qbO ex)]),(b,LObj.cells 202 [str [],int .u32 0,str [],qab]),(bo,LObj.cells 213 [.atom (.func (.func fn) first caps)]),(bs,LObj.cells 80 [ptr sb 0]),(bp,LObj.cells 32 [.list ((qb1 k).map str)]),(bn,LObj.cells 4 [bool (decide ((k:Int)=2))])]) rfl (.inl rfl) rfl zpr (HSub.appR (zhP zp2 zhn)) (sL (es:=[encE ex,encE e2]) [_,_] rfl (eC rfl rfl (eC rfl rfl eN)) rfl rfl rfl ?_))
 refine lO 5 (lH rfl rfl (pB _ (cs:=[_,_,_,_]) rfl) ?_);refine lO 6 (lS (H1:=[(b5,LObj.cells 202 [str (exOp ex),int .u32 (qe2 ex),str (qcW ex),.list (qbO ex)])]) (F:=(srcH sb T i3 op3::([]++Hc))++[(b,LObj.cells 202 [str [],int .u32 0,str [],qab]),(bo,LObj.cells 213 [.atom (.func (.func fn) first caps)]),(bs,LObj.cells 80 [ptr sb 0]),(bp,LObj.cells 32 [.list ((qb1 k).map str)]),(bn,LObj.cells 4 [bool (decide ((k:Int)=2))])]) rfl (.inl rfl) rfl qpr (HSub.appR (zhP zp1 zhn)) (sS (cs':=[_,_,_,_]) rfl pH rfl rfl rfl rfl rfl ?_));refine lD zk ?_;refine qN ?_;refine cW (H':=(b5,LObj.cells 202 [str (qeI T i2),int .u32 0,str [],.list [encE ex,encE e2]])::srcH sb T i3 op3::(b,LObj.cells 202 [str [],int .u32 0,str [],qab])::([(bo,LObj.cells 213 [.atom (.func (.func fn) first caps)]),(bs,LObj.cells 80 [ptr sb 0]),(bp,LObj.cells 32 [.list ((qb1 k).map str)]),(bn,LObj.cells 4 [bool (decide ((k:Int)=2))])]++Hc)) (qnD (A:=[(b,LObj.cells 202 [str [],int .u32 0,str [],qab]),(bo,LObj.cells 213 [.atom (.func (.func fn) first caps)]),(bs,LObj.cells 80 [ptr sb 0]),(bp,LObj.cells 32 [.list ((qb1 k).map str)]),(bn,LObj.cells 4 [bool (decide ((k:Int)=2))])])) ?_;refine gab ?_;refine oC rfl (λhk2=>?_) (λhk2=>?_);exact zT29;exact zT21;exact zT3;have hc':isTok T i2 (qb1 k)=false:=hc;rw[if_neg (by rw[hc'];decide)] at hI;refine gab ?_;exact rR hj (rC (rA rfl zm0 rfl zsr) rN) (zhD (zhP pH (zhD zhr))) (by cases hI;exact⟨rfl,rfl⟩);rw[hr1,h1,qat] at hr;refine gak ?_;refine qad.panic (he'.trans rfl) (H':=srcH sb T i1 op1::(bo,.cells 213 [.atom (.func (.func fn) first caps)])::(bs,.cells 80 [ptr sb 0])::(bp,.cells 32 [.list ((qb1 k).map str)])::(bn,.cells 4 [bool (decide ((k:Int)=2))])::Hc) ?_ (by cases hr;exact⟨rfl,i1,op1,rfl⟩);exact zhP pH ⟨[(b,_)],zPc.trans (by exact List.Perm.refl _ |>.trans (perm_append_singleton _ _).symm)⟩
end
def lvLV(k:Nat):LV:=.list ((qb1 k).map str)
def qhj:List LV:=[lvLV 0,lvLV 1,lvLV 2,lvLV 3,lvLV 4,lvLV 5]
section
variable{B0:Nat}{w0:World}
theorem qoG:LCalls (KC B0 w0) 233 [] [] (Ret (.list qhj)):=by
 refine zcI Tryz.func233 rfl (n:=8) rfl rfl rfl ?_;refine gaq ?_;refine oS (sL (es:=[str [124,124]]) [_] rfl (eC rfl rfl eN) rfl rfl rfl ?_) rfl;refine oS (sL (es:=[str [38,38]]) [_] rfl (eC rfl rfl eN) rfl rfl rfl ?_) rfl;refine oS (sL (es:=[str [61,61],str [33,61],str [60],str [62],str [60,61],str [62,61]]) [_,_,_,_,_,_] rfl (eC rfl rfl (eC rfl rfl (eC rfl rfl (eC rfl rfl (eC rfl rfl (eC rfl rfl eN)))))) rfl rfl rfl ?_) rfl;refine oS (sL (es:=[str [94]]) [_] rfl (eC rfl rfl eN) rfl rfl rfl ?_) rfl;refine oS (sL (es:=[str [43],str [45]]) [_,_] rfl (eC rfl rfl (eC rfl rfl eN)) rfl rfl rfl ?_) rfl;refine oS (sL (es:=[str [42],str [47],str [37]]) [_,_,_] rfl (eC rfl rfl (eC rfl rfl (eC rfl rfl eN))) rfl rfl rfl ?_) rfl;refine oS (sL (es:=qhj) [_,_,_,_,_,_] rfl (eC rfl rfl (eC rfl rfl (eC rfl rfl (eC rfl rfl (eC rfl rfl (eC rfl rfl eN)))))) rfl rfl rfl ?_) rfl;refine gad ?_;exact qac rfl (rC (rT (v:=.list _) rfl zsr) rN) rfl
theorem qgH(sb:Nat)(ops:List LV)(once:Bool)(fn:FuncId)(first caps:Array Value):LCalls (KC B0 w0) 234 [ptr sb 0,.list ops,bool once,.atom (.func (.func fn) first caps)] []
  (λr H=>∃ bo bs bp bn:Nat,r=.ret (.atom (.func (.func 257) #[] #[.pointer (some ⟨bo,0,none⟩),.pointer (some ⟨bs,0,none⟩),.pointer (some ⟨bp,0,none⟩),.pointer (some ⟨bn,0,none⟩)])) /\
   H=[(bo,.cells 213 [.atom (.func (.func fn) first caps)]),(bs,.cells 80 [ptr sb 0]),(bp,.cells 32 [.list ops]),(bn,.cells 4 [bool once])]):=by
 refine zcI Tryz.func234 rfl (n:=10) rfl rfl rfl ?_;refine gah ?_;refine oS (sB rfl λbs=>?_) rfl;refine oS (sB rfl λbp=>?_) rfl;refine oS (sB rfl λbn=>?_) rfl;refine oS (sB rfl λbo=>?_) rfl;refine gab ?_;exact rR rfl (zra rfl) (zhP pH (zhP zp2 (zhP zp1 zhp))) ⟨bo,bs,bp,bn,rfl,rfl⟩
theorem qlC(es:List LV):LCalls (KC B0 w0) 232 [.list es] [] (λr H=>∃ b:Nat,r=.ret (.atom (.func (.func 256) #[] #[.pointer (some ⟨b,0,none⟩)]))/\H=[(b,.cells 197 [.list es])]):=by
 refine zcI Tryz.func232 rfl (n:=4) rfl rfl rfl ?_;refine gah ?_;refine oS (sB rfl λb=>?_) rfl;refine gab ?_;exact rR rfl (zra rfl) zhr ⟨b,rfl,rfl⟩
def qmo(ls:List (List (List UInt8)))(q:Nat):List LV:=[int .i64 ((ls.length:Int)-1-q),.list (((ls[ls.length-1-q]?).getD []).map str)]
theorem qsZ(b:Nat)(ls:List (List (List UInt8)))(hl:ls.length<=100000):qxk (KC B0 w0) 256 [ptr b 0] [(b,.cells 197 [.list (ls.map λl=>.list (l.map str))])] ls.length (qmo ls):=by
 intro l J hY H0 h0;have hml:(ls.map λl=>LV.list (l.map str)).length=ls.length:=zLm _;refine zcI Tryz.func256 rfl (n:=19) rfl rfl rfl ?_;refine qag.perm (H':=(b,.cells 197 [.list (ls.map λl=>.list (l.map str))])::H0) (perm_append_singleton _ _) ?_;refine gab ?_
 refine oL (λk lsl H=>∃ (q:Nat) (Hq:Heap),q<=ls.length/\k=ls.length-q/\lsl=[(0,.atom (.func (.yield l) #[] #[])),(1,ptr b 0),(3,int .i64 ((ls.length:Int)-1-q))]/\H=(b,.cells 197 [.list (ls.map λl=>.list (l.map str))])::Hq/\J q Hq)
  ⟨_,_,_,⟨0,H0,zero_le _,rfl,rfl,rfl,h0⟩,⟨rfl,rfl,qao (by simp),trivial⟩,zhR _⟩ ?_
 rintro k lsl H ⟨q,Hq,hq,rfl,rfl,rfl,hJ⟩ j hj;refine gab ?_;refine oC rfl (λhc=>?_) (λhc=>?_);have hlt:q<ls.length:=by have:=zt hc;omega
 have hix:((ls.length:Int)-1-q).toNat=ls.length-1-q:=by omega
 have hlt2:ls.length-1-q<ls.length:=by omega
 have hel:(ls.map λl=>LV.list (l.map str))[((ls.length:Int)-1-q).toNat]? = some (.list (((ls[ls.length-1-q]?).getD []).map str)):=by
  rw[hix,List.getElem?_map,List.getElem?_eq_getElem hlt2];rfl
 refine gaa ?_;refine qag.regionW ?_;refine gad ?_;refine qfs.pure (xR (cs:=[_]) rfl rfl zo hel rfl rfl) rfl ?_;refine gad ?_;refine qfs.yield (H:=(b,.cells 197 [.list (ls.map λl=>.list (l.map str))])::Hq) (args:=[_,_]) rfl rfl (qfz.frame (H:=Hq) (F:=[(b,.cells 197 [.list (ls.map λl=>.list (l.map str))])]) (perm_append_singleton _ _).symm (K:=λH'=>∃ H1,H'=H1++[(b,.cells 197 [.list (ls.map λl=>.list (l.map str))])]/\J (q+1) H1) (qfz.mono (hY q Hq hlt hJ) λH' h=>⟨H',rfl,h⟩)) rfl ?_;rintro H' ⟨H1,rfl,hJ1⟩;refine gad ?_;refine qfs.nil ?_;refine qN ?_;refine cW (H':=(b,.cells 197 [.list (ls.map λl=>.list (l.map str))])::H1) ⟨[],by rw[zLz];exact perm_append_singleton _ _⟩ ?_;refine oC rfl (λhcc=>?_) (λhcc=>?_);cases hcc;refine gab ?_;exact⟨_,_,_,by omega,⟨q+1,H1,hlt,rfl,rfl,rfl,hJ1⟩,⟨rfl,rfl,qao zo,trivial⟩,zhR _,hj⟩;have hge:q=ls.length:=by have:=zf hc;omega
 subst hge;refine gaa ?_;exact rO hj rN ⟨[],by rw[zLz];exact(perm_append_singleton _ _).symm⟩ ⟨⟨_,rfl⟩,Hq,rfl,hJ⟩
end
end Go.Proofs.YtkihibnffkpnkaaGreatDoor
namespace Go.Proofs.YtkihibnffkpnkaaGreatDoor
open Go.GL Go.RowKit Go.Stele
def BH(b:Nat)(l:List UInt8)(H:Heap):Prop:=∃ p v Hv,(p=LV.atom (.pointer none)∨p=ptr b 0)/\BRow 5 v l Hv/\H=(b,.cells 69 [p,.atom v])::Hv
theorem qrP:Lays.n240 Tryz.prog Tryz.lays156_ren:={ Tryz.lays156 with }
section
variable{B0:Nat}{w0:World}
theorem qgt(b:Nat)(p v:LV)(hp:p=LV.atom (.pointer none)∨p=ptr b 0):LCalls (KC B0 w0) 56 [ptr b 0] [(b,.cells 69 [p,v])]
  (λr H'=>(∃ x,r=.ret (.atom x))/\H'=[(b,.cells 69 [ptr b 0,v])]):=λxs w L hv hH=>by
 simp only[RepL] at hv;obtain⟨y,ys,rfl,hy,rfl⟩:=hv;simp only[Rep] at hy;subst hy;obtain⟨hb0,hbs,hl,zs,hx1,hx2⟩:=hH.objs _ (List.mem_singleton.2 rfl);simp only at hb0 hbs hl hx1 hx2;have hz:=hx2;simp only[RepL] at hz;obtain⟨a,as1,rfl,ha,c,as2,rfl,hc,rfl⟩:=hz;rcases hp with rfl|rfl;simp only[Rep] at ha;subst ha;have h0:w.cell? ⟨b,0,none⟩=some (.pointer none):=by simp[World.cell?,hx1]
 have hsh:w.shape? b=some (69,2):=by simp[World.shape?,hx1]
 have hfz:w.frozen? ⟨b,0,none⟩=false:=Go.Lib.frozen_of_heap hx1 0;refine(Any.Builder_copyCheck_fresh (P:=Tryz.prog) qrP Tryz.Builder_Extra_156.toX72 b w h0 hsh hfz).mono λe w' he=>?_;obtain⟨rfl,rfl⟩:=he;refine qeR (w:=w) (w':=w.setCell ⟨b,0,none⟩ (.pointer (some ⟨b,0,none⟩))) (xs':=[.pointer (some ⟨b,0,none⟩),c]) (cs':=[ptr b 0,v]) (lv:=.atom (.tuple #[])) hH rfl rfl rfl (by simp[World.setCell]) (λd hd=>by simp[World.setCell,Array.getElem?_modify,Ne.symm hd]) (by rw[qiw (xs:=[.pointer none,c]) hx1];rfl) rfl ?_ qai ⟨⟨_,rfl⟩,rfl⟩;simp only[RepL] at hx2 ⊢;exact⟨_,_,rfl,qai,c,[],rfl,hc,rfl⟩;simp only[Rep] at ha;subst ha;have h0:w.cell? ⟨b,0,none⟩=some (.pointer (some ⟨b,0,none⟩)):=by simp[World.cell?,hx1]
 refine(Any.Builder_copyCheck_used (P:=Tryz.prog) qrP Tryz.Builder_Extra_156.toX72 b w h0).mono λe w' he=>?_;obtain⟨rfl,rfl⟩:=he;exact⟨.atom (.tuple #[]),_,L,Fr.refl _ _ _,hH,qai,⟨_,rfl⟩,rfl⟩
attribute [local irreducible] LOps qag qae LCalls Go.GL.Pure qax qam qad LQ LAny qaJ qan
theorem qfo(b:Nat)(l m:List UInt8)(H:Heap)(hB:BH b l H)(hlen:l.length+m.length<=10000000000):LCalls (KC B0 w0) 28 [ptr b 0,str m] H (λr H'=>(∃ x,r=.ret x)/\BH b (l++m) H'):=by
 obtain⟨p,v,Hv,hp,hacc,rfl⟩:=hB;refine zcI Tryz.func28 rfl (n:=19) rfl rfl rfl ?_;refine gap ?_;refine oS (S.callH (H1:=[(b,_)]) (F:=Hv) [_] rfl zpr (qgt b p (.atom v) hp) (λx H' h=>?_) (λch H' h=>?_)) rfl;obtain⟨⟨x',hx'⟩,rfl⟩:=h;cases hx';refine gac ?_;refine oS (S.appB1 (q:=(b,.cells 69 [ptr b 0,.atom v])) (l:=l) (m:=m) rfl hacc rfl zo λv' H' hacc'=>?_) rfl;refine gaa ?_;have hacc2:=hacc';generalize l++m=lm at hacc' hacc2 ⊢
 cases hacc' with
 |nil=>
  refine gab ?_
  exact rR rfl (rC (zrt rfl) (zra rfl)) zhr ⟨⟨_,rfl⟩,ptr b 0,_,_,.inr rfl,hacc2,rfl⟩
 |row h0 h1 h2=>
  refine gab ?_;exact rR rfl (rC (zrt rfl) (zra rfl)) zhr ⟨⟨_,rfl⟩,ptr b 0,_,_,.inr rfl,hacc2,rfl⟩
 obtain⟨⟨x',hx'⟩,_⟩:=h;cases hx'
end
open Go Go.Shelf Go.RowKit
section
variable{P:Program}{ρ:Ren}
set_option maxHeartbeats 4000000 in
set_option maxRecDepth 100000 in
theorem qgU(L:Lays.n169 P ρ)(X:Builder.Extra P ρ)(b g:Nat)(p:Value)(l:List UInt8)(cur:Array Value)(w:World)(hbk:w.heap[b]? = some (.cells #[p,.slice (some ⟨g,0,none⟩) l.length cur.size] (ρ.t 72) (0,0)))
  (hg:w.heap[g]? = some (.cells cur (ρ.t 5) (0,0))) (h0:l≠[]) (hn:l.length<=cur.size) (hbig:l.length<=9223372036854775807) (hcell:∀ (j:Nat) (x:UInt8),l[j]? = some x->cur[j]? = some (.int .u8 x.toNat)) :
  Calls P (ρ.f 169) #[.pointer (some ⟨b,0,none⟩)] w λe w'=>e=.returned (.string ⟨l.toArray⟩)/\w'=w.drew.freeze ⟨g,0,none⟩ l.length:=by
 have hl0:l.length≠0:=by simpa using h0
 have c1:w.drew.cell? ⟨b,1,none⟩=some (.slice (some ⟨g,0,none⟩) l.length cur.size):=by
  have:w.drew.heap[b]? = some (.cells #[p,.slice (some ⟨g,0,none⟩) l.length cur.size] (ρ.t 72) (0,0)):=hbk;rw[Lib.cell_of_heap this];rfl
 have hSD:(Builtin.unsafeSliceData_ #[(ρ.t 37)] (ρ.t 127) #[.slice (some ⟨g,0,none⟩) l.length cur.size]).run P w.drew=.ok (.pointer (some ⟨g,0,none⟩)) w.drew:=
  Lib.run_unsafeSliceData_row _ _ _ _ _ _ (by omega)
 have hUS:(Builtin.unsafeString_ #[(ρ.t 127),(ρ.t 3)] (ρ.t 9) #[.pointer (some ⟨g,0,none⟩),.int .i64 l.length]).run P w.drew=.ok (.string ⟨l.toArray⟩) (w.drew.freeze ⟨g,0,none⟩ l.length):=by
  refine Lib.run_unsafeString_row w.drew (ρ.t 127) (ρ.t 3) (ρ.t 9) (ρ.t 5) L.t127 X.cellsByte g cur.size (by have hg':w.drew.heap[g]? = some (.cells cur (ρ.t 5) (0,0)):=hg;simp[World.shape?,hg']) l h0 hn hbig ?_;intro j x hx;have hg':w.drew.heap[g]? = some (.cells cur (ρ.t 5) (0,0)):=hg;have:=hcell j x hx;rw[Go.GL.add_mk];simp[World.cell?,hg',this]
 have mixed:=L.mixed;have t72:=L.t72;have a72:=L.a72;have z72:=L.z72;have v72:=L.v72;have u72:=run_underlying L.t72;have t70:=L.t70;have a70:=L.a70;have z70:=L.z70;have v70:=L.v70;have u70:=run_underlying L.t70;have t37:=L.t37;have a37:=L.a37;have z37:=L.z37;have v37:=L.v37;have u37:=run_underlying L.t37;have t127:=L.t127;have a127:=L.a127;have z127:=L.z127;have v127:=L.v127;have u127:=run_underlying L.t127;have t3:=L.t3;have a3:=L.a3;have z3:=L.z3;have v3:=L.v3;have u3:=run_underlying L.t3;have t9:=L.t9;have a9:=L.a9;have z9:=L.z9;have v9:=L.v9;have u9:=run_underlying L.t9;have t5:=X.t5;have a5:=X.a5;have z5:=X.z5;have v5:=X.v5;have u5:=run_underlying X.t5
 go_enter L.f169,Body.n169_ntmps ρ
 go_wp2
 go_region_o
 all_goals (go_wp2;go_ret;exact⟨rfl,rfl⟩)
end
open Go.GL Go.Stele
theorem qsl:Lays.n169 Tryz.prog Tryz.lays156_ren:={ Tryz.lays156 with }
section
variable{B0:Nat}{w0:World}
theorem qt6{C:Ctx}{w:World}{L:Live}{H:Heap}(hH:RelH C w L H){g n:Nat}(hm:g∈keys H)(hb:C.B0<=g):Fr (keys H) w L (w.drew.freeze ⟨g,0,none⟩ n) L []/\RelH C (w.drew.freeze ⟨g,0,none⟩ n) L []:=by
 have hbl:∀ c,c≠g->(w.drew.freeze ⟨g,0,none⟩ n).heap[c]? = w.heap[c]? := λc hc=>by
  unfold World.freeze;split;rfl;simp only[Array.getElem?_modify];rw[if_neg (Ne.symm hc)];rfl
 have hsz:(w.drew.freeze ⟨g,0,none⟩ n).heap.size=w.heap.size:=by
  unfold World.freeze;split;rfl
  simp
 have hsh:∀ c,(w.drew.freeze ⟨g,0,none⟩ n).shape? c=w.shape? c:=λc=>by
  by_cases hc:c=g
  subst hc;unfold World.freeze;split;rfl;simp only[World.shape?,Array.getElem?_modify,if_true];show(match Option.map _ w.heap[c]? with|some (Obj.cells c e _)=>some (e,c.size)|_=>none)=_
  cases w.heap[c]? with
  |none=>rfl
  |some o=>cases o <;> rfl
  exact qbK (hbl c hc)
 have hce:∀ c i,(w.drew.freeze ⟨g,0,none⟩ n).cell? ⟨c,i,none⟩=w.cell? ⟨c,i,none⟩:=λc i=>by
  by_cases hc:c=g
  subst hc;unfold World.freeze;split;rfl;simp only[World.cell?,Array.getElem?_modify,if_true];show(match Option.map _ w.heap[c]? with|some (Obj.cells c e _)=>_|_=>none)=_
  cases w.heap[c]? with
  |none=>rfl
  |some o=>cases o <;> rfl
  exact cell_of_heap (hbl c hc) i
 have hos:(w.drew.freeze ⟨g,0,none⟩ n).os=w.os/\(w.drew.freeze ⟨g,0,none⟩ n).tape=w.tape/\(w.drew.freeze ⟨g,0,none⟩ n).output=w.output:=by
  unfold World.freeze;split <;> exact⟨rfl,rfl,rfl⟩
 exact⟨⟨hos.1,hos.2.1,hos.2.2,⟨Nat.le_of_eq hsz.symm,λc _=>hsh c,λc i _=>hce c i,λ_=>zNr _⟩,λc _ hc=>hbl c (λh=>hc (h▸hm)),λ_ _ _=>rfl,by simp⟩,
  ⟨hH.base.trans ⟨hos.1,hos.2.1,hos.2.2,Nat.le_of_eq hsz.symm,λc hc=>hbl c zo⟩,hH.lbase,by rw[hsz];exact hH.b0,λc hc=>hH.wf c (by rw[hsz] at hc;exact hc),List.nodup_nil,by simp⟩⟩
theorem qgL(b:Nat)(l:List UInt8)(H:Heap)(hB:BH b l H)(hlen:l.length<=10000000000):LCalls (KC B0 w0) 29 [ptr b 0] H (Ret (str l)):=λxs w L hv hH=>by
 obtain⟨p,v,Hv,hp,hacc,rfl⟩:=hB;simp only[RepL] at hv;obtain⟨y,ys,rfl,hy,rfl⟩:=hv;simp only[Rep] at hy;subst hy;obtain⟨hb0,hbs,hl,zs,hx1,hx2⟩:=hH.objs _ zMs;simp only at hb0 hbs hl hx1 hx2;simp only[RepL] at hx2;obtain⟨a,as1,rfl,ha,c,as2,rfl,hc,rfl⟩:=hx2;simp only[Rep] at hc;subst hc
 cases hacc with
 |nil=>
  refine(Any.Builder_String_nil (P:=Tryz.prog) qsl Tryz.Builder_Extra_156 w.heap.size b a w hx1).mono λe w' he=>?_;obtain⟨rfl,hb⟩:=he;obtain⟨h1,h2⟩:=qiY (hH.sub (List.nil_sublist _)) hb
  exact⟨str [],[],L,h1.wide (by simp),h2,qai,rfl,rfl⟩
 |row h0 h1 h2=>
  rename_i g xs
  obtain⟨hg0,hgs,hgl,ws,hw1,hw2⟩:=hH.objs _ (zMo _ (List.mem_singleton.2 rfl));simp only at hg0 hgs hgl hw1;have:=qct hw2;subst this
  have hcell:∀ (j:Nat) (x:UInt8),l[j]? = some x->ws.toArray[j]? = some (Value.int .u8 x.toNat):=λj x hx=>by
   have hj:(bytV l)[j]? = some (Value.int .u8 x.toNat):=by simp[bytV,hx]
   rw[<-h2,List.getElem?_take] at hj;split at hj;simpa using hj;cases hj
  refine(qgU (P:=Tryz.prog) qsl Tryz.Builder_Extra_156 b g a l ws.toArray w hx1 hw1 h0 (by simpa using h1) zo hcell).mono λe w' he=>?_;obtain⟨rfl,rfl⟩:=he;obtain⟨f1,f2⟩:=qt6 (n:=l.length) hH (g:=g) (by simp) hg0;exact⟨str l,[],L,f1,f2,qai,rfl,rfl⟩
end
attribute [local irreducible] LOps qag qae LCalls Go.GL.Pure qax qam qad LQ LAny qaJ qan qdu qfs qdh qxk qfz
def lvs:List (List (List UInt8)):=[qb1 0,qb1 1,qb1 2,qb1 3,qb1 4,qb1 5]
theorem qvV(q:Nat)(h:q<6):qmo lvs q=[int .i64 (((5-q:Nat):Int)),.list ((qb1 (5-q)).map str)]:=by
 have:q=0∨q=1∨q=2∨q=3∨q=4∨q=5:=by omega
 rcases this with rfl|rfl|rfl|rfl|rfl|rfl <;> rfl
theorem qdh.mkRet{C:Ctx}{n:Nat}{e:Env}{H H':Heap}{R:LRes->Heap->Prop}{rs:List ResultVar}{vs:List LV}{D:Nat}(hd:e.ds=[{ target:=.collected D,args:=#[] }])(F:Heap)(hp:H.Perm ((D,.obj (.deferred (some [])))::F))(h:qbW C n e F rs vs)(hH:HSub H' F)(hR:R (.ret (qbI vs)) H') :
  qdh C n rs R .ret e H:=by
 unfold qdh;exact⟨D,F,hd,hp,vs,H',h,hH,hR⟩
theorem qdh.mkPanic{C:Ctx}{n:Nat}{e:Env}{H H':Heap}{R:LRes->Heap->Prop}{rs:List ResultVar}{ch:List PanicEntry}{D:Nat}(hd:e.ds=[{ target:=.collected D,args:=#[] }])(F:Heap)(hp:H.Perm ((D,.obj (.deferred (some [])))::F))(hH:HSub H' F)(hR:R (.panic ch) H') :
  qdh C n rs R (.panic ch) e H:=by
 unfold qdh;exact .inr ⟨D,F,hd,hp,H',hH,hR⟩
section
variable{B0:Nat}{w0:World}
theorem qd6(sb:Nat)(T:List Tok)(f:Nat)(hC:CloC B0 w0 sb T f):qlZ B0 w0 sb T f:=by
 intro i op r hi ho hr;refine LCalls.introM Tryz.func199 rfl (n:=20) rfl rfl rfl ?_;refine gah ?_;refine oS (sB rfl λb1=>?_) rfl;refine oS (sA λb2=>?_) rfl;refine gab ?_;refine oS (sA λb3=>?_) rfl;refine gab ?_;refine oS (sF [] rfl qoG ?_) rfl;refine oS (S.call0 [_] rfl (qlC qhj) (λv H' h=>?_) (λch H' h=>?_)) rfl
 ·obtain⟨bB,h,rfl⟩:=h;cases h;refine gaa ?_;have hexit:∀ (first caps:Array Value) (fn:FuncId) (Hclo F:Heap),Clo sb 0 fn first caps Hclo->TEnter Tryz.prog fn:=λ_ _ _ _ _ h=>h.enter
  refine qag.rangeFunc (g:=.tmp 9) (ps:=[10,11]) (caps:=#[.pointer (some ⟨bB,0,none⟩)]) (by rfl) lvs.length (qmo lvs)
   [(b3,.cells 213 [.atom (.func (.func 231) #[.pointer (some ⟨sb,0,none⟩)] #[])]),(b2,.cells 202 [str [],int .u32 0,str [],qab]),(b1,.cells 80 [ptr sb 0]),srcH sb T i op] [(bB,.cells 197 [.list qhj])]
   (perm_append_singleton _ _).symm (qsZ bB lvs zDd) (λk hk=>by rw[qvV k hk];rfl) (by rfl)
   (λq Hq=>∃ (fn:FuncId) (first caps:Array Value) (Hclo:Heap),Clo sb (6-q) fn first caps Hclo/\Hq=(b3,.cells 213 [.atom (.func (.func fn) first caps)])::(b2,.cells 202 [str [],int .u32 0,str [],qab])::(b1,.cells 80 [ptr sb 0])::srcH sb T i op::Hclo)
   ⟨_,_,_,[],.un,rfl⟩ ?_ ?_
  rintro q Hq hq ⟨fn,first,caps,Hclo,hclo,rfl⟩ j hjd hja l D o oD;have hq6:q<6:=hq;have hj1:j.s 1=ptr b1 0:=hja 1 _ rfl;have hj3:j.s 3=ptr b3 0:=hja 3 _ rfl
  rw[qvV q hq6,<-Env.slots_self (e:=j) (l:=[(1,ptr b1 0),(3,ptr b3 0)]) (by
   intro p hp;simp only[zMi,not_mem_nil,or_false] at hp;rcases hp with rfl|rfl;exact hj1
   exact hj3)]
  refine qdu.seq ?_;refine qdu.region rfl ?_;refine gaf ?_;refine qdu.region rfl ?_;refine gad ?_;refine⟨hjd,_,rfl,λo'=>?_⟩;refine qdu.block ?_;refine qdu.region rfl ?_;refine gad ?_;refine oS (S.call0 [_,_,_,_] rfl (qgH sb ((qb1 (5-q)).map str) (decide (((5-q:Nat):Int)=2)) fn first caps) (λv H' h=>?_) (λch H' h=>?_)) rfl;obtain⟨bo,bs,bp,bn,h,rfl⟩:=h;cases h;refine gad ?_
  refine⟨(b3,.cells 213 [.atom (.func (.func 257) #[] #[.pointer (some ⟨bo,0,none⟩),.pointer (some ⟨bs,0,none⟩),.pointer (some ⟨bp,0,none⟩),.pointer (some ⟨bn,0,none⟩)])])::(b2,.cells 202 [str [],int .u32 0,str [],qab])::(b1,.cells 80 [ptr sb 0])::srcH sb T i op ::
   (bo,.cells 213 [.atom (.func (.func fn) first caps)])::(bs,.cells 80 [ptr sb 0])::(bp,.cells 32 [.list ((qb1 (5-q)).map str)])::(bn,.cells 4 [bool (decide (((5-q:Nat):Int)=2))])::Hclo,?_,_,_,_,_,?_,rfl⟩
  exact zhP zp5 (zhP zp5 (zhP pH (zhP zp4 (zhP zp4 (zhP zp4 zhr)))));have e1:6-(q+1)=5-q:=by omega
  have e2:6-q=5-q+1:=by omega
  rw[e1];rw[e2] at hclo;exact .bin hclo;obtain⟨_,_,_,_,h,_⟩:=h;cases h;rintro D H' ⟨fn,first,caps,Hclo,hclo,rfl⟩;have hclo0:Clo sb 0 fn first caps Hclo:=hclo
  have hen:=hexit _ _ _ _ [] hclo0;refine gaa ?_;refine cW (H':=(D,.obj (.deferred (some [])))::(b3,.cells 213 [.atom (.func (.func fn) first caps)])::(b2,.cells 202 [str [],int .u32 0,str [],qab])::(b1,.cells 80 [ptr sb 0])::srcH sb T i op::Hclo) ⟨[(bB,.cells 197 [.list qhj])],List.Perm.refl _⟩ ?_;refine gab ?_;refine oS (S.callClo (F:=[(D,.obj (.deferred (some []))),(b3,.cells 213 [.atom (.func (.func fn) first caps)]),(b2,.cells 202 [str [],int .u32 0,str [],qab]),(b1,.cells 80 [ptr sb 0])]) (Hc:=Hclo) rfl zp4 (hC _ _ _ _ _ _ _ r hclo0 hi ho hr) (λv i1 op1 h1=>?_) (λl er i1 op1 h1 e' he'=>?_)) rfl;refine gad ?_;exact qdh.mkRet rfl _ zp2 (rC (rA rfl zm0 rfl zsr) rN) (zhP zp1 zhn) (by rw[h1];exact⟨rfl,rfl⟩);refine gak ?_;refine qdh.mkPanic (he'.trans rfl) (srcH sb T i1 op1::(Hclo++[(b3,.cells 213 [.atom (.func (.func fn) first caps)]),(b2,.cells 202 [str [],int .u32 0,str [],qab]),(b1,.cells 80 [ptr sb 0])])) ?_ zhp (by rw[h1];exact⟨rfl,i1,op1,rfl⟩);exact(List.Perm.cons _ List.perm_middle).trans (List.Perm.swap _ _ _)
 obtain⟨bB,h,_⟩:=h;cases h
theorem qlH(hG:GW B0 w0)(sb:Nat)(T:List Tok)(hT:TOK T):∀ f:Nat,CloC B0 w0 sb T f/\qlZ B0 w0 sb T f:=by
 intro f
 induction f using Nat.strongRecOn with
 |_ f ih=>
  have hC:CloC B0 w0 sb T f:=by
   intro k fn first caps Hc i op r hclo hi ho hr
   cases hclo with
   |un=>
    obtain⟨f,rfl⟩:∃ g,f=g+1:=by
     cases f with
     |zero=>rw[eLev] at hr;cases hr
     |succ g=>exact⟨g,rfl⟩
    rw[eLev,if_pos rfl] at hr;refine LCalls.mono (qqU hG sb T hT f (λg hg=>(ih g zo).2) i op r hi ho hr) ?_;intro r' H h
    cases r with
    |ok v i' op'=>exact h
    |err l e=>exact h
   |bin h=>exact qvH hG sb T hT f (λg hg=>(ih g hg).1) _ _ _ _ _ _ _ _ _ h i op r hi ho hr
  exact⟨hC,qd6 sb T f hC⟩
end
def qxK(l:List Sm):LV:=.list (l.map encS)
section
variable{B0:Nat}{w0:World}
def qrK(B0:Nat)(w0:World)(sb:Nat)(T:List Tok)(f:Nat):Prop:=
 ∀ i op r,i<=T.length->op<=100->qci T f i op=some r->LCalls (KC B0 w0) 200 [ptr sb 0] [srcH sb T i op] (qdx sb T qxK r)
def qtm(B0:Nat)(w0:World)(sb:Nat)(T:List Tok)(f:Nat):Prop:=
 ∀ i op r,i<=T.length->op<=100->qbQ T f [] i op=some r->LCalls (KC B0 w0) 127 [ptr sb 0] [srcH sb T i op] (qdx sb T qxK r)
def qwd(B0:Nat)(w0:World)(sb:Nat)(T:List Tok)(f:Nat):Prop:=
 ∀ i op r,i<=T.length->op<=100->qee T f i op=some r->LCalls (KC B0 w0) 170 [ptr sb 0] [srcH sb T i op] (qdx sb T encS r)
def qn8(B0:Nat)(w0:World)(sb:Nat)(T:List Tok)(f:Nat):Prop:=
 ∀ i op r,i<=T.length->op<=100->qbH T f i op=some r->LCalls (KC B0 w0) 201 [ptr sb 0] [srcH sb T i op] (qdx sb T encS r)
theorem qf4(sb:Nat)(T:List Tok)(hT:TOK T)(f:Nat)(hS:qtm B0 w0 sb T f):qrK B0 w0 sb T (f+1):=by
 intro i op r hi ho hr;have hl:=hT.len;rw[qci] at hr;refine zcI Tryz.func200 rfl (n:=11) rfl rfl rfl ?_;refine gap ?_;refine oS (sP [_,_] rfl pH (qcv sb T i op [123] hl zo zo) (λv i1 op1 h1=>?_) (λl er i1 op1 h1 e9 he9=>?_)) rfl;rotate_left;exact zT27;rw[h1,qal] at hr;obtain⟨rfl,rfl,ho1,hi1⟩:=qbB h1;refine gam ?_;obtain⟨r1,hr1⟩:=qaS hr;refine oS (sP [_] rfl pH (hS _ _ r1 zo zo hr1) (λl i2 op2 h2=>?_) (λl er i2 op2 h2 e9 he9=>?_)) rfl;rotate_left;rw[hr1,h2,qat] at hr;refine gae ?_;exact panP zb0 (by cases hr;rfl) zhp;rw[hr1,h2,qal] at hr;obtain⟨g1,_,g3,rfl⟩:=(qgI T f).2.1 _ _ _ _ (hr1.trans (congrArg some h2));have g4:=g3 zo;refine gab ?_;refine oS (sP [_,_] rfl pH (qfh sb T i2 (op+1) [125] hl zo zo zo) (λu i3 op3 h3=>?_) (λl er i3 op3 h3 e9 he9=>?_)) rfl;rotate_left;exact zT28;rw[h3,qal] at hr;refine gab ?_;exact retP (v:=l) rfl (rC (rT (v:=.list _) rfl zsr) rN) (by cases hr;rfl) rfl zhr
theorem qeC(sb:Nat)(T:List Tok)(hT:TOK T)(f:Nat)(hS:∀ g,g<f->qwd B0 w0 sb T g):qtm B0 w0 sb T f:=by
 intro i op r hi ho hr;have hl:=hT.len;refine zcI Tryz.func127 rfl (n:=14) rfl rfl rfl ?_;refine gac ?_
 refine oL (λk ls H=>∃ (v:LV) (l:List Sm) (i2:Nat) (Ha:Heap),k<=f/\ls=[(0,ptr sb 0),(3,v)]/\H=srcH sb T i2 op::Ha/\Acc 6 v (l.map encS) Ha []/\i2<=T.length/\l.length<=i2+1/\qbQ T k l i2 op=some r)
  ⟨f,_,srcH sb T i op::[],⟨qab,[],i,_,zNr _,rfl,rfl,Acc.nil,by omega,by simp,hr⟩,⟨rfl,rfl,trivial⟩,zhR _⟩ ?_
 rintro k ls H ⟨v,l,i2,Ha,hkf,rfl,rfl,hacc,hi2,hll,hI⟩ j hj
 obtain⟨k,rfl⟩:∃ k',k=k'+1:=by
  cases k with
  |zero=>rw[qbQ] at hI;cases hI
  |succ k=>exact⟨k,rfl⟩
 rw[qbQ] at hI;refine gag ?_;refine zQ0 ?_;refine oS (sH [_,_] rfl pH (qcp sb T i2 op [[125]] hl zo (by simp)) ?_) rfl;refine gad ?_;refine oC rfl (λhc=>?_) (λhc=>?_)
 ·have hc':isTok T i2 [[125]]=false:=by simpa using hc
  rw[if_neg (by rw[hc'];decide)] at hI;refine gaj ?_;refine zQ46 ?_;obtain⟨r2,hr2⟩:=qaS hI;refine oS (sP [_] rfl pH (hS k zo _ _ r2 zo zo hr2) (λe2 i4 op4 h4=>?_) (λl er i4 op4 h4 e9 he9=>?_)) rfl;rotate_left;rw[hr2,h4,qat] at hI;refine gae ?_;exact panP zb0 (by cases hI;rfl) zhp;rw[hr2,h4,qal] at hI;obtain⟨g1,g2,g3,rfl⟩:=(qgI T k).2.2.1 _ _ _ (hr2.trans (congrArg some h4));have g5:=g3 zo;have g6:=g2 rfl;refine zQ0 ?_;refine oS (S.acc1 rfl hacc rfl (by simp;rfl) rfl (by simp;omega) λv' H' hacc'=>?_) rfl;refine zQ19 ?_;refine gaa ?_;exact⟨k,_,_,by omega,⟨v',l++[e2],i4,H',by omega,rfl,rfl,by rw[zMa];exact hacc',by omega,by simp;omega,hI⟩,⟨rfl,rfl,trivial⟩,zhR _,hj⟩
 have hc':isTok T i2 [[125]]=true:=by simpa using hc
 rw[if_pos hc'] at hI;refine gac ?_;refine zQ30 ?_;exact retP (v:=l) hj (rC (rT (v:=v) rfl hacc.sub) rN) (by cases hI;rfl) rfl zhp
end
section
variable{B0:Nat}{w0:World}
theorem qwV(s:List UInt8)(l:List Ex):encS (.mk 6 [] [] [.mk qbN 0 s l] [] [])=.agg [int .i64 6,str [],.list [],.list [.agg [str qbN,int .u32 0,str s,.list (l.map encE)]],.list [],.list []]:=by
 rw[qcJ,zMc,qdZ];rfl
theorem qnX(sb:Nat)(T:List Tok)(hT:TOK T)(f:Nat)(hE:∀ g,g<=f->qlZ B0 w0 sb T g):qn8 B0 w0 sb T (f+1):=by
 intro i op r hi ho hr;have hl:=hT.len;obtain⟨gL,_,_,_,gI,gA,_⟩:=qcU T f;rw[qbH] at hr;refine zcI Tryz.func201 rfl (n:=46) rfl rfl rfl ?_;refine gah ?_;refine oS (sA λb2=>?_) rfl;refine gac ?_;refine oS (sH [_,_] rfl zp1 (qcC sb T i op qpS hl zo) ?_) rfl;refine gaf ?_;refine oC rfl (λhc=>?_) (λhc=>?_)
 ·have hlt:=qaK hc;rw[if_pos hc] at hr;simp only[hc,if_true];refine gag ?_;obtain⟨r1,hr1⟩:=qaS hr;refine oS (sP [_] rfl pH (hE f zo _ _ r1 zo zo hr1) (λv i1 op1 h1=>?_) (λl er i1 op1 h1 e9 he9=>?_)) rfl;rotate_left;exact zT22;rw[hr1,h1,qal] at hr;refine zQ0 ?_;refine gad ?_;exact retP (v:=.mk 5 [] [] [v] [] []) rfl (rC (rA (k:=6) rfl zm0 rfl (vA (bs:=[_,_,.list [],_,.list [],.list []]) ⟨vR _,vR _,vN,vR _,vN,vN,trivial⟩)) rN) (by cases hr;rfl) (by rw[qcJ];rfl) (zhP zp1 zhn)
 rw[if_neg (by rw[hc];decide)] at hr;simp only[hc,Bool.false_eq_true,if_false];refine gag ?_;refine oS (sH [_,_] rfl pH (qcC sb T i op qv1 hl zo) ?_) rfl;refine gaf ?_;refine oC rfl (λhc2=>?_) (λhc2=>?_);have hlt:=qaK hc2;rw[if_pos hc2] at hr;simp only[hc2,if_true];refine gab ?_;exact retP (v:=.mk 7 [] [] [] [] []) rfl (rC (rA (k:=6) rfl zm0 rfl (vA (bs:=[_,_,.list [],.list [],.list [],.list []]) ⟨vR _,vR _,vN,vN,vN,vN,trivial⟩)) rN) (by cases hr;rfl) (by rw[qcJ];rfl) (zhP zp1 zhn);rw[if_neg (by rw[hc2];decide)] at hr;simp only[hc2,Bool.false_eq_true,if_false];refine gac ?_;refine oS (sP [_,_] rfl pH (qaQ sb T i op 2 hl zo) (λs i1 op1 h1=>?_) (λl er i1 op1 h1 e9 he9=>?_)) rfl;rotate_left;exact zT27;rw[h1,qal] at hr;obtain⟨rfl,rfl,t,ht,_,_⟩:=qdP h1;have:=qjX ht;refine gab ?_;refine oS (sA λb4=>?_) rfl;refine gab ?_;refine zQ0 ?_;refine oS (sH [_,_] rfl zp1 (qcp sb T (i+1) op1 [[40]] hl zo (by simp)) ?_) rfl;refine gaf ?_;refine oC rfl (λhc3=>?_) (λhc3=>?_)
 ·rw[if_pos hc3] at hr;refine gag ?_;obtain⟨r1,hr1⟩:=qaS hr;refine oS (sP [_] rfl pH (qmP sb T hT f (λg hg=>hE g zo) (i+1) op1 r1 zo zo hr1) (λl i2 op2 h2=>?_) (λl er i2 op2 h2 e9 he9=>?_)) rfl;rotate_left;rw[hr1,h2,qat] at hr;refine gae ?_;exact panP zb0 (by cases hr;rfl) zhp;rw[hr1,h2,qal] at hr;refine gad ?_;refine zQ0 ?_;refine gad ?_;exact retP (v:=.mk 6 [] [] [.mk qbN 0 s l] [] []) rfl (rC (rA (k:=6) rfl zm0 rfl (vA (bs:=[_,_,.list [],_,.list [],.list []]) ⟨vR _,vR _,vN,vR _,vN,vN,trivial⟩)) rN) (by cases hr;rfl) (by rw[qwV];rfl) (zhP zp1 zhn)
 rw[if_neg (by rw[hc3];decide)] at hr;refine gag ?_;refine zQ0 ?_;refine oS (sH [_,_] rfl pH (qcp sb T (i+1) op1 [[91]] hl zo (by simp)) ?_) rfl;refine gaf ?_;refine oC rfl (λhc4=>?_) (λhc4=>?_)
 ·rw[if_pos hc4] at hr;refine gag ?_;obtain⟨r1,hr1⟩:=qaS hr;refine oS (sP [_] rfl pH (qjs sb T hT f (λg hg=>hE g zo) (i+1) op1 r1 zo zo hr1) (λx i2 op2 h2=>?_) (λl er i2 op2 h2 e9 he9=>?_)) rfl;rotate_left;rw[hr1,h2,qat] at hr;refine gae ?_;exact panP zb0 (by cases hr;rfl) zhp;rw[hr1,h2,qal] at hr;obtain⟨q1,q2,q3,rfl⟩:=gI _ _ _ (hr1.trans (congrArg some h2));have q4:=q3 zo;refine zQ0 ?_;refine gab ?_;refine oS (sP [_,_] rfl zp1 (qdX sb T i2 op2 [61] hl zo) (λu i3 op3 h3=>?_) (λl er i3 op3 h3 e9 he9=>?_)) rfl;rotate_left;exact zT28;rw[h3,qal] at hr;have hg3:=qbg T [61] i2 op2;rw[h3] at hg3;obtain⟨k1,k2,k3,rfl⟩:=hg3;have k4:=k3 q4;refine gam ?_;obtain⟨r2,hr2⟩:=qaS hr;refine oS (sP [_] rfl pH (hE f zo _ _ r2 zo zo hr2) (λv i4 op4 h4=>?_) (λl er i4 op4 h4 e9 he9=>?_)) rfl;rotate_left;rw[hr2,h4,qat] at hr;refine gae ?_;exact panP zb0 (by cases hr;rfl) zhp;rw[hr2,h4,qal] at hr;refine zQ0 ?_;refine gab ?_;exact retP (v:=.mk 2 s [x] [v] [] []) rfl (rC (rA (k:=6) rfl zm0 rfl (vA (bs:=[_,_,_,_,.list [],.list []]) ⟨vR _,vR _,vR _,vR _,vN,vN,trivial⟩)) rN) (by cases hr;rfl) (by rw[qcJ];rfl) (zhP zp2 zhn)
 rw[if_neg (by rw[hc4];decide)] at hr;refine gac ?_;refine oS (sP [_,_] rfl pH (qdX sb T (i+1) op1 [61] hl zo) (λu i3 op3 h3=>?_) (λl er i3 op3 h3 e9 he9=>?_)) rfl;rotate_left;exact zT28;rw[h3,qal] at hr;have hg3:=qbg T [61] (i+1) op1;rw[h3] at hg3;obtain⟨k1,k2,k3,rfl⟩:=hg3;have k4:=k3 zo;refine gam ?_;obtain⟨r2,hr2⟩:=qaS hr;refine oS (sP [_] rfl pH (hE f zo _ _ r2 zo zo hr2) (λv i4 op4 h4=>?_) (λl er i4 op4 h4 e9 he9=>?_)) rfl;rotate_left;rw[hr2,h4,qat] at hr;refine gae ?_;exact panP zb0 (by cases hr;rfl) zhp;rw[hr2,h4,qal] at hr;refine zQ0 ?_;refine gab ?_;exact retP (v:=.mk 1 s [] [v] [] []) rfl (rC (rA (k:=6) rfl zm0 rfl (vA (bs:=[_,_,.list [],_,.list [],.list []]) ⟨vR _,vR _,vN,vR _,vN,vN,trivial⟩)) rN) (by cases hr;rfl) (by rw[qcJ];rfl) (zhP zp2 zhn)
theorem qhD(sb:Nat)(T:List Tok)(hT:TOK T)(f:Nat)(hE:∀ g,g<=f->qlZ B0 w0 sb T g)(hB:qrK B0 w0 sb T f)(hM:qn8 B0 w0 sb T f):qwd B0 w0 sb T (f+1):=by
 intro i op r hi ho hr;have hl:=hT.len;obtain⟨gL,_,_,_,gI,gA,_⟩:=qcU T f;obtain⟨kB,kL,kS,kM⟩:=qgI T f;rw[qee] at hr;refine zcI Tryz.func170 rfl (n:=38) rfl rfl rfl ?_;refine gah ?_;refine oS (sA λb2=>?_) rfl;refine gac ?_;refine oS (sH [_,_] rfl zp1 (qcC sb T i op kwIf hl zo) ?_) rfl;refine gaf ?_;refine oC rfl (λhc=>?_) (λhc=>?_)
 ·have hlt:=qaK hc;rw[if_pos hc] at hr;simp only[hc,if_true];refine gag ?_;obtain⟨r1,hr1⟩:=qaS hr;refine oS (sP [_] rfl pH (hE f zo _ _ r1 zo zo hr1) (λv i1 op1 h1=>?_) (λl er i1 op1 h1 e9 he9=>?_)) rfl;rotate_left;exact zT22;rw[hr1,h1,qal] at hr;obtain⟨g1,g2,g3,rfl⟩:=gL 0 _ _ _ (hr1.trans (congrArg some h1));have g4:=g3 zo;refine zQ0 ?_;refine gad ?_;refine oS (sA λb3=>?_) rfl;refine gab ?_;obtain⟨r2,hr2⟩:=qaS hr;refine oS (sP [_] rfl zp1 (hB _ _ r2 zo zo hr2) (λth i2 op2 h2=>?_) (λl er i2 op2 h2 e9 he9=>?_)) rfl;rotate_left;rw[hr2,h2,qat] at hr;refine gae ?_;exact panP zb0 (by cases hr;rfl) zhp;rw[hr2,h2,qal] at hr;obtain⟨q1,q2,q3,rfl⟩:=kB _ _ _ (hr2.trans (congrArg some h2));have q4:=q3 zo;refine gab ?_;refine oS (sH [_,_] rfl zp1 (qcC sb T i2 op2 qvT hl zo) ?_) rfl;refine gaf ?_;refine oC rfl (λhc2=>?_) (λhc2=>?_)
  ·have hlt2:=qaK hc2;rw[if_pos hc2] at hr;simp only[hc2,if_true];refine gag ?_;obtain⟨r3,hr3⟩:=qaS hr;refine oS (sP [_] rfl pH (hB _ _ r3 zo zo hr3) (λel i3 op3 h3=>?_) (λl er i3 op3 h3 e9 he9=>?_)) rfl;rotate_left;rw[hr3,h3,qat] at hr;refine gae ?_;exact panP zb0 (by cases hr;rfl) zhp;rw[hr3,h3,qal] at hr;refine gab ?_;exact retP (v:=.mk 3 [] [] [v] th el) rfl (rC (rA (k:=6) rfl zm0 rfl (vA (bs:=[_,_,.list [],_,_,_]) ⟨vR _,vR _,vN,vR _,vR _,vR _,trivial⟩)) rN) (by cases hr;rfl) (by rw[qcJ];rfl) (zhP zp2 zhn)
  rw[if_neg (by rw[hc2];decide)] at hr;simp only[hc2,Bool.false_eq_true,if_false];refine gab ?_;exact retP (v:=.mk 3 [] [] [v] th []) rfl (rC (rA (k:=6) rfl zm0 rfl (vA (bs:=[_,_,.list [],_,_,.list []]) ⟨vR _,vR _,vN,vR _,vR _,vN,trivial⟩)) rN) (by cases hr;rfl) (by rw[qcJ];rfl) (zhP zp1 zhn)
 rw[if_neg (by rw[hc];decide)] at hr;simp only[hc,Bool.false_eq_true,if_false];refine gag ?_;refine oS (sH [_,_] rfl pH (qcC sb T i op qsX hl zo) ?_) rfl;refine gaf ?_;refine oC rfl (λhc2=>?_) (λhc2=>?_)
 ·have hlt:=qaK hc2;rw[if_pos hc2] at hr;simp only[hc2,if_true];refine gag ?_;obtain⟨r1,hr1⟩:=qaS hr;refine oS (sP [_] rfl pH (hE f zo _ _ r1 zo zo hr1) (λv i1 op1 h1=>?_) (λl er i1 op1 h1 e9 he9=>?_)) rfl;rotate_left;exact zT22;rw[hr1,h1,qal] at hr;obtain⟨g1,g2,g3,rfl⟩:=gL 0 _ _ _ (hr1.trans (congrArg some h1));have g4:=g3 zo;refine zQ0 ?_;refine gad ?_;refine oS (sA λb3=>?_) rfl;refine gab ?_;obtain⟨r2,hr2⟩:=qaS hr;refine oS (sP [_] rfl zp1 (hB _ _ r2 zo zo hr2) (λth i2 op2 h2=>?_) (λl er i2 op2 h2 e9 he9=>?_)) rfl;rotate_left;rw[hr2,h2,qat] at hr;refine gae ?_;exact panP zb0 (by cases hr;rfl) zhp;rw[hr2,h2,qal] at hr;refine gab ?_;exact retP (v:=.mk 4 [] [] [v] th []) rfl (rC (rA (k:=6) rfl zm0 rfl (vA (bs:=[_,_,.list [],_,_,.list []]) ⟨vR _,vR _,vN,vR _,vR _,vN,trivial⟩)) rN) (by cases hr;rfl) (by rw[qcJ];rfl) (zhP zp2 zhn)
 rw[if_neg (by rw[hc2];decide)] at hr;simp only[hc2,Bool.false_eq_true,if_false];refine gac ?_;obtain⟨r1,hr1⟩:=qaS hr;refine oS (sP [_] rfl pH (hM _ _ r1 zo zo hr1) (λv i1 op1 h1=>?_) (λl er i1 op1 h1 e9 he9=>?_)) rfl;rotate_left;exact zT22;rw[hr1,h1,qal] at hr;obtain⟨g1,g2,g3,rfl⟩:=kM _ _ _ (hr1.trans (congrArg some h1));have g4:=g3 zo;refine oS (sA λb5=>?_) rfl;refine gab ?_;refine oS (sP [_,_] rfl zp1 (qdX sb T i1 op1 [59] hl zo) (λu i2 op2 h2=>?_) (λl er i2 op2 h2 e9 he9=>?_)) rfl;rotate_left;rw[h2,qat] at hr;refine gae ?_;exact panP zb0 (by cases hr;rfl) zhp;rw[h2,qal] at hr;refine gab ?_;exact retP (v:=v) rfl (rC (rA rfl zm0 rfl zsr) rN) (by cases hr;rfl) rfl (zhP zp1 zhn)
theorem qyw(hG:GW B0 w0)(sb:Nat)(T:List Tok)(hT:TOK T):∀ f:Nat,qrK B0 w0 sb T f/\qtm B0 w0 sb T f/\qwd B0 w0 sb T f/\qn8 B0 w0 sb T f:=by
 intro f
 induction f using Nat.strongRecOn with
 |_ f ih=>
  have hE:=λg=>(qlH (B0:=B0) (w0:=w0) hG sb T hT g).2
  cases f with
  |zero=>
   refine⟨?_,qeC sb T hT 0 (λg hg=>by omega),?_,?_⟩;intro i op r _ _ hr;rw[qci] at hr;cases hr;intro i op r _ _ hr;rw[qee] at hr;cases hr
   intro i op r _ _ hr;rw[qbH] at hr;cases hr
  |succ f=>
   have h:=ih f zo;exact⟨qf4 sb T hT f h.2.1,qeC sb T hT _ (λg hg=>(ih g hg).2.2.1),qhD sb T hT f (λg _=>hE g) h.1 h.2.2.2,qnX sb T hT f (λg _=>hE g)⟩
end
theorem qhy(T:List Tok):∀ (f:Nat) (acc:List (List UInt8)) (i op:Nat) (l:List (List UInt8)) (i' op':Nat),qaR T f acc i op=some (.ok l i' op')->l.length+i<=acc.length+i'
 |0,_,_,_,_,_,_,h=>by rw[qaR] at h;cases h
 |f+1,acc,i,op,l,i',op',h=>by
  rw[qaR] at h;split at h;rcases qaz h with⟨s,i1,op1,h1,h2⟩|⟨l,e,_,hh⟩;injection h1 with h1;obtain⟨rfl,rfl,_⟩:=qdP h1;have:=qhy T f _ _ _ _ _ _ h2;rw[zLa,length_singleton] at this;omega;cases hh;cases h;omega
theorem qmB{T:List Tok}{f i op:Nat}{l:List (List UInt8)}{i' op':Nat}(h:qej T f i op=some (.ok l i' op')):l.length+i<=i':=by
 unfold qej at h;rcases qaz h with⟨s,i1,op1,h1,h2⟩|⟨l,e,_,hh⟩;injection h1 with h1;obtain⟨rfl,rfl,_⟩:=qdP h1;have:=qhy T f _ _ _ _ _ _ h2;rw[length_singleton] at this;omega;cases hh
theorem ql9(T:List Tok):∀ (f:Nat) (acc:List (List UInt8)) (i op:Nat) (l:List (List UInt8)) (i' op':Nat),qcz T f acc i op=some (.ok l i' op')->l.length+i<=acc.length+i'
 |0,_,_,_,_,_,_,h=>by rw[qcz] at h;cases h
 |f+1,acc,i,op,l,i',op',h=>by
  rw[qcz] at h;split at h;rcases qaz h with⟨s,i1,op1,h1,h2⟩|⟨l,e,_,hh⟩;have:=qmB h1;rcases qaz h2 with⟨u,i2,op2,h3,h4⟩|⟨l,e,_,hh⟩;injection h3 with h3;have hg:=qbg T [59] i1 op1;rw[h3] at hg;have hv:=ql9 T f _ _ _ _ _ _ h4;have:=hg.1;rw[zLa] at hv;omega;cases hh;cases hh;cases h;omega
section
variable{B0:Nat}{w0:World}
theorem qkq(sb:Nat)(T:List Tok)(hT:TOK T)(f i op:Nat)(r:Res (List (List UInt8)))(hi:i<=T.length)(hr:qcz T f [] i op=some r) :
  LCalls (KC B0 w0) 61 [ptr sb 0] [srcH sb T i op] (qdx sb T qpp r):=by
 have hl:=hT.len;refine zcI Tryz.func61 rfl (n:=13) rfl rfl rfl ?_;refine gac ?_
 refine oL (λk ls H=>∃ (v:LV) (l:List (List UInt8)) (i2:Nat) (Ha:Heap),k<=f/\ls=[(0,ptr sb 0),(3,v)]/\H=srcH sb T i2 op::Ha/\Acc 1 v (l.map str) Ha []/\i2<=T.length/\l.length<=i2/\qcz T k l i2 op=some r)
  ⟨f,_,srcH sb T i op::[],⟨qab,[],i,_,zNr _,rfl,rfl,Acc.nil,by omega,by simp,hr⟩,⟨rfl,rfl,trivial⟩,zhR _⟩ ?_
 rintro k ls H ⟨v,l,i2,Ha,hkf,rfl,rfl,hacc,hi2,hll,hI⟩ j hj
 obtain⟨k,rfl⟩:∃ k',k=k'+1:=by
  cases k with
  |zero=>rw[qcz] at hI;cases hI
  |succ k=>exact⟨k,rfl⟩
 rw[qcz] at hI;refine gag ?_;refine oS (sH [_,_] rfl pH (qcC sb T i2 op qkI hl zo) ?_) rfl;refine gaf ?_;refine oC rfl (λhc=>?_) (λhc=>?_)
 ·have hlt:=qaK hc;rw[if_pos hc] at hI;simp only[hc,if_true];refine gaj ?_;refine zQ46 ?_;obtain⟨r2,hr2⟩:=qaS hI;refine oS (sP [_] rfl pH (qjk sb T hT k (i2+1) op r2 zo hr2) (λns i4 op4 h4=>?_) (λl er i4 op4 h4 e9 he9=>?_)) rfl;rotate_left;rw[hr2,h4,qat] at hI;refine gae ?_;exact panP zb0 (by cases hI;rfl) zhp;rw[hr2,h4,qal] at hI;obtain⟨g1,g2,g3,rfl⟩:=qcm T k _ _ _ (hr2.trans (congrArg some h4));have g5:=g3 zo;have g6:=qmB (hr2.trans (congrArg some h4));refine oS (S.acc1 (ms:=ns.map str) rfl hacc rfl (qeu ns) (qgF ns) (by simp;omega) λv' H' hacc'=>?_) rfl;refine zQ19 ?_;refine gam ?_;refine oS (sP [_,_] rfl pH (qdX sb T i4 op4 [59] hl zo) (λu i5 op5 h5=>?_) (λl er i5 op5 h5 e9 he9=>?_)) rfl;rotate_left;rw[h5,qat] at hI;refine gae ?_;exact panP zb0 (by cases hI;rfl) zhp;rw[h5,qal] at hI;have hg5:=qbg T [59] i4 op4;rw[h5] at hg5;obtain⟨k1,k2,k3,rfl⟩:=hg5;have k4:=k3 g5;refine gaa ?_;exact⟨k,_,_,by omega,⟨v',l++ns,i5,H',by omega,rfl,rfl,by rw[zMa];exact hacc',by omega,by rw[zLa];omega,hI⟩,⟨rfl,rfl,trivial⟩,zhR _,hj⟩
 rw[if_neg (by rw[hc];decide)] at hI;simp only[hc,Bool.false_eq_true,if_false];refine gac ?_;refine zQ30 ?_;exact retP (v:=l) hj (rC (rT (v:=v) rfl hacc.sub) rN) (by cases hI;rfl) rfl zhp
theorem qeN(hG:GW B0 w0)(sb:Nat)(T:List Tok)(hT:TOK T)(i op:Nat)(r:Res Ar)(hi:i<=T.length)(ho:op<=100)(hr:qey T i op=some r) :
  LCalls (KC B0 w0) 63 [ptr sb 0] [srcH sb T i op] (qdx sb T qhp r):=by
 have hl:=hT.len;unfold qey at hr;refine zcI Tryz.func63 rfl (n:=18) rfl rfl rfl ?_;refine gah ?_;refine oS (sA λb2=>?_) rfl;refine gam ?_;refine oS (sP [_,_] rfl zp1 (qaQ sb T i op 2 hl zo) (λs i1 op1 h1=>?_) (λl er i1 op1 h1 e9 he9=>?_)) rfl;rotate_left;exact zT27;rw[h1,qal] at hr;obtain⟨rfl,rfl,t,ht,_,_⟩:=qdP h1;have:=qjX ht;refine gad ?_;refine oS (sA λb3=>?_) rfl;refine gab ?_;refine oS (sP [_,_] rfl zp1 (qcv sb T (i+1) op1 [91] hl zo zo) (λv i2 op2 h2=>?_) (λl er i2 op2 h2 e9 he9=>?_)) rfl;rotate_left;rw[h2,qat] at hr;refine gae ?_;exact panP zb0 (by cases hr;rfl) zhp;rw[h2,qal] at hr;obtain⟨rfl,rfl,ho1,hi1⟩:=qbB h2;refine gam ?_;refine oS (sP [_] rfl pH (qiA hG sb T hT (i+1+1) (op1+1) zo) (λm i3 op3 h3=>?_) (λl er i3 op3 h3 e9 he9=>?_)) rfl;rotate_left;exact zT28;rw[h3,qal] at hr;have hg3:=qfQ T (i+1+1) (op1+1);rw[h3] at hg3;obtain⟨k1,k2,k3,rfl⟩:=hg3;have k4:=k3 zo
 have hm:m<=4294967295:=by
  unfold qcQ at h3;unfold Res.bind at h3;split at h3
  rename_i s2 i6 op6 h6
  cases h3;obtain⟨_,_,t6,ht6,hk6,rfl⟩:=qdP h6;obtain⟨u,hu,hp⟩:=hT.num t6 (List.mem_of_getElem? ht6) hk6;rw[qs5,hp];simp only;omega;cases h3
 have hw:IntKind.i64.wrap (m:Int)=(m:Int):=qep zo;refine gab ?_;refine oS (sP [_,_] rfl zp1 (qfh sb T i3 (op1+1) [93] hl zo zo zo) (λu i4 op4 h4=>?_) (λl er i4 op4 h4 e9 he9=>?_)) rfl;rotate_left;rw[h4,qat] at hr;refine gae ?_;exact panP zb0 (by cases hr;rfl) zhp;rw[h4,qal] at hr;obtain⟨rfl,rfl,hi4⟩:=qgM h4;refine gam ?_;refine oS (sP [_,_] rfl pH (qdX sb T (i3+1) op4 [59] hl zo) (λu2 i5 op5 h5=>?_) (λl er i5 op5 h5 e9 he9=>?_)) rfl;rotate_left;rw[h5,qat] at hr;refine gae ?_;exact panP zb0 (by cases hr;rfl) zhp;rw[h5,qal] at hr;refine gab ?_;exact retP (v:=⟨s,m⟩) rfl (rC (rA (k:=2) rfl zm0 rfl zsr) rN) (by cases hr;rfl) (by show LV.agg [str s,int .i64 (IntKind.i64.wrap m)]=qhp ⟨s,m⟩;rw[hw];rfl) (zhP zp1 zhn)
theorem qna(hG:GW B0 w0)(sb:Nat)(T:List Tok)(hT:TOK T)(f i op:Nat)(r:Res FnD)(hi:i<=T.length)(ho:op<=100)(hr:qgq T f i op=some r) :
  LCalls (KC B0 w0) 64 [ptr sb 0] [srcH sb T i op] (qdx sb T qa7 r):=by
 have hl:=hT.len;unfold qgq at hr;refine zcI Tryz.func64 rfl (n:=29) rfl rfl rfl ?_;refine gah ?_;refine oS (sA λb2=>?_) rfl;refine gam ?_;refine oS (sP [_,_] rfl zp1 (qaQ sb T i op 2 hl zo) (λs i1 op1 h1=>?_) (λl er i1 op1 h1 e9 he9=>?_)) rfl;rotate_left;exact zT27;rw[h1,qal] at hr;obtain⟨rfl,rfl,t,ht,_,_⟩:=qdP h1;have:=qjX ht;refine gad ?_;refine oS (sA λb3=>?_) rfl;refine gab ?_;refine oS (sP [_,_] rfl zp1 (qcv sb T (i+1) op1 [40] hl zo zo) (λv i2 op2 h2=>?_) (λl er i2 op2 h2 e9 he9=>?_)) rfl;rotate_left;rw[h2,qat] at hr;refine gae ?_;exact panP zb0 (by cases hr;rfl) zhp;rw[h2,qal] at hr;obtain⟨rfl,rfl,ho1,hi1⟩:=qbB h2;refine gam ?_;refine zQ0 ?_;refine oS (sH [_,_] rfl pH (qcp sb T (i+1+1) (op1+1) [[41]] hl zo (by simp)) ?_) rfl;refine gad ?_;obtain⟨r3,hr3⟩:=qaS hr
 refine qag.mid (A:=List (List UInt8)×Nat) (λ_=>[(0,ptr sb 0),(2,ptr b2 0),(3,ptr b3 0)]) (λa=>(b3,.cells 110 [str s,.list (a.1.map str),qab,qab])::srcH sb T a.2 (op1+1)::[(b2,.cells 110 [str [],qab,qab,qab])])
  (λa=>i+1+1<=a.2/\a.2<=T.length/\r3=.ok a.1 a.2 (op1+1)) ?_ ?_
 refine oC rfl (λhc=>?_) (λhc=>?_);have hc':isTok T (i+1+1) [[41]]=false:=by simpa using hc
 rw[if_neg (by rw[hc'];decide)] at hr3;refine gag ?_;refine oS (sP [_] rfl pH (qjk sb T hT f (i+1+1) (op1+1) r3 zo hr3) (λns i3 op3 h3=>?_) (λl er i3 op3 h3 e9 he9=>?_)) rfl;obtain⟨g1,g2,g3,rfl⟩:=qcm T f _ _ _ (hr3.trans (congrArg some h3));have g5:=g3 zo;refine gad ?_;exact⟨(ns,i3),⟨by omega,g5,h3⟩,⟨rfl,rfl,rfl,trivial⟩,rfl,rfl⟩;rw[if_neg (by rw[hc'];decide),hr3,h3,qat] at hr;refine gak ?_;exact panP (he9.trans rfl) (by cases hr;rfl) zhp;have hc':isTok T (i+1+1) [[41]]=true:=by simpa using hc
 rw[if_pos hc'] at hr3;cases hr3;refine qag.cellSub zp1 (cs':=[str s,.list [],qab,qab]) ⟨vR _,vN,vR _,vR _,trivial⟩ ?_;refine gaa ?_;exact⟨([],i+1+1),⟨zNr _,by omega,rfl⟩,⟨rfl,rfl,rfl,trivial⟩,rfl,rfl⟩;rintro⟨ps,i3⟩ ⟨hi3,hi3T,rfl⟩ j hj;rw[hr3,qal] at hr;refine gag ?_;refine oS (sP [_,_] rfl zp1 (qfh sb T i3 (op1+1) [41] hl zo zo zo) (λu i4 op4 h4=>?_) (λl er i4 op4 h4 e9 he9=>?_)) rfl;rotate_left;rw[h4,qat] at hr;refine gae ?_;exact panP zb0 (by cases hr;rfl) zhp;rw[h4,qal] at hr;obtain⟨rfl,rfl,hi4⟩:=qgM h4;refine gam ?_;refine oS (sP [_,_] rfl pH (qcv sb T (i3+1) op4 [123] hl zo zo) (λu2 i5 op5 h5=>?_) (λl er i5 op5 h5 e9 he9=>?_)) rfl;rotate_left;rw[h5,qat] at hr;refine gae ?_;exact panP zb0 (by cases hr;rfl) zhp;rw[h5,qal] at hr;obtain⟨rfl,rfl,ho5,hi5⟩:=qbB h5;refine gam ?_;obtain⟨r6,hr6⟩:=qaS hr;refine oS (sP [_] rfl pH (qkq sb T hT f (i3+1+1) (op4+1) r6 zo hr6) (λvs i6 op6 h6=>?_) (λl er i6 op6 h6 e9 he9=>?_)) rfl;rotate_left;rw[hr6,h6,qat] at hr;refine gae ?_;exact panP zb0 (by cases hr;rfl) zhp;rw[hr6,h6,qal] at hr;obtain⟨g1,g2,g3,rfl⟩:=qcs T f _ _ _ _ (hr6.trans (congrArg some h6));have g4:=g3 zo;refine gab ?_;obtain⟨r7,hr7⟩:=qaS hr;refine oS (sP [_] rfl zp1 ((qyw hG sb T hT f).2.1 i6 (op4+1) r7 zo zo hr7) (λss i7 op7 h7=>?_) (λl er i7 op7 h7 e9 he9=>?_)) rfl;rotate_left;rw[hr7,h7,qat] at hr;refine gae ?_;exact panP zb0 (by cases hr;rfl) zhp;rw[hr7,h7,qal] at hr;obtain⟨q1,q2,q3,rfl⟩:=(qgI T f).2.1 _ _ _ _ (hr7.trans (congrArg some h7));have q4:=q3 zo;refine gab ?_;refine oS (sP [_,_] rfl zp1 (qfh sb T i7 (op4+1) [125] hl zo zo zo) (λu3 i8 op8 h8=>?_) (λl er i8 op8 h8 e9 he9=>?_)) rfl;rotate_left;rw[h8,qat] at hr;refine gae ?_;exact panP zb0 (by cases hr;rfl) zhp;rw[h8,qal] at hr;refine gab ?_;exact retP (v:=⟨s,ps,vs,ss⟩) hj (rC (rA (k:=4) rfl zm0 rfl zsr) rN) (by cases hr;rfl) rfl (zhP zp1 zhn)
end
theorem qyE{a b c:Nat×LObj}{X Y Z:Heap}:(a::b::c::(X++(Y++Z))).Perm (X++(a::b::c::(Y++Z))):=List.perm_append_comm_assoc [a,b,c] X (Y++Z)
theorem qwY{a b c:Nat×LObj}{X Y Z:Heap}:(a::b::c::(X++(Y++Z))).Perm (Y++(a::b::c::(X++Z))):=
 (((List.perm_append_comm_assoc X Y Z).cons c).cons b |>.cons a).trans (List.perm_append_comm_assoc [a,b,c] Y (X++Z))
theorem qw4{a b c:Nat×LObj}{X Y Z:Heap}:(a::b::c::(X++(Y++Z))).Perm (Z++(a::b::c::(X++Y))):=
 ((((show(X++(Y++Z)).Perm (Z++(X++Y)) from by rw[<-zAs];exact zPc).cons c).cons b).cons a).trans (List.perm_append_comm_assoc [a,b,c] Z (X++Y))
theorem qyj{a b c:Nat×LObj}{X Y Z:Heap}:HSub (a::b::c::(X++(Y++Z))) (b::a::c::((Y++Z)++X)):=
 ⟨[],by rw[zLz];exact(List.Perm.swap _ _ _).trans ((((zPc).cons c).cons b).cons a)⟩
theorem qxv{a b c:Nat×LObj}{X Y Z:Heap}:HSub (a::b::c::(X++(Y++Z))) (b::a::c::((X++Z)++Y)):=
 ⟨[],by rw[zLz];exact(List.Perm.swap _ _ _).trans ((((show((X++Z)++Y).Perm (X++(Y++Z)) from by rw[zAs];exact zPc.append_left X).cons c).cons b).cons a)⟩
theorem qwD{a b c:Nat×LObj}{X Y Z:Heap}:HSub (a::b::c::(X++(Y++Z))) (b::a::c::((X++Y)++Z)):=
 ⟨[],by rw[zLz,zAs];exact List.Perm.swap _ _ _⟩
theorem Acc.cell{s:Nat}{v:LV}{es:List LV}{H F:Heap}(h:Acc s v es H F):v.cells? = some [v]/\[v].all qc0=true:=by
 cases h <;> exact⟨rfl,rfl⟩
section
variable{B0:Nat}{w0:World}
theorem qcn(hG:GW B0 w0)(sb:Nat)(T:List Tok)(hT:TOK T)(f:Nat)(r:Res Pr)(hr:qcN T f ⟨[],[],[]⟩ 0 0=some r) :
  LCalls (KC B0 w0) 32 [ptr sb 0] [srcH sb T 0 0] (qdx sb T qgo r):=by
 have hl:=hT.len;have hml:(T.map qdr).length=T.length:=zLm _;refine zcI Tryz.func32 rfl (n:=47) rfl rfl rfl ?_;refine gah ?_;refine oS (sA λb2=>?_) rfl;refine gai ?_;refine oS (sA λb3=>?_) rfl;refine gaa ?_
 refine oL (λk ls H=>∃ (p:Pr) (v1 v2 v3:LV) (i2:Nat) (H1 H2 H3:Heap),k<=f/\ls=[(0,ptr sb 0),(2,ptr b2 0),(3,ptr b3 0)]/\H=srcH sb T i2 0::(b3,.cells 43 [v1,v2,v3])::(b2,.cells 43 [qab,qab,qab])::(H1++(H2++H3)) /\
   Acc 1 v1 (p.vars.map str) H1 []/\Acc 2 v2 (p.arrays.map qhp) H2 []/\Acc 4 v3 (p.funcs.map qa7) H3 []/\i2<=T.length/\p.vars.length<=i2/\p.arrays.length<=i2/\p.funcs.length<=i2/\qcN T k p i2 0=some r)
  ⟨f,_,_,⟨⟨[],[],[]⟩,qab,qab,qab,0,[],[],[],zNr _,rfl,rfl,Acc.nil,Acc.nil,Acc.nil,zero_le _,zero_le _,zero_le _,zero_le _,hr⟩,⟨rfl,rfl,rfl,trivial⟩,zhP zp2 zhr⟩ ?_
 rintro k ls H ⟨p,v1,v2,v3,i2,H1,H2,H3,hkf,rfl,rfl,ha1,ha2,ha3,hi2,hl1,hl2,hl3,hI⟩ j hj
 obtain⟨k,rfl⟩:∃ k',k=k'+1:=by
  cases k with
  |zero=>rw[qcN] at hI;cases hI
  |succ k=>exact⟨k,rfl⟩
 rw[qcN] at hI;refine gaa ?_;refine zcC [(0,ptr sb 0),(2,ptr b2 0),(3,ptr b3 0),(13,bool (decide (i2<T.length)))] ?_ (λj2 hj2=>?_);refine zQ23 ?_;exact⟨⟨rfl,rfl,rfl,qau (by rw[decide_eq_decide];simp),trivial⟩,rfl,rfl⟩
 skip
 refine oC rfl (λhc=>?_) (λhc=>?_);have hlt:i2<T.length:=zt hc;rw[if_neg zo] at hI;refine gac ?_;refine zQ0 ?_;refine oS (sH [_,_] rfl pH (qcp sb T i2 0 [qkI] hl zo (by simp)) ?_) rfl;refine gaf ?_;refine oC rfl (λhv=>?_) (λhv=>?_);rw[if_pos hv] at hI;obtain⟨r2,hr2⟩:=qaS hI;refine cD (m:=7) rfl [] ?_;refine aT 0 rfl rfl (pF rfl) ?_;refine zQ35 ?_;refine aL ?_ zhn;refine zl2 (i:=1) (j:=3) zk ?_ ?_;refine lH rfl rfl (pL (c:=v1) rfl zm1 rfl) ?_;refine lO 3 (lW rfl (.inl rfl) rfl (sP [_] rfl pH (qkq sb T hT k i2 0 r2 hi2 hr2) (λl i3 op3 h3=>?_) (λl er i3 op3 h3 e' he'=>?_)));obtain⟨g1,g2,g3,rfl⟩:=qcs T k _ _ _ _ (hr2.trans (congrArg some h3));have g4:=g3 hi2;have g5:=g2 hv;have g6:=ql9 T _ _ _ _ _ _ _ (hr2.trans (congrArg some h3));rw[hr2,h3,qal] at hI;rw[zLn] at g6;refine lO 4 (lW rfl (.inl rfl) rfl (sG qyE rfl ha1 rfl (qeu l) (qgF l) (by simp;omega) λv' H' ha'=>?_));refine zQ39 ?_;exact⟨k,_,_,by omega,⟨{ p with vars:=p.vars++l },v',v2,v3,i3,H',H2,H3,by omega,rfl,rfl,by rw[zMa];exact ha',ha2,ha3,g4,by rw[zLa];omega,zNt hl2 zo,zNt hl3 zo,hI⟩,⟨rfl,rfl,rfl,trivial⟩,qyj,hj2.trans hj⟩;exact zT4;refine lW rfl (.inl rfl) rfl (sP [_] rfl pH (qkq sb T hT k i2 0 r2 hi2 hr2) (λl i3 op3 h3=>?_) (λl er i3 op3 h3 e' he'=>?_));refine lO 1 (lH rfl rfl (pL (c:=v1) rfl zm1 rfl) ?_);obtain⟨g1,g2,g3,rfl⟩:=qcs T k _ _ _ _ (hr2.trans (congrArg some h3));have g4:=g3 hi2;have g5:=g2 hv;have g6:=ql9 T _ _ _ _ _ _ _ (hr2.trans (congrArg some h3));rw[hr2,h3,qal] at hI;rw[zLn] at g6;refine lO 4 (lW rfl (.inl rfl) rfl (sG qyE rfl ha1 rfl (qeu l) (qgF l) (by simp;omega) λv' H' ha'=>?_));refine zQ39 ?_;exact⟨k,_,_,by omega,⟨{ p with vars:=p.vars++l },v',v2,v3,i3,H',H2,H3,by omega,rfl,rfl,by rw[zMa];exact ha',ha2,ha3,g4,by rw[zLa];omega,zNt hl2 zo,zNt hl3 zo,hI⟩,⟨rfl,rfl,rfl,trivial⟩,qyj,hj2.trans hj⟩;exact zT4;rw[if_neg (by rw[hv];decide)] at hI;refine gag ?_;refine oS (sH [_,_] rfl pH (qcC sb T i2 0 qjd hl zo) ?_) rfl;refine gaf ?_;refine oC rfl (λhw=>?_) (λhw=>?_);have hlt2:=qaK hw;rw[if_pos hw] at hI;simp only[hw,if_true];obtain⟨r2,hr2⟩:=qaS hI;refine cD (m:=8) rfl [] ?_;refine aT 0 rfl rfl (pF rfl) ?_;refine zQ35 ?_;refine aL ?_ zhn;refine zl2 (i:=1) (j:=3) zk ?_ ?_;refine lH rfl rfl (pL (c:=v2) rfl zm1 rfl) ?_;refine lO 3 (lW rfl (.inl rfl) rfl (sP [_] rfl pH (qeN hG sb T hT (i2+1) 0 r2 zo zo hr2) (λl i3 op3 h3=>?_) (λl er i3 op3 h3 e' he'=>?_)));obtain⟨g1,g2,g3,rfl⟩:=qdY T _ _ _ (hr2.trans (congrArg some h3));have g4:=g3 zo;rw[hr2,h3,qal] at hI;refine zQ33 ?_;refine lO 5 (lW rfl (.inl rfl) rfl (sG qwY rfl ha2 rfl (by simp;rfl) rfl (by simp;omega) λv' H' ha'=>?_));refine zQ16 ?_;exact⟨k,_,_,by omega,⟨{ p with arrays:=p.arrays++[l] },v1,v',v3,i3,H1,H',H3,by omega,rfl,rfl,ha1,by rw[zMa];exact ha',ha3,g4,zNt hl1 zo,by rw[zLa,length_singleton];omega,zNt hl3 zo,hI⟩,⟨rfl,rfl,rfl,trivial⟩,qxv,hj2.trans hj⟩;exact zT4;refine lW rfl (.inl rfl) rfl (sP [_] rfl pH (qeN hG sb T hT (i2+1) 0 r2 zo zo hr2) (λl i3 op3 h3=>?_) (λl er i3 op3 h3 e' he'=>?_));refine zl2 (i:=1) (j:=4) zk ?_ ?_;refine lH rfl rfl (pL (c:=v2) rfl zm1 rfl) ?_;obtain⟨g1,g2,g3,rfl⟩:=qdY T _ _ _ (hr2.trans (congrArg some h3));have g4:=g3 zo;rw[hr2,h3,qal] at hI;refine zQ33 ?_;refine lO 5 (lW rfl (.inl rfl) rfl (sG qwY rfl ha2 rfl (by simp;rfl) rfl (by simp;omega) λv' H' ha'=>?_));refine zQ16 ?_;exact⟨k,_,_,by omega,⟨{ p with arrays:=p.arrays++[l] },v1,v',v3,i3,H1,H',H3,by omega,rfl,rfl,ha1,by rw[zMa];exact ha',ha3,g4,zNt hl1 zo,by rw[zLa,length_singleton];omega,zNt hl3 zo,hI⟩,⟨rfl,rfl,rfl,trivial⟩,qxv,hj2.trans hj⟩;obtain⟨g1,g2,g3,rfl⟩:=qdY T _ _ _ (hr2.trans (congrArg some h3));have g4:=g3 zo;rw[hr2,h3,qal] at hI;refine zQ28 ?_;refine lO 1 (lH rfl rfl (pL (c:=v2) rfl zm1 rfl) ?_);refine lO 5 (lW rfl (.inl rfl) rfl (sG qwY rfl ha2 rfl (by simp;rfl) rfl (by simp;omega) λv' H' ha'=>?_))
 refine zQ16 ?_;exact⟨k,_,_,by omega,⟨{ p with arrays:=p.arrays++[l] },v1,v',v3,i3,H1,H',H3,by omega,rfl,rfl,ha1,by rw[zMa];exact ha',ha3,g4,zNt hl1 zo,by rw[zLa,length_singleton];omega,zNt hl3 zo,hI⟩,⟨rfl,rfl,rfl,trivial⟩,qxv,hj2.trans hj⟩;exact zT4;rw[if_neg (by rw[hw];decide)] at hI;simp only[hw,Bool.false_eq_true,if_false];refine gag ?_;refine oS (sH [_,_] rfl pH (qcC sb T i2 0 qrw hl zo) ?_) rfl;refine gaf ?_;refine oC rfl (λhu=>?_) (λhu=>?_);have hlt2:=qaK hu;rw[if_pos hu] at hI;simp only[hu,if_true];obtain⟨r2,hr2⟩:=qaS hI;refine cD (m:=8) rfl [] ?_;refine aT 0 rfl rfl (pF rfl) ?_;refine zQ35 ?_;refine aL ?_ zhn;refine zl2 (i:=1) (j:=3) zk ?_ ?_;refine lH rfl rfl (pL (c:=v3) rfl zm1 rfl) ?_;refine lO 3 (lW rfl (.inl rfl) rfl (sP [_] rfl pH (qna hG sb T hT k (i2+1) 0 r2 zo zo hr2) (λl i3 op3 h3=>?_) (λl er i3 op3 h3 e' he'=>?_)));obtain⟨g1,g2,g3,rfl⟩:=qeA T k _ _ _ (hr2.trans (congrArg some h3));have g4:=g3 zo;rw[hr2,h3,qal] at hI;refine zQ33 ?_;refine lO 5 (lW rfl (.inl rfl) rfl (sG qw4 rfl ha3 rfl (by simp;rfl) rfl (by simp;omega) λv' H' ha'=>?_));refine zQ17 ?_;exact⟨k,_,_,by omega,⟨{ p with funcs:=p.funcs++[l] },v1,v2,v',i3,H1,H2,H',by omega,rfl,rfl,ha1,ha2,by rw[zMa];exact ha',g4,zNt hl1 zo,zNt hl2 zo,by rw[zLa,length_singleton];omega,hI⟩,⟨rfl,rfl,rfl,trivial⟩,qwD,hj2.trans hj⟩;exact zT4;refine lW rfl (.inl rfl) rfl (sP [_] rfl pH (qna hG sb T hT k (i2+1) 0 r2 zo zo hr2) (λl i3 op3 h3=>?_) (λl er i3 op3 h3 e' he'=>?_));refine zl2 (i:=1) (j:=4) zk ?_ ?_;refine lH rfl rfl (pL (c:=v3) rfl zm1 rfl) ?_;obtain⟨g1,g2,g3,rfl⟩:=qeA T k _ _ _ (hr2.trans (congrArg some h3));have g4:=g3 zo;rw[hr2,h3,qal] at hI;refine zQ33 ?_;refine lO 5 (lW rfl (.inl rfl) rfl (sG qw4 rfl ha3 rfl (by simp;rfl) rfl (by simp;omega) λv' H' ha'=>?_));refine zQ17 ?_;exact⟨k,_,_,by omega,⟨{ p with funcs:=p.funcs++[l] },v1,v2,v',i3,H1,H2,H',by omega,rfl,rfl,ha1,ha2,by rw[zMa];exact ha',g4,zNt hl1 zo,zNt hl2 zo,by rw[zLa,length_singleton];omega,hI⟩,⟨rfl,rfl,rfl,trivial⟩,qwD,hj2.trans hj⟩;obtain⟨g1,g2,g3,rfl⟩:=qeA T k _ _ _ (hr2.trans (congrArg some h3));have g4:=g3 zo;rw[hr2,h3,qal] at hI;refine zQ28 ?_;refine lO 1 (lH rfl rfl (pL (c:=v3) rfl zm1 rfl) ?_);refine lO 5 (lW rfl (.inl rfl) rfl (sG qw4 rfl ha3 rfl (by simp;rfl) rfl (by simp;omega) λv' H' ha'=>?_));refine zQ17 ?_;exact⟨k,_,_,by omega,⟨{ p with funcs:=p.funcs++[l] },v1,v2,v',i3,H1,H2,H',by omega,rfl,rfl,ha1,ha2,by rw[zMa];exact ha',g4,zNt hl1 zo,zNt hl2 zo,by rw[zLa,length_singleton];omega,hI⟩,⟨rfl,rfl,rfl,trivial⟩,qwD,hj2.trans hj⟩;exact zT4;rw[if_neg (by rw[hu];decide)] at hI;simp only[hu,Bool.false_eq_true,if_false];refine gag ?_;refine oS (sP [_,_] rfl pH (qfN qgo sb T i2 0 3 hl zo) (λ_ _ _ h=>by cases h) (λl er i' op' h e' he'=>?_)) rfl;cases h;refine gae ?_;exact panP (he'.trans (hj2.trans hj)) (by cases hI;rfl) zhp;have hge:T.length<=i2:=by have:=zf hc;omega
 rw[if_pos hge] at hI;refine qag.cellSub zp1 (cs':=[.list (p.vars.map str),.list (p.arrays.map qhp),.list (p.funcs.map qa7)]) ⟨ha1.sub,ha2.sub,ha3.sub,trivial⟩ ?_;refine gab ?_;exact retP (v:=p) (hj2.trans hj) (rC (rA (k:=3) rfl zm0 rfl zsr) rN) (by cases hI;rfl) rfl (zhP zp2 zhn)
end
theorem qwJ{s:List UInt8}{T:List Tok}(h:qc2 s=.ok T):TOK T:=by
 unfold qc2 at h;split at h;cases h;obtain⟨h1,h2⟩:=qoD _ _ _ _ h
 exact⟨by omega,λt ht=>by have:=(h2 t ht).1;omega,λt ht hk=>by
  obtain⟨u,h3,h4,_⟩:=(h2 t ht).2 hk
  exact⟨u,h3,h4⟩⟩
instance:TIface zTp 20:=.of zk
def noPr:Pr:=⟨[],[],[]⟩
def qaA(s:List UInt8):Pr×Int×Int:=match qc2 s with
 |.error (l,e)=>(noPr,l,e)
 |.ok T=>match qcN T (10 * T.length+20) noPr 0 0 with
  |some (.ok p _ _)=>(p,0,0)
  |some (.err l e)=>(noPr,l,e)
  |none=>(noPr,0,0)
def qi8(r:Pr×Int×Int):LV:=.tuple [qgo r.1,int .i64 r.2.1,int .i64 r.2.2]
theorem qb6.ret1{C:Ctx}{n:Nat}{e:Env}{H H' H1 H2 F:Heap}{R:LRes->Heap->Prop}{rs:List ResultVar}{vs:List LV}{f:FuncId}{caps:Array Value} [hen:TEnter C.P f](hd:e.ds=[{ target:=.fn (.func f) caps,args:=#[] }])(hp:H.Perm (H1++F))
  (hc:qbq C f (caps.toList.map .atom) .returning H1 (λu H'=>u=.returning/\H'=H2)) (h:qbW C n e (H2++F) rs vs) (hH:HSub H' (H2++F)) (hR:R (.ret (qbI vs)) H'):qb6 C n rs R .ret e H:=by
 unfold qb6;simp only[hd];refine⟨by simp,f,caps,H1,F,rfl,hen,hp,qbq.mono hc ?_⟩;rintro u H'' ⟨rfl,rfl⟩;exact⟨vs,H',h,hH,hR⟩
theorem qb6.panic1{C:Ctx}{n:Nat}{e:Env}{H H' H1 H2 F:Heap}{R:LRes->Heap->Prop}{rs:List ResultVar}{vs:List LV}{f:FuncId}{caps:Array Value}{ch:List PanicEntry} [hen:TEnter C.P f](hd:e.ds=[{ target:=.fn (.func f) caps,args:=#[] }])(hp:H.Perm (H1++F))
  (hc:qbq C f (caps.toList.map .atom) (.panicking ch) H1 (λu H'=>settle u=.returning/\H'=H2)) (h:qbW C n e (H2++F) rs vs) (hH:HSub H' (H2++F)) (hR:R (.ret (qbI vs)) H'):qb6 C n rs R (.panic ch) e H:=by
 unfold qb6;simp only[hd];refine⟨by simp,f,caps,H1,F,rfl,hen,hp,qbq.mono hc ?_⟩;rintro u H'' ⟨hu,rfl⟩;rw[hu];exact⟨vs,H',h,hH,hR⟩
def resP:Res Pr->Pr×Int×Int
 |.ok p _ _=>(p,0,0)
 |.err l e=>(noPr,l,e)
theorem qmq:∀ (f:Nat) (s:List UInt8) (line l e:Int),lexP f s line=.error (l,e)->¬ e=0
 |0,s,line,l,e,h=>by
  rw[lexP] at h
  cases h
 |f+1,s,line,l,e,h=>by
  rw[lexP] at h;split at h;cases h;split at h;split at h
  rename_i he
  cases h;exact he
  cases hx:lexP f (s.drop (qaw s).2.1) (line+((s.take (qaw s).2.1).count 10:Nat)) with
  |ok T=>rw[hx] at h;cases h
  |error p=>
   rw[hx] at h;cases h;exact qmq f _ _ _ _ hx
  exact qmq f _ _ _ _ h
theorem qkk{s:List UInt8}{l e:Int}(h:qc2 s=.error (l,e)):¬ e=0:=by
 unfold qc2 at h;split at h;cases h;decide;exact qmq _ _ _ _ _ h
theorem memA{A:Type}{p:A}{H:List A}(h:p∈H:=by first|exact List.Mem.head _|exact List.Mem.tail _ zm0|exact List.Mem.tail _ zm1|exact List.Mem.tail _ zm2|exact List.Mem.tail _ zm3|exact List.Mem.tail _ zm4|exact List.Mem.tail _ zm5):p∈H:=h
attribute [local irreducible] qcc qaU qd4 qbq
section
variable{B0:Nat}{w0:World}
theorem qlW(b2 b3 b4:Nat)(cs:List LV)(c d:LV):qbq (KC B0 w0) 31 [ptr b2 0,ptr b3 0,ptr b4 0] .returning [(b2,.cells 43 cs),(b3,.cells 3 [c]),(b4,.cells 23 [d])]
  (λu H=>u=.returning/\H=[(b2,.cells 43 cs),(b3,.cells 3 [c]),(b4,.cells 23 [d])]):=by
 refine qbq.intro Tryz.func31 rfl (n:=22) rfl rfl rfl ?_;refine zQ24 ?_;refine gab ?_;refine oC rfl (λhc=>?_) (λhc=>?_);cases hc;refine gaa ?_;exact⟨rfl,_,zhR _,rfl,rfl⟩
theorem qmc(b2 b3 b4:Nat)(c1 c2 c3 c d:LV)(l er:Int):qbq (KC B0 w0) 31 [ptr b2 0,ptr b3 0,ptr b4 0] (.panicking (pan l er)) [(b2,.cells 43 [c1,c2,c3]),(b3,.cells 3 [c]),(b4,.cells 23 [d])]
  (λu H=>settle u=.returning/\H=[(b2,.cells 43 [qab,qab,qab]),(b3,.cells 3 [int .i64 l]),(b4,.cells 23 [int .i64 er])]):=by
 refine qbq.intro Tryz.func31 rfl (n:=22) rfl rfl rfl ?_;refine zQ24 ?_;refine gab ?_;refine oC rfl (λhc=>?_) (λhc=>?_);refine gag ?_;refine oP (Pure.assertOk (vs:=[.int .i64 l,.int .i64 er]) rfl) rfl ?_;refine gad ?_;refine oS (sA λb5=>?_) rfl;refine gab ?_;refine oC rfl (λhd=>?_) (λhd=>?_);cases hd;refine gaa ?_;refine cD (m:=8) rfl [(b5,.cells 78 [int .i64 l,int .i64 er])] ?_;refine aT 0 rfl rfl (pB _ (cs:=[_,_,_]) rfl) ?_;refine aT 1 rfl rfl (pF rfl) ?_;refine aT 2 rfl rfl (pL (c:=.atom _) rfl zm0 rfl) ?_;refine aT 3 rfl rfl (pF rfl) ?_;refine aT 4 rfl rfl (pL (c:=.atom _) rfl zm0 rfl) ?_;refine aL ?_ zhp;refine lO 5 (lS (H1:=[(b2,.cells 43 [c1,c2,c3])]) (F:=[(b5,.cells 78 [int .i64 l,int .i64 er]),(b3,.cells 3 [c]),(b4,.cells 23 [d])]) rfl (.inl rfl) rfl zp1 zhp (sS (cs':=[_,_,_]) rfl pH rfl rfl rfl rfl rfl ?_));refine lO 6 (lS (H1:=[(b3,.cells 3 [c])]) (F:=[(b2,.cells 43 [qab,qab,qab]),(b5,.cells 78 [int .i64 l,int .i64 er]),(b4,.cells 23 [d])]) rfl (.inl rfl) rfl zp2 (zhP zp1 zhn) (sS (cs':=[_]) rfl pH rfl rfl rfl rfl rfl ?_));refine lO 7 (lS (H1:=[(b4,.cells 23 [d])]) (F:=[(b3,.cells 3 [int .i64 l]),(b2,.cells 43 [qab,qab,qab]),(b5,.cells 78 [int .i64 l,int .i64 er])]) rfl (.inl rfl) rfl zp3 (zhP zp2 zhn) (sS (cs':=[_]) rfl pH rfl rfl rfl rfl rfl ?_));refine lD zk ?_;exact⟨rfl,_,zhP zp2 (zhP zp1 zhp),rfl,rfl⟩;cases hc
theorem qg7(hG:GW B0 w0)(s:List UInt8):LCalls (KC B0 w0) 18 [str s] [] (Ret (qi8 (qaA s))):=by
 refine LCalls.introD Tryz.func18 rfl (n:=24) rfl rfl rfl ?_;refine zQ32 ?_;refine gah ?_;refine oS (sA λb2=>?_) rfl;refine oS (sA λb3=>?_) rfl;refine oS (sA λb4=>?_) rfl;refine gaf ?_;refine zQ32 ?_;refine gag ?_;refine oS (sF [_] rfl (qqt hG s) ?_) rfl
 cases hL:qc2 s with
 |error le=>
  obtain⟨l,er⟩:=le;have he0:¬ er=0:=qkk hL;simp only[qp4];refine gad ?_;refine zQ32 ?_;refine gab ?_;refine oC rfl (λhc=>?_) (λhc=>?_);refine gaa ?_;refine cD (m:=6) rfl [] ?_;refine aT 0 rfl rfl (pB _ (cs:=[_,_,_]) rfl) ?_;refine aL ?_ zhn;refine qaJ.three (i:=1) (j:=2) (k:=3) zk ?_ ?_ ?_;refine zQ50 ?_;refine zl2 (i:=2) (j:=3) zk ?_ ?_;refine lH rfl rfl (pL (c:=.atom _) rfl zm0 rfl) ?_;exact zT7;refine zQ25 ?_;refine zl2 (i:=2) (j:=4) zk ?_ ?_;exact zT11;exact zT13;refine lH rfl rfl (pL (c:=.atom _) rfl zm0 rfl) ?_;refine zl2 (i:=1) (j:=3) zk ?_ ?_;refine zQ50 ?_;exact zT7;refine zQ25 ?_;exact zT5;refine zQ25 ?_;refine zl2 (i:=1) (j:=2) zk ?_ ?_;refine lH rfl rfl (pL (c:=.atom _) rfl zm2 rfl) ?_;refine zl2 (i:=2) (j:=4) zk ?_ ?_;exact zT11;exact zT13;refine zQ50 ?_;exact zT5;have:er=0:=by simpa using hc
  exact absurd this he0
 |ok T=>
  have hT:=qwJ hL;simp only[qp4];refine gad ?_;refine zQ32 ?_;refine gab ?_;refine oC rfl (λhc=>?_) (λhc=>?_);cases hc;refine gaa ?_;refine zQ26 ?_;refine qcc.defer rfl rfl ?_;refine zQ41 ?_;refine zQ32 ?_;refine gab ?_;refine oS (sB rfl λsb=>?_) rfl;refine gaf ?_;refine zQ26 ?_;obtain⟨r,hr⟩:=qdR T (10 * T.length+20) noPr 0 0 (zero_le _) zo
  have hp:qaA s=resP r:=by
   rw[qaA,hL];simp only[hr];cases r <;> rfl
  rw[hp];refine qcc.step (sP (T:=T) (i:=0) (op:=0) [_] rfl pH (qcn hG sb T hT _ r hr) (λv i1 op1 h1=>?_) (λl er i1 op1 h1=>?_)) rfl;subst h1;refine qcc.step (sS (cs':=[_,_,_]) rfl zp3 rfl rfl rfl rfl rfl ?_) rfl;refine qcc.step (sS (cs':=[_]) rfl zp3 rfl rfl rfl rfl rfl ?_) rfl;refine qcc.step (sS (cs':=[_]) rfl zp3 rfl rfl rfl rfl rfl ?_) rfl;refine zQ41 ?_;refine qaU.ret ?_
  exact qb6.ret1 (vs:=[qgo v,int .i64 0,int .i64 0]) (H2:=[(b2,.cells 43 [.list (v.vars.map str),.list (v.arrays.map qhp),.list (v.funcs.map qa7)]),(b3,.cells 3 [int .i64 0]),(b4,.cells 23 [int .i64 0])]) rfl (zp2.trans (List.Perm.cons _ (zp1.trans (List.Perm.cons _ zpr)))) (qlW b2 b3 b4 _ _ _)
   (rC (rA (k:=3) rfl zm0 rfl zsr) (rC (qc9.cellOne rfl zm1 rfl zsr) (rC (qc9.cellOne rfl zm2 rfl zsr) rN))) zhn ⟨rfl,rfl⟩
  subst h1;refine qax.panic ?_
  exact qb6.panic1 (vs:=[qgo noPr,int .i64 l,int .i64 er]) (H2:=[(b2,.cells 43 [qab,qab,qab]),(b3,.cells 3 [int .i64 l]),(b4,.cells 23 [int .i64 er])]) rfl (zp3.trans (List.Perm.cons _ (zp2.trans (List.Perm.cons _ (zp1.trans zpr))))) (qmc b2 b3 b4 _ _ _ _ _ l er)
   (rC (rA (k:=3) rfl zm0 rfl (vA (bs:=[.list [],.list [],.list []]) ⟨vN,vN,vN,trivial⟩)) (rC (qc9.cellOne rfl zm1 rfl zsr) (rC (qc9.cellOne rfl zm2 rfl zsr) rN))) zhn ⟨rfl,rfl⟩
end
end Go.Proofs.YtkihibnffkpnkaaGreatDoor
namespace Go.Proofs.YtkihibnffkpnkaaGreatDoor.Chk
open Go.GL Go.RowKit Go.Stele
def vio(nm:List UInt8)(e:Int):List PanicEntry:=[{ v:=.iface 120 (.agg #[.string ⟨nm.toArray⟩,.int .i64 e]),recovered:=false }]
def chkN:Nat->List UInt8->Bool
 |_,[]=>true
 |i,c::r=>(if i=0 then qaV c else qaW c) && chkN (i+1) r
theorem qln:∀ (r:List UInt8) (i:Nat),i≠0->chkN i r=r.all qaW
 |[],_,_=>rfl
 |c::r,i,h=>by rw[chkN,if_neg h,qln r (i+1) zo];rfl
theorem qxe{s:List UInt8}(h0:s≠[])(h1:s.length<=24)(h2:qnl.contains s=false):isNm s=chkN 0 s:=by
 unfold isNm;rw[decide_eq_true h1,h2]
 cases s with
 |nil=>exact absurd rfl h0
 |cons c r=>
  rw[chkN,if_pos rfl,qln r 1 zDd];rfl
theorem qsK(s:List UInt8):qnl.contains s=(qdl.contains s || decide (s=[105,110]) || decide (s=[111,117,116])):=by
 have h:qnl.contains s=(qdl.contains s || (decide (s=[105,110]) || decide (s=[111,117,116]))):=by
  unfold qnl;rw[Bool.eq_iff_iff]
  simp
 rw[h,Bool.or_assoc]
instance:TMap zTp 130 3 (.int .i64 0) (int .i64 0):=⟨⟨9,by kernel_rfl,by kernel_rfl⟩,λw=>(Go.zero_of_info (P:=zTp) (n:=1) zk).1 w,λ_ _=>qai⟩
instance:TMap zTp 123 4 (.bool false) (bool false):=⟨⟨9,by kernel_rfl,by kernel_rfl⟩,λw=>(Go.zero_of_info (P:=zTp) (n:=1) zk).1 w,λ_ _=>qai⟩
instance:TMap zTp 124 160 (.agg [.int .i64 0,.int .i64 0,.int .i64 0].toArray) (.agg ([.int .i64 0,.int .i64 0,.int .i64 0].map .atom)):=⟨⟨9,by kernel_rfl,by kernel_rfl⟩,λw=>(Go.zero_of_info (P:=zTp) (n:=3) zk).1 w,λw L=>qvE w L _⟩
def opKV:KV:=[([110,117,109],int .i64 0),([118,97,114],int .i64 0),([101,108,101,109],int .i64 1),([110,101,103],int .i64 1),([110,111,116],int .i64 1),([99,97,108,108],int .i64 (-1)),([124,124],int .i64 2),([38,38],int .i64 2),([61,61],int .i64 2),([33,61],int .i64 2),([60],int .i64 2),([62],int .i64 2),([60,61],int .i64 2),([62,61],int .i64 2),([94],int .i64 2),([43],int .i64 2),([45],int .i64 2),([42],int .i64 2),([47],int .i64 2),([37],int .i64 2)]
theorem qvC(op:List UInt8):GL.kvGet opKV op=if qbv op = -2 then none else some (int .i64 (qbv op)):=by
 have key:∀ x∈[[110,117,109],[118,97,114],[101,108,101,109],[110,101,103],[110,111,116],[99,97,108,108],[124,124],[38,38],[61,61],[33,61],[60],[62],[60,61],[62,61],[94],[43],[45],[42],[47],[37]],GL.kvGet opKV x=if qbv x = -2 then none else some (int .i64 (qbv x)):=by
  intro x hx;simp only[zMi,not_mem_nil,or_false] at hx;rcases hx with rfl|rfl|rfl|rfl|rfl|rfl|rfl|rfl|rfl|rfl|rfl|rfl|rfl|rfl|rfl|rfl|rfl|rfl|rfl|rfl <;> rfl
 by_cases h:op∈[[110,117,109],[118,97,114],[101,108,101,109],[110,101,103],[110,111,116],[99,97,108,108],[124,124],[38,38],[61,61],[33,61],[60],[62],[60,61],[62,61],[94],[43],[45],[42],[47],[37]]
 exact key op h;simp only[zMi,not_mem_nil,or_false,not_or] at h
 have h2:qbv op = -2:=by
  obtain⟨a1,a2,a3,a4,a5,a6,a7,a8,a9,a10,a11,a12,a13,a14,a15,a16,a17,a18,a19,a20⟩:=h;unfold qbv;rw[if_neg (λh=>h.elim a1 a2),if_neg (λh=>h.elim a3 (λh=>h.elim a4 a5)),if_neg (show ¬ op=qbN from a6),if_neg];unfold qeO;simp only[zMi,not_mem_nil,or_false,not_or];exact⟨a7,a8,a9,a10,a11,a12,a13,a14,a15,a16,a17,a18,a19,a20⟩
 rw[if_pos h2];obtain⟨a1,a2,a3,a4,a5,a6,a7,a8,a9,a10,a11,a12,a13,a14,a15,a16,a17,a18,a19,a20⟩:=h;unfold opKV;simp only[GL.kvGet];rw[if_neg (Ne.symm a1),if_neg (Ne.symm a2),if_neg (Ne.symm a3),if_neg (Ne.symm a4),if_neg (Ne.symm a5),if_neg (Ne.symm a6),if_neg (Ne.symm a7),if_neg (Ne.symm a8),if_neg (Ne.symm a9),if_neg (Ne.symm a10),if_neg (Ne.symm a11),if_neg (Ne.symm a12),if_neg (Ne.symm a13),if_neg (Ne.symm a14),if_neg (Ne.symm a15),if_neg (Ne.symm a16),if_neg (Ne.symm a17),if_neg (Ne.symm a18),if_neg (Ne.symm a19),if_neg (Ne.symm a20)]
attribute [local irreducible] LOps qag qae LCalls Go.GL.Pure qax qam qad LQ LAny qaJ qan LS
section
variable{B0:Nat}{w0:World}{H:Heap}
theorem qnp(b:Bool)(nm:List UInt8)(e:Int):LCalls (KC B0 w0) 133 [bool b,str nm,int .i64 e] H (λr H'=>H'=H/\r=if b=true then .ret (.tuple []) else .panic (vio nm e)):=by
 refine zcI Tryz.func133 rfl (n:=12) rfl rfl rfl ?_;refine gab ?_;refine oC rfl (λhc=>?_) (λhc=>?_);have hb:b=false:=by simpa using hc
 subst hb;refine gab ?_;refine oS (qae.panic rfl λe' he'=>?_) rfl;exact qad.panic (he'.trans rfl) zhr ⟨rfl,rfl⟩;have hb:b=true:=by simpa using hc
 subst hb;refine gaa ?_;exact rO rfl rN zhr ⟨rfl,rfl⟩
theorem qlT(op:List UInt8):LCalls (KC B0 w0) 258 [str op] [] (Ret (int .i64 (qbv op))):=by
 refine zcI Tryz.func258 rfl (n:=15) rfl rfl rfl ?_;refine gaq ?_;refine oS (S.kvNew λom=>?_) rfl;refine oS (S.kvInsE (m:=opKV.take 0) (k:=[110,117,109]) (lv:=int .i64 (0)) (opKV.take 1) rfl rfl rfl pH zk λc0=>?_) rfl;refine oS (S.kvInsE (m:=opKV.take 1) (k:=[118,97,114]) (lv:=int .i64 (0)) (opKV.take 2) rfl rfl rfl pH zk λc1=>?_) rfl;refine oS (S.kvInsE (m:=opKV.take 2) (k:=[101,108,101,109]) (lv:=int .i64 (1)) (opKV.take 3) rfl rfl rfl pH zk λc2=>?_) rfl;refine oS (S.kvInsE (m:=opKV.take 3) (k:=[110,101,103]) (lv:=int .i64 (1)) (opKV.take 4) rfl rfl rfl pH zk λc3=>?_) rfl;refine oS (S.kvInsE (m:=opKV.take 4) (k:=[110,111,116]) (lv:=int .i64 (1)) (opKV.take 5) rfl rfl rfl pH zk λc4=>?_) rfl;refine oS (S.kvInsE (m:=opKV.take 5) (k:=[99,97,108,108]) (lv:=int .i64 (-1)) (opKV.take 6) rfl rfl rfl pH zk λc5=>?_) rfl;refine oS (S.kvInsE (m:=opKV.take 6) (k:=[124,124]) (lv:=int .i64 (2)) (opKV.take 7) rfl rfl rfl pH zk λc6=>?_) rfl;refine oS (S.kvInsE (m:=opKV.take 7) (k:=[38,38]) (lv:=int .i64 (2)) (opKV.take 8) rfl rfl rfl pH zk λc7=>?_) rfl;refine oS (S.kvInsE (m:=opKV.take 8) (k:=[61,61]) (lv:=int .i64 (2)) (opKV.take 9) rfl rfl rfl pH zk λc8=>?_) rfl;refine oS (S.kvInsE (m:=opKV.take 9) (k:=[33,61]) (lv:=int .i64 (2)) (opKV.take 10) rfl rfl rfl pH zk λc9=>?_) rfl;refine oS (S.kvInsE (m:=opKV.take 10) (k:=[60]) (lv:=int .i64 (2)) (opKV.take 11) rfl rfl rfl pH zk λc10=>?_) rfl;refine oS (S.kvInsE (m:=opKV.take 11) (k:=[62]) (lv:=int .i64 (2)) (opKV.take 12) rfl rfl rfl pH zk λc11=>?_) rfl;refine oS (S.kvInsE (m:=opKV.take 12) (k:=[60,61]) (lv:=int .i64 (2)) (opKV.take 13) rfl rfl rfl pH zk λc12=>?_) rfl;refine oS (S.kvInsE (m:=opKV.take 13) (k:=[62,61]) (lv:=int .i64 (2)) (opKV.take 14) rfl rfl rfl pH zk λc13=>?_) rfl;refine oS (S.kvInsE (m:=opKV.take 14) (k:=[94]) (lv:=int .i64 (2)) (opKV.take 15) rfl rfl rfl pH zk λc14=>?_) rfl;refine oS (S.kvInsE (m:=opKV.take 15) (k:=[43]) (lv:=int .i64 (2)) (opKV.take 16) rfl rfl rfl pH zk λc15=>?_) rfl;refine oS (S.kvInsE (m:=opKV.take 16) (k:=[45]) (lv:=int .i64 (2)) (opKV.take 17) rfl rfl rfl pH zk λc16=>?_) rfl;refine oS (S.kvInsE (m:=opKV.take 17) (k:=[42]) (lv:=int .i64 (2)) (opKV.take 18) rfl rfl rfl pH zk λc17=>?_) rfl;refine oS (S.kvInsE (m:=opKV.take 18) (k:=[47]) (lv:=int .i64 (2)) (opKV.take 19) rfl rfl rfl pH zk λc18=>?_) rfl;refine oS (S.kvInsE (m:=opKV.take 19) (k:=[37]) (lv:=int .i64 (2)) (opKV.take 20) rfl rfl rfl pH zk λc19=>?_) rfl;refine LOps.weak (H':=[(om,.map (kvs opKV) c19)]) zhr ?_;refine gaa ?_;have hg:=qvC op
 by_cases h0:qbv op = -2
 rw[if_pos h0] at hg;refine oP (Pure.kvMiss2 rfl rfl zm0 (show GL.kvGet opKV op=none from hg)) rfl ?_;refine gab ?_;refine oC rfl (λ_=>?_) (λhc=>by cases hc);refine gao ?_;exact rR rfl (zra rfl) zhn ⟨by rw[h0];rfl,rfl⟩;rw[if_neg h0] at hg;refine oP (Pure.kvHit2 rfl rfl zm0 (show GL.kvGet opKV op=some (int .i64 (qbv op)) from hg)) rfl ?_;refine gab ?_;refine oC rfl (λhc=>by cases hc) (λ_=>?_);refine gac ?_;exact rR rfl (zra rfl) zhn ⟨rfl,rfl⟩
theorem qe6(s:List UInt8):LCalls (KC B0 w0) 175 [str s] [] (Ret (bool (isNm s))):=by
 refine zcI Tryz.func175 rfl (n:=65) rfl rfl rfl ?_;refine gac ?_
 have retF:∀ (h:isNm s=false) {e:Env} {C:Ctx} {n:Nat},e.ds=[]->e.s 2=bool false->qad C n [ResultVar.tmp 2] (Ret (bool (isNm s))) .ret e []:=λh {e C n} hd he=>by
  rw[h];exact qac hd (rC (rT he zsr) rN) rfl
 refine oB 7 rfl (λh1=>?_) (λh1=>?_);have h0:s=[]:=zt h1;refine gaa ?_;refine oC rfl (λ_=>?_) (λhc=>by cases hc);refine gao ?_;exact retF (by rw[h0];rfl) rfl rfl;have h0:s≠[]:=zf h1;refine gad ?_;refine oB 12 rfl (λh2=>?_) (λh2=>?_)
 have hl:24<s.length:=by
  have:=zt h2;omega
 refine gaa ?_;refine oC rfl (λ_=>?_) (λhc=>by cases hc);refine gao ?_;exact retF (by unfold isNm;rw[decide_eq_false zo];rfl) rfl rfl
 have hl:s.length<=24:=by
  have:=zf h2;omega
 refine gaa ?_;refine oB 16 rfl (λh3=>?_) (λh3=>?_);have h4:s=[105,110]:=zt h3;refine gaa ?_;refine oC rfl (λ_=>?_) (λhc=>by cases hc);refine gao ?_;exact retF (by rw[h4];rfl) rfl rfl;refine gaa ?_;refine oB 20 rfl (λh5=>?_) (λh5=>?_);have h4:s=[111,117,116]:=zt h5;refine gaa ?_;refine oC rfl (λ_=>?_) (λhc=>by cases hc);refine gao ?_;exact retF (by rw[h4];rfl) rfl rfl;refine gaa ?_;refine oS (sF [] rfl qht ?_) rfl;refine gaa ?_;refine oS (sF [_,_] rfl (qdN qdl s zDd) ?_) rfl;refine gaa ?_;have hnn:=qsK s;rw[h3,h5,Bool.or_false,Bool.or_false] at hnn;refine oC rfl (λhk=>?_) (λhk=>?_);have hk':qdl.contains s=true:=hk;refine gao ?_
 exact retF (by
  unfold isNm
  rw[hnn,hk',Bool.not_true,Bool.and_false,Bool.false_and]) rfl rfl
 have hk':qdl.contains s=false:=hk;rw[hk'] at hnn;have heq:=qxe h0 hl hnn;refine gab ?_
 refine oL (λk ls H'=>∃ pre l1,s=pre++l1/\k=l1.length/\ls=[(0,str s),(26,int .i64 (s.length:Int)),(27,int .i64 (pre.length:Int))]/\H'=[]/\isNm s=chkN pre.length l1)
  ⟨s.length,_,_,⟨[],s,rfl,rfl,rfl,rfl,heq⟩,⟨rfl,rfl,rfl,trivial⟩,zhR _⟩ ?_
 rintro k ls H' ⟨pre,l1,hLe,rfl,rfl,rfl,hI⟩ j hj
 have hb2:pre.length<=24:=by
  rw[hLe,zLa] at hl;omega
 refine gai ?_;refine oC rfl (λhc=>?_) (λhc=>?_);rotate_left;have hlen:=zf hc;rw[hLe,zLa] at hlen
 obtain rfl:l1=[]:=by
  cases l1 with
  |nil=>rfl
  |cons a l2=>simp at hlen;omega
 refine gac ?_;exact qac hj (zra rfl) (by rw[hI];rfl);have hlen:=zt hc;rw[hLe,zLa] at hlen
 obtain⟨a,l2,rfl⟩:∃ a l2,l1=a::l2:=by
  cases l1 with
  |nil=>simp at hlen
  |cons a l2=>exact⟨a,l2,rfl⟩
 have hget:s[((pre.length:Nat):Int).toNat]? = some a:=by
  rw[Int.toNat_natCast,hLe,List.getElem?_append_right (zNr _),Nat.sub_self];rfl
 rw[chkN] at hI
 have next:∀ {e:Env} {ds:List Deferred} (h:(if pre.length=0 then qaV a else qaW a)=true),e.ds=ds->e.s 0=str s->e.s 26=int .i64 (s.length:Int)->e.s 27=int .i64 ((pre.length:Int)+1)->qwu (λk ls H'=>∃ pre l1,s=pre++l1/\k=l1.length/\ls=[(0,str s),(26,int .i64 (s.length:Int)),(27,int .i64 (pre.length:Int))]/\H'=[]/\isNm s=chkN pre.length l1) (a::l2).length ds e []:=λ{e ds} h hd e0 e26 e27=>by
  rw[h,Bool.true_and] at hI;exact⟨l2.length,_,_,lt_succ_self _,⟨pre++[a],l2,by rw[hLe];simp,rfl,rfl,rfl,by rw[hI,zLa];rfl⟩,⟨e0,e26,e27.trans (qao (by simp)),trivial⟩,zhR _,hd⟩
 refine gac ?_;refine zQ54 ?_;refine LOps.cut [(0,str s),(3,int .i64 (pre.length:Int)),(4,bool (qaV a)),(26,int .i64 (s.length:Int)),(27,int .i64 (pre.length:Int))] ?_ (λj2 hj2=>?_);refine oB 34 rfl (λh6=>?_) (λh6=>?_);refine gaa ?_;refine zQ54 ?_;exact⟨⟨rfl,rfl,qau (by unfold qaV;rw[show decide (97<=cv a)=true from h6,Bool.true_and]),rfl,rfl,trivial⟩,rfl,rfl⟩;refine gaa ?_;exact⟨⟨rfl,rfl,qau (by unfold qaV;rw[show decide (97<=cv a)=false from h6,Bool.false_and]),rfl,rfl,trivial⟩,rfl,rfl⟩;refine gab ?_;refine oB 42 rfl (λh7=>?_) (λh7=>?_);rotate_left
 ·have hl1:qaV a=true:=by simpa using h7
  refine gad ?_;refine oC rfl (λhc=>by cases hc) (λ_=>?_);refine gac ?_;refine next ?_ ?_ ?_ ?_ ?_
  rw[hl1];unfold qaW;rw[hl1];split <;> rfl;exact hj2.trans hj;rfl;rfl;rfl
 have hl0:qaV a=false:=by simpa using h7
 refine gaa ?_;refine oB 45 rfl (λh8=>?_) (λh8=>?_);have hp0:pre.length=0:=by have:=zt h8;omega
 refine gad ?_;refine oC rfl (λ_=>?_) (λhc=>by cases hc);refine gas ?_;exact retF (by rw[hI,if_pos hp0,hl0,Bool.false_and]) (hj2.trans hj) rfl;have hp0:¬ pre.length=0:=by have:=zf h8;omega
 rw[if_neg hp0] at hI;refine gaa ?_;refine zQ54 ?_;refine oB 50 rfl (λh9=>?_) (λh9=>?_);rotate_left
 ·have h95:decide (cv a=95)=true:=by simpa using h9
  refine gad ?_;refine oC rfl (λhc=>by cases hc) (λ_=>?_);refine gac ?_;refine next ?_ ?_ ?_ ?_ ?_
  rw[if_neg hp0];unfold qaW;rw[h95,Bool.or_true];exact hj2.trans hj;rfl;rfl;rfl
 have h95:decide (cv a=95)=false:=by simpa using h9
 refine gaa ?_;refine oP (pI (c:=a) rfl rfl zo hget) rfl ?_;refine gaa ?_;refine oB 55 rfl (λh10=>?_) (λh10=>?_)
 have h48:decide (48<=cv a)=false:=by
  have:cv a<48:=zt h10;exact decide_eq_false zo
 refine gaa ?_;refine oC rfl (λ_=>?_) (λhc=>by cases hc);refine gas ?_;exact retF (by rw[hI];unfold qaW qap;rw[hl0,h95,h48];rfl) (hj2.trans hj) rfl
 have h48:decide (48<=cv a)=true:=by
  have:¬ cv a<48:=zf h10;exact decide_eq_true zo
 refine gaa ?_;refine zQ54 ?_;refine oC rfl (λh11=>?_) (λh11=>?_)
 have h57:decide (cv a<=57)=false:=by
  have:57<cv a:=zt h11;exact decide_eq_false zo
 refine gas ?_;exact retF (by rw[hI];unfold qaW qap;rw[hl0,h95,h57,Bool.and_false];rfl) (hj2.trans hj) rfl
 have h57:decide (cv a<=57)=true:=by
  have:¬ 57<cv a:=zf h11;exact decide_eq_true zo
 refine gac ?_;refine next ?_ ?_ ?_ ?_ ?_
 rw[if_neg hp0];unfold qaW qap;rw[h48,h57];simp;exact hj2.trans hj;rfl;rfl;rfl
end
structure KB where
 cb:Nat
 gm:Nat
 vm:Nat
 am:Nat
 fm:Nat
 om:Nat
 G:KV
 V:KV
 A:KV
 F:KV
 O:KV
 g1:Nat
 g2:Nat
 g3:Nat
 g4:Nat
 g5:Nat
 name:List UInt8
def qjD(f:FSum):LV:=.agg [int .i64 (f.params:Int),int .i64 (f.need:Int),int .i64 (f.depth:Int)]
structure KBok(k:KB)(c:CEnv):Prop where
 G:qdO k.G c.globals
 V:qdO k.V c.vars
 A:qdO k.A c.arrays
 O:qdO k.O c.own
 F:∀ n,GL.kvGet k.F n=(c.fn n).map qjD
def ckH(k:KB)(d:Nat):Heap:=[(k.cb,.cells 126 [.atom (.map (some k.gm)),.atom (.map (some k.vm)),.atom (.map (some k.am)),.atom (.map (some k.fm)),str k.name,.atom (.map (some k.om)),int .i64 (d:Int)]),(k.gm,.map (kvs k.G) k.g1),(k.vm,.map (kvs k.V) k.g2),(k.am,.map (kvs k.A) k.g3),(k.fm,.map (kvs k.F) k.g4),(k.om,.map (kvs k.O) k.g5)]
def qh7(err:Int)(lv:LV)(H':Heap)(r:LRes)(H:Heap):Prop:=(err=0/\r=.ret lv/\H=H')∨(err≠0/\(∃ nm,r=.panic (vio nm err))/\H=[])
section
variable{C:Ctx}{n:Nat}{e:Env}{H:Heap}{dst:Option Nat}{ty:TypeId}{pos:String}{aft:Array Edge}{g:Option (Nat×Bool)}{K:LV->Heap->Prop}{X:List PanicEntry->Heap->Prop}
theorem sK{err:Int}{lv:LV}{H1 H' F:Heap}{f:FuncId} [TEnter C.P f](args:List Operand){ats:Array TypeId}{av:List LV}(has:args.map e.ev=av)(hp:H.Perm (H1++F))
  (hc:LCalls C f av H1 (qh7 err lv H')) (hk:err=0->K lv (H'++F)) (hx:∀ nm,err≠0->X (vio nm err) F):qae C ⟨dst,.call { callee:=.value (.func f),args:=args.toArray,argTypes:=ats },ty,pos,aft,g⟩ e H K X:=by
 refine S.callH args has hp hc ?_ ?_;rintro v H2 (⟨h1,h2,rfl⟩|⟨_,⟨nm,h2⟩,_⟩);cases h2;exact hk h1;cases h2;rintro ch H2 (⟨_,h2,_⟩|⟨h1,⟨nm,h2⟩,rfl⟩);cases h2;cases h2;exact hx nm h1
theorem qae.callK{err:Int}{lv:LV}{H':Heap}{f:FuncId} [TEnter C.P f](args:List Operand){ats:Array TypeId}{av:List LV}(has:args.map e.ev=av)
  (hc:LCalls C f av H (qh7 err lv H')) (hk:err=0->K lv H') (hx:∀ nm,err≠0->X (vio nm err) []):qae C ⟨dst,.call { callee:=.value (.func f),args:=args.toArray,argTypes:=ats },ty,pos,aft,g⟩ e H K X:=by
 refine qae.conseq (sK (F:=[]) (K:=λlv H'=>K lv H') (X:=X) args has (by rw[zLz]) hc (λh=>by rw[zLz];exact hk h) hx) (λlv H' h=>⟨lv,H',vR _,zhR _,h⟩)
theorem retK{err:Int}{lv:LV}{H':Heap}{rs:List ResultVar}{vs:List LV}(hd:e.ds=[])(h:qbW C n e H rs vs)(he:err=0)(hv:qbI vs=lv)(hH:HSub H' H):qad C n rs (qh7 err lv H') .ret e H:=
 rR hd h hH (.inl ⟨he,by rw[hv],rfl⟩)
theorem qwy{err:Int}{lv:LV}{H':Heap}{rs:List ResultVar}{vs:List LV}(hd:e.ds=[])(h:qbW C n e H rs vs)(he:err=0)(hv:qbI vs=lv)(hH:HSub H' H):qad C n rs (qh7 err lv H') .normal e H:=
 rO hd h hH (.inl ⟨he,by rw[hv],rfl⟩)
theorem panK{err er:Int}{lv:LV}{H':Heap}{rs:List ResultVar}{nm:List UInt8}(hd:e.ds=[])(he:err=er)(h0:er≠0):qad C n rs (qh7 err lv H') (.panic (vio nm er)) e H:=
 qad.panic hd zhn (.inr ⟨by rw[he];exact h0,⟨nm,by rw[he]⟩,rfl⟩)
end
section
variable{B0:Nat}{w0:World}
theorem qav(b:Bool)(nm:List UInt8)(er:Int)(h0:er≠0):LCalls (KC B0 w0) 133 [bool b,str nm,int .i64 er] [] (qh7 (if b=true then 0 else er) (.tuple []) []):=
 LCalls.mono (qnp b nm er) λr H ⟨h1,h2⟩=>by
  cases b with
  |true=>exact .inl ⟨rfl,h2,h1⟩
  |false=>exact .inr ⟨h0,⟨nm,h2⟩,h1⟩
theorem qdc{k:KB}{c:CEnv}(hk:KBok k c)(d:Nat)(name:List UInt8):LCalls (KC B0 w0) 239 [ptr k.cb 0,str name] (ckH k d) (qh7 (qcd c name) (.tuple []) (ckH k d)):=by
 generalize hI:qcd c name=E;unfold qcd at hI;refine zcI Tryz.func239 rfl (n:=34) rfl rfl rfl ?_;refine gac ?_;refine oP (Pure.setHas rfl rfl zm2 hk.V) rfl ?_;have both:∀ {e:Env} {Q:Post} {ops:Array Oper} {rest:List Oper} {n:Nat},True:=λ{_ _ _ _ _}=>trivial;refine oB 10 rfl (λh1=>?_) (λh1=>?_);have hin:name∈c.vars∨name∈c.own:=.inl (zt h1);refine gac ?_;refine oS (sK (H1:=[]) (F:=ckH k d) [_,_,_] rfl zpr (qav true name 10 zDd) (λ_=>?_) (λnm h=>absurd rfl h)) rfl;refine gam ?_;refine oS (sK (H1:=[]) (F:=ckH k d) [_,_,_] rfl zpr (qav true name 7 zDd) (λ_=>?_) (λnm h=>absurd rfl h)) rfl;refine gaf ?_;exact qwy rfl rN (by rw[<-hI,if_pos hin]) rfl zhr;have hv:name ∉ c.vars:=zf h1;refine gaa ?_;refine oP (Pure.setHas rfl rfl zm5 hk.O) rfl ?_;refine oB 17 rfl (λh2=>?_) (λh2=>?_);have hin:name∈c.vars∨name∈c.own:=.inr (zt h2);refine gac ?_;refine oS (sK (H1:=[]) (F:=ckH k d) [_,_,_] rfl zpr (qav true name 10 zDd) (λ_=>?_) (λnm h=>absurd rfl h)) rfl;refine gam ?_;refine oS (sK (H1:=[]) (F:=ckH k d) [_,_,_] rfl zpr (qav true name 7 zDd) (λ_=>?_) (λnm h=>absurd rfl h)) rfl;refine gaf ?_;exact qwy rfl rN (by rw[<-hI,if_pos hin]) rfl zhr;have ho:name ∉ c.own:=zf h2;rw[if_neg (λh=>h.elim hv ho)] at hI;refine gac ?_;refine oP (Pure.setHas rfl rfl zm1 hk.G) rfl ?_;refine oB 26 rfl (λh3=>?_) (λh3=>?_);rw[if_pos (zt h3)] at hI;refine gad ?_;refine oS (sK (H1:=[]) (F:=ckH k d) [_,_,_] rfl zpr (qav false name 10 zDd) (λh=>absurd h zDd) (λnm _ e' he'=>?_)) rfl;refine gak ?_;exact panK (he'.trans rfl) (by rw[<-hI];rfl) zDd;rw[if_neg (zf h3)] at hI;refine gad ?_;refine oS (sK (H1:=[]) (F:=ckH k d) [_,_,_] rfl zpr (qav true name 10 zDd) (λ_=>?_) (λnm h=>absurd rfl h)) rfl;refine gam ?_;refine oS (sK (H1:=[]) (F:=ckH k d) [_,_,_] rfl zpr (qav false name 7 zDd) (λh=>absurd h zDd) (λnm _ e' he'=>?_)) rfl;exact panK (he'.trans rfl) (by rw[<-hI];rfl) zDd
theorem qeN{k:KB}{c:CEnv}(hk:KBok k c)(d:Nat)(name:List UInt8):LCalls (KC B0 w0) 240 [ptr k.cb 0,str name] (ckH k d) (qh7 (qeS c name) (.tuple []) (ckH k d)):=by
 generalize hI:qeS c name=E;unfold qeS at hI;refine zcI Tryz.func240 rfl (n:=35) rfl rfl rfl ?_;refine gac ?_;refine oP (Pure.setHas rfl rfl zm3 hk.A) rfl ?_;refine oB 10 rfl (λh1=>?_) (λh1=>?_);refine gab ?_;refine oS (sK (H1:=[]) (F:=ckH k d) [_,_,_] rfl zpr (qav true name 10 zDd) (λ_=>?_) (λnm h=>absurd rfl h)) rfl;refine gam ?_;refine oS (sK (H1:=[]) (F:=ckH k d) [_,_,_] rfl zpr (qav true name 7 zDd) (λ_=>?_) (λnm h=>absurd rfl h)) rfl;refine gaf ?_;exact qwy rfl rN (by rw[<-hI,if_pos (zt h1)]) rfl zhr;rw[if_neg (zf h1)] at hI;refine gac ?_;refine oP (Pure.setHas rfl rfl zm1 hk.G) rfl ?_;refine oB 18 rfl (λh2=>?_) (λh2=>?_);have hin:name∈c.globals∨name∈c.own:=.inl (zt h2);refine gad ?_;refine oS (sK (H1:=[]) (F:=ckH k d) [_,_,_] rfl zpr (qav false name 10 zDd) (λh=>absurd h zDd) (λnm _ e' he'=>?_)) rfl;refine gak ?_;exact panK (he'.trans rfl) (by rw[<-hI,if_pos hin];rfl) zDd;refine gad ?_;refine oP (Pure.setHas rfl rfl zm5 hk.O) rfl ?_;refine oB 26 rfl (λh3=>?_) (λh3=>?_);have hin:name∈c.globals∨name∈c.own:=.inr (zt h3);refine gad ?_;refine oS (sK (H1:=[]) (F:=ckH k d) [_,_,_] rfl zpr (qav false name 10 zDd) (λh=>absurd h zDd) (λnm _ e' he'=>?_)) rfl;refine gak ?_;exact panK (he'.trans rfl) (by rw[<-hI,if_pos hin];rfl) zDd;rw[if_neg (λh=>h.elim (zf h2) (zf h3))] at hI;refine gad ?_;refine oS (sK (H1:=[]) (F:=ckH k d) [_,_,_] rfl zpr (qav true name 10 zDd) (λ_=>?_) (λnm h=>absurd rfl h)) rfl;refine gam ?_;refine oS (sK (H1:=[]) (F:=ckH k d) [_,_,_] rfl zpr (qav false name 7 zDd) (λh=>absurd h zDd) (λnm _ e' he'=>?_)) rfl;exact panK (he'.trans rfl) (by rw[<-hI];rfl) zDd
end
@[reducible] def iv(n:Nat):LV:=int .i64 (n:Int)
section
variable{B0:Nat}{w0:World}
theorem qrC{k:KB}{c:CEnv}(hk:KBok k c){B D:Nat}(hB:KnB B D c.funcs)(hB8:B<=100000000)(hD8:D<=100000000)(d:Nat)(hd:d<=1000000000)(name:List UInt8)(ns:List Nat)(hl:ns.length<=2000000)(hns:∀ n∈ns,n<=1000000000) :
  LCalls (KC B0 w0) 259 [ptr k.cb 0,str name,.list (ns.map iv)] (ckH k d) (qh7 (callE c name ns.length) (iv (qiW c name ns)) (ckH k (max d (qgp c qbN name)))):=by
 generalize hI:callE c name ns.length=E;generalize hN:qiW c name ns=N;generalize hDD:qgp c qbN name=DD;unfold callE at hI;unfold qiW at hN;unfold qgp at hDD;have hll:(ns.map iv).length=ns.length:=zLm _;refine zcI Tryz.func259 rfl (n:=110) rfl rfl rfl ?_;refine gac ?_
 by_cases hin:name=[105,110]
 rw[if_pos hin] at hI hN;rw[if_neg (λh=>h.2.1 hin)] at hDD;subst hDD;refine oC rfl (λ_=>?_) (λhc=>absurd hin (zf hc));refine gac ?_;refine oS (sK (H1:=[]) (F:=ckH k d) [_,_,_] rfl zpr (qav (decide (((ns.map iv).length:Int)=0)) name 1 zDd) (λh=>?_) (λnm h e' he'=>?_)) rfl
 have h0:ns.length=0:=by
  by_cases h1:((ns.map iv).length:Int)=0
  omega;rw[decide_eq_false h1] at h;cases h
 refine gas ?_;exact retK rfl (zra rfl) (by rw[<-hI,if_pos h0]) (by rw[<-hN];rfl) (by rw[max_zero];exact zhR _)
 have h0:¬ ns.length=0:=by
  intro h1;rw[decide_eq_true (show((ns.map iv).length:Int)=0 by omega)] at h;exact h rfl
 rw[show(if decide (((ns.map iv).length:Int)=0)=true then (0:Int) else 1)=1 by rw[if_neg];simp only[zDe];omega];refine gae ?_;exact panK (he'.trans rfl) (by rw[<-hI,if_neg h0]) zDd;rw[if_neg hin] at hI hN;refine oC rfl (λhc=>absurd (zt hc) hin) (λ_=>?_);refine gal ?_
 by_cases hout:name=[111,117,116]
 rw[if_pos hout] at hI hN;rw[if_neg (λh=>h.2.2 hout)] at hDD;subst hDD;refine oC rfl (λ_=>?_) (λhc=>absurd hout (zf hc));refine gac ?_;refine oS (sK (H1:=[]) (F:=ckH k d) [_,_,_] rfl zpr (qav (decide (((ns.map iv).length:Int)=1)) name 1 zDd) (λh=>?_) (λnm h e' he'=>?_)) rfl
 have h0:ns.length=1:=by
  by_cases h1:((ns.map iv).length:Int)=1
  omega;rw[decide_eq_false h1] at h;cases h
 obtain⟨a,l,rfl⟩:∃ a l,ns=a::l:=by
  cases ns with
  |nil=>simp at h0
  |cons a l=>exact⟨a,l,rfl⟩
 refine gac ?_;refine oP (xR (el':=iv a) (cs:=[iv a]) rfl rfl zo rfl rfl rfl) rfl ?_;refine gad ?_;exact retK rfl (zra rfl) (by rw[<-hI,if_pos h0]) (by rw[<-hN];rfl) (by rw[max_zero];exact zhR _)
 have h0:¬ ns.length=1:=by
  intro h1;rw[decide_eq_true (show((ns.map iv).length:Int)=1 by omega)] at h;exact h rfl
 rw[show(if decide (((ns.map iv).length:Int)=1)=true then (0:Int) else 1)=1 by rw[if_neg];simp only[zDe];omega];refine gae ?_;exact panK (he'.trans rfl) (by rw[<-hI,if_neg h0]) zDd;rw[if_neg hout] at hI hN;rw[if_pos ⟨rfl,hin,hout⟩] at hDD;refine oC rfl (λhc=>absurd (zt hc) hout) (λ_=>?_);refine gac ?_;have hF:=hk.F name
 cases hfn:c.fn name with
 |none=>
  rw[hfn] at hI hF;refine oP (Pure.kvMiss2 rfl rfl zm4 hF) rfl ?_;refine gad ?_;refine oS (sA λb7=>?_) rfl;refine gab ?_;refine oP (Pure.setHas rfl rfl zm3 hk.V) rfl ?_;refine oB 46 rfl (λh2=>?_) (λh2=>?_);have hbad:name∈c.vars∨name∈c.arrays∨name∈c.own:=.inl (zt h2);refine gad ?_;refine oS (sK (H1:=[]) (F:=_::ckH k d) [_,_,_] rfl zpr (qav false name 10 zDd) (λh=>absurd h zDd) (λnm _ e' he'=>?_)) rfl;refine gak ?_;exact panK (he'.trans rfl) (by rw[<-hI];exact if_pos hbad) zDd;refine gad ?_;refine oP (Pure.setHas rfl rfl zm4 hk.A) rfl ?_;refine oB 54 rfl (λh3=>?_) (λh3=>?_);have hbad:name∈c.vars∨name∈c.arrays∨name∈c.own:=.inr (.inl (zt h3));refine gad ?_;refine oS (sK (H1:=[]) (F:=_::ckH k d) [_,_,_] rfl zpr (qav false name 10 zDd) (λh=>absurd h zDd) (λnm _ e' he'=>?_)) rfl;refine gak ?_;exact panK (he'.trans rfl) (by rw[<-hI];exact if_pos hbad) zDd;refine gad ?_;refine oP (Pure.setHas rfl rfl zm6 hk.O) rfl ?_;refine oB 63 rfl (λh4=>?_) (λh4=>?_);have hbad:name∈c.vars∨name∈c.arrays∨name∈c.own:=.inr (.inr (zt h4));refine gad ?_;refine oS (sK (H1:=[]) (F:=_::ckH k d) [_,_,_] rfl zpr (qav false name 10 zDd) (λh=>absurd h zDd) (λnm _ e' he'=>?_)) rfl;refine gak ?_;exact panK (he'.trans rfl) (by rw[<-hI];exact if_pos hbad) zDd;refine gad ?_;refine oS (sK (H1:=[]) (F:=_::ckH k d) [_,_,_] rfl zpr (qav true name 10 zDd) (λ_=>?_) (λnm h=>absurd rfl h)) rfl;refine gam ?_;refine oS (sK (H1:=[]) (F:=_::ckH k d) [_,_,_] rfl zpr (qav false name 7 zDd) (λh=>absurd h zDd) (λnm _ e' he'=>?_)) rfl;refine gak ?_
  exact panK (he'.trans rfl) (by rw[<-hI];exact if_neg (λh=>h.elim (zf h2) (λh=>h.elim (zf h3) (zf h4)))) zDd
 |some f=>
  rw[hfn] at hI hF hN hDD;have hkb:=hB f (List.mem_of_find?_eq_some hfn);refine oP (Pure.kvHit2 rfl rfl zm4 hF) rfl ?_;refine gad ?_;refine oS (sA λb7=>?_) rfl;refine gab ?_;refine oS (sK (H1:=[]) (F:=_::ckH k d) [_,_,_] rfl zpr (qav true name 10 zDd) (λ_=>?_) (λnm h=>absurd rfl h)) rfl;refine gam ?_;refine oS (sK (H1:=[]) (F:=_::ckH k d) [_,_,_] rfl zpr (qav true name 7 zDd) (λ_=>?_) (λnm h=>absurd rfl h)) rfl;refine gac ?_
  by_cases h0:ns.length=f.params
  rotate_left;have h0':¬ ((ns.map iv).length:Int)=(f.params:Int):=by omega
  refine oB 76 rfl (λh=>absurd (zt h) h0') (λ_=>?_);refine oS (sK (H1:=[]) (F:=_::ckH k d) [_,_,_] rfl zpr (qav false name 1 zDd) (λh=>absurd h zDd) (λnm _ e' he'=>?_)) rfl;refine gak ?_;exact panK (he'.trans rfl) (by rw[<-hI];exact if_neg h0) zDd;have h0':((ns.map iv).length:Int)=(f.params:Int):=by omega
  refine oB 76 rfl (λ_=>?_) (λh=>absurd h0' (zf h));have hI0:E=0:=by rw[<-hI];exact if_pos h0
  refine oS (sK (H1:=[]) (F:=_::ckH k d) [_,_,_] rfl zpr (qav true name 1 zDd) (λ_=>?_) (λnm h=>absurd rfl h)) rfl;refine gaa ?_;refine cD (m:=12) rfl [(b7,.cells 160 [iv f.params,iv f.need,iv f.depth])] ?_;refine zQ38 ?_;refine aT 7 rfl rfl (Pure.add rfl rfl zo) ?_;refine aL ?_ zhp;refine lO 4 (lH rfl rfl (pL (c:=iv d) rfl zm1 rfl) ?_);refine lO 8 (lH rfl rfl (Pure.max2e d (f.depth+1) rfl rfl zo zo) ?_);refine lO 9 (lH rfl rfl (pN rfl) ?_);refine lO 10 (lH rfl rfl (pF rfl) ?_);refine lO 11 (lS (H1:=[(k.cb,.cells 126 [.atom (.map (some k.gm)),.atom (.map (some k.vm)),.atom (.map (some k.am)),.atom (.map (some k.fm)),str k.name,.atom (.map (some k.om)),int .i64 (d:Int)])]) rfl (.inl rfl) rfl (show Pick _ _ _ from pT pH) zhp (sS (n:=1) (cs':=[_,_,_,_,_,_,iv (max d (f.depth+1))]) rfl pH rfl rfl rfl rfl rfl ?_));refine lD zk ?_;have hdd:max d DD=max d (f.depth+1):=by rw[<-hDD]
  rw[hdd];refine qN ?_;refine qag.perm (H':=(b7,.cells 160 [iv f.params,iv f.need,iv f.depth])::ckH k (max d (f.depth+1))) (List.Perm.swap _ _ _) ?_;refine gac ?_;refine oP (Pure.max2e (f.params+1) f.need rfl rfl zo zo) rfl ?_;refine gac ?_
  refine oL (λkk ls H'=>∃ (pre l1:List Nat) (m:Nat),ns=pre++l1/\kk=l1.length/\ls=[(9,iv m),(96,.list (ns.map iv)),(97,int .i64 ((ns.map iv).length:Int)),(98,iv pre.length)]/\H'=ckH k (max d (f.depth+1))/\qhQ pre.length l1 m=N)
   ⟨ns.length,_,_,⟨[],ns,max (f.params+1) f.need,rfl,rfl,rfl,rfl,hN⟩,⟨rfl,rfl,rfl,rfl,trivial⟩,zhD zhr⟩ ?_
  rintro kk ls H' ⟨pre,l1,m,hLe,rfl,rfl,rfl,hS⟩ j hj
  have hb2:pre.length<=2000000:=by
   rw[hLe,zLa] at hl;omega
  refine gai ?_;refine oC rfl (λhc=>?_) (λhc=>?_);have hlen:=zt hc;rw[zLm,hLe,zLa] at hlen
  obtain⟨a,l2,rfl⟩:∃ a l2,l1=a::l2:=by
   cases l1 with
   |nil=>simp at hlen
   |cons a l2=>exact⟨a,l2,rfl⟩
  have ha:a<=1000000000:=hns a (by rw[hLe];exact mem_append_right _ zMs);rw[qhQ] at hS;refine gac ?_;refine oP (xR (el':=iv a) (cs:=[iv a]) rfl rfl zo (by rw[hLe];exact get_mid iv pre a l2) rfl rfl) rfl ?_;refine gab ?_;refine oP (Pure.max2e m (pre.length+a) rfl rfl zo zo) rfl ?_;refine gac ?_;exact⟨l2.length,_,_,lt_succ_self _,⟨pre++[a],l2,max m (pre.length+a),by rw[hLe];simp,rfl,rfl,rfl,by rw[zLa];exact hS⟩,⟨rfl,rfl,rfl,qao (by simp),trivial⟩,zhR _,hj⟩;have hlen:=zf hc;rw[zLm,hLe,zLa] at hlen
  obtain rfl:l1=[]:=by
   cases l1 with
   |nil=>rfl
   |cons a l2=>simp at hlen;omega
  rw[qhQ] at hS;refine gac ?_;exact retK hj (zra rfl) hI0 (by rw[<-hS];rfl) zhr
end
theorem qqk{x y:Nat×LObj}{A B:Heap}:List.Perm (x::y::(A++B)) (A++(x::y::B)):=by
 have h:List.Perm (([x,y]++A)++B) ((A++[x,y])++B):=zPc.append_right B;rw[zAs A] at h;exact h
theorem qjp{x:Nat×LObj}{A B:Heap}:List.Perm (x::(A++B)) (A++(x::B)):=by
 have h:List.Perm (([x]++A)++B) ((A++[x])++B):=zPc.append_right B;rw[zAs A] at h;exact h
theorem qxo{x y:Nat×LObj}{A B:Heap}:List.Perm (A++(x::y::B)) (B++(x::y::A)):=by
 refine qqk.symm.trans ?_;exact(zPc (l₁:=x::y::A) (l₂:=B))
theorem qxN(n:Nat):∀ v∈[iv n],v.cells.length=1:=λv hv=>by rw[List.mem_singleton.1 hv];rfl
theorem qh5(c:CEnv):∀ l:List Ex,(qaY c l).length=l.length
 |[]=>rfl
 |x::l=>by rw[qaY,zLc,zLc,qh5 c l]
theorem qlh(c:CEnv)(x:Ex):∀ l:List Ex,qaY c (l++[x])=qaY c l++[qbb c x]
 |[]=>rfl
 |y::l=>by
  show qaY c (y::(l++[x]))=_;rw[qaY,qlh c x l,qaY];rfl
theorem qnJ(c:CEnv)(x:Ex):∀ l:List Ex,qbZ c (l++[x])=max (qbZ c l) (depE c x)
 |[]=>by
  show max (depE c x) 0=max 0 (depE c x)
  omega
 |y::l=>by
  show qbZ c (y::(l++[x]))=_;rw[qbZ,qnJ c x l,qbZ,Nat.max_assoc]
theorem qkW{c:CEnv}{B D:Nat}(hB:KnB B D c.funcs):∀ {l:List Ex} {n:Nat},n∈qaY c l->n<=4 * ndEs l+B
 |[],n,h=>by rw[qaY] at h;cases h
 |x::l,n,h=>by
  rw[qaY] at h;rw[ndEs];rcases zMi.1 h with rfl|h;have:=qf8 B D c hB x;omega;have:=qkW hB h;omega
section
variable{B0:Nat}{w0:World}
def qx2(B0:Nat)(w0:World)(k:KB)(c:CEnv)(n:Nat):Prop:=∀ (x:Ex) (d:Nat),ndE x<=n->d<=200000000->LCalls (KC B0 w0) 238 [ptr k.cb 0,encE x] (ckH k d) (qh7 (errE c x) (iv (qbb c x)) (ckH k (max d (depE c x))))
theorem qd6{k:KB}{c:CEnv}(hk:KBok k c){B D:Nat}(hB:KnB B D c.funcs)(hB8:B<=100000000)(hD8:D<=100000000):∀ n:Nat,n<=2000000->qx2 B0 w0 k c n
 |0,_=>λx d h _=>by have:=qlP x;omega
 |n+1,hn6=>by
  have ih:=qd6 hk hB hB8 hD8 n zo;intro x d hnd hd;obtain⟨op,num,name,args⟩:=x;rw[ndE] at hnd;have hal:=qf9 args;have hall:(args.map encE).length=args.length:=zLm _;generalize hI:errE c (Ex.mk op num name args)=E;rw[errE] at hI;rw[qbb,depE];rw[qdZ];refine zcI Tryz.func238 rfl (n:=121) rfl rfl rfl ?_;refine gah ?_;refine oS (sB rfl λb3=>?_) rfl;refine gac ?_;refine oS (sF [_] rfl (qlT op) ?_) rfl;refine gaa ?_;refine cM (A:=Unit) (λ_=>[(0,ptr k.cb 0),(3,ptr b3 0)]) (λ_=>(b3,.cells 202 [str op,int .u32 (num:Int),str name,.list (args.map encE)])::ckH k d) (λ_=>qbv op = -1∨qbv op=args.length) ?_ (λ_ hop j hj=>?_);refine cD (m:=14) rfl [(b3,.cells 202 [str op,int .u32 (num:Int),str name,.list (args.map encE)]),(k.cb,.cells 126 [.atom (.map (some k.gm)),.atom (.map (some k.vm)),.atom (.map (some k.am)),.atom (.map (some k.fm)),str k.name,.atom (.map (some k.om)),int .i64 (d:Int)])] ?_;refine aT 0 rfl rfl (pM (lv:=.atom _) rfl) ?_
  by_cases h1:qbv op = -1
  refine LAny.take (i:=1) (zhP pH zhp) rfl zk zk zk rfl (Pure.eqlT h1 rfl rfl) ?_;refine zQ35 ?_;refine zQ29 ?_;refine LAny.takeSkip (i:=7) rfl rfl rfl rfl zk zk zk rfl ?_;refine aT 8 rfl rfl (Pure.pickT (lv:=.atom _) rfl rfl) ?_;refine zQ15 ?_;refine lO 13 (lS (H1:=[]) rfl (.inl rfl) rfl zpr (zhP pH zhp) (qae.callK [_,_,_] rfl (qav true k.name 3 zDd) (λ_=>?_) (λnm h=>absurd rfl h)));refine lD zk ?_;refine qN ?_;exact⟨(),.inl h1,⟨rfl,rfl,trivial⟩,zhR _,rfl⟩;refine LAny.take (i:=1) (zhP pH zhp) rfl zk zk zk rfl (Pure.eqlF h1 rfl rfl) ?_;refine zQ35 ?_;refine LAny.tkW 3 rfl rfl rfl rfl (pM (lv:=.atom _) rfl) ?_;refine LAny.tkW 4 rfl rfl rfl rfl (pF rfl) ?_;refine LAny.tkW 5 rfl rfl rfl rfl (pL (c:=.list _) rfl zm0 rfl) ?_;refine LAny.tkW 6 rfl rfl rfl rfl (Pure.llen rfl) ?_
  by_cases h2:qbv op=args.length
  refine LAny.takeWant (i:=7) (zhP pH zhp) rfl rfl rfl zk zk zk rfl (Pure.eqlT (show qbv op=((args.map encE).length:Int) by rw[hall];exact h2) rfl rfl) ?_;refine aT 8 rfl rfl (Pure.pickF (lv:=.atom _) rfl rfl) ?_;refine zQ15 ?_;refine lO 13 (lS (H1:=[]) rfl (.inl rfl) rfl zpr (zhP pH zhp) (qae.callK [_,_,_] rfl (qav true k.name 3 zDd) (λ_=>?_) (λnm h=>absurd rfl h)));refine lD zk ?_;refine qN ?_;exact⟨(),.inr h2,⟨rfl,rfl,trivial⟩,zhR _,rfl⟩;refine LAny.takeWant (i:=7) (zhP pH zhp) rfl rfl rfl zk zk zk rfl (Pure.eqlF (show ¬ qbv op=((args.map encE).length:Int) by rw[hall];exact h2) rfl rfl) ?_;refine aT 8 rfl rfl (Pure.pickF (lv:=.atom _) rfl rfl) ?_;refine zQ15 ?_;refine lO 13 (lS (H1:=[]) rfl (.inl rfl) rfl zpr (zhP pH zhp) (qae.callK [_,_,_] rfl (qav false k.name 3 zDd) (λh=>absurd h zDd) (λnm _ e' he'=>?_)));refine gak ?_;exact panK (he'.trans rfl) (by rw[<-hI,if_neg (λh=>h.elim h1 h2)];rfl) zDd;rw[if_pos hop] at hI;refine gab ?_
  refine oL (λkk ls H'=>∃ (pre l1:List Ex) (v:LV) (Ha:Heap),args=pre++l1/\kk=l1.length/\ls=[(0,ptr k.cb 0),(3,ptr b3 0),(6,v),(29,.list (args.map encE)),(30,int .i64 ((args.map encE).length:Int)),(31,int .i64 (pre.length:Int))] /\
    H'=(b3,.cells 202 [str op,int .u32 (num:Int),str name,.list (args.map encE)])::(ckH k (max d (qbZ c pre))++Ha)/\GL.Acc 1 v ((qaY c pre).map iv) Ha []/\orE (qbr c l1) (useE c op name args.length)=E)
   ⟨args.length,_,_,⟨[],args,qab,[],rfl,rfl,rfl,rfl,Acc.nil,hI⟩,⟨rfl,rfl,rfl,rfl,rfl,rfl,trivial⟩,⟨[],by
    rw[zLz,zLz,qbZ,max_zero]⟩⟩ ?_
  rintro kk ls H' ⟨pre,l1,v,Ha,hLe,rfl,rfl,rfl,hacc,hI2⟩ j2 hj2
  have hb2:pre.length<=2000000:=by
   have:=congrArg List.length hLe;rw[zLa] at this;omega
  have hdp:max d (qbZ c pre)<=200000000:=by
   have:=qgV B D c hB pre;omega
  refine gai ?_;refine oC rfl (λhc=>?_) (λhc=>?_);have hlen:=zt hc;rw[zLm,hLe,zLa] at hlen
  obtain⟨a,l2,rfl⟩:∃ a l2,l1=a::l2:=by
   cases l1 with
   |nil=>simp at hlen
   |cons a l2=>exact⟨a,l2,rfl⟩
  have ham:ndE a<=ndEs args:=qlG (by rw[hLe];exact mem_append_right _ zMs);rw[qbr] at hI2;refine gaj ?_;refine oP (xR (el':=encE a) (cs:=[_,_,_,_]) rfl rfl zo (by rw[hLe];exact get_mid encE pre a l2) rfl rfl) rfl ?_;refine gad ?_;refine oS (sA λb8=>?_) rfl;refine gab ?_;refine zQ14 ?_;refine gad ?_;refine oS (sK [_,_] rfl qqk (ih a _ zo hdp) (λh0=>?_) (λnm h0 e' he'=>?_)) rfl;rw[h0] at hI2;refine oS (sL (es:=[iv (qbb c a)]) [_] rfl (eC rfl rfl eN) rfl rfl rfl ?_) rfl;refine oS (sG qxo rfl hacc rfl (qxN _) rfl (by rw[zLm,qh5,zLc,zLn];omega) λv' Ha' hacc'=>?_) rfl;refine zQ19 ?_;refine gar ?_
  exact⟨l2.length,_,_,lt_succ_self _,⟨pre++[a],l2,v',Ha',by rw[hLe];simp,rfl,rfl,rfl,by rw[qlh,zMa];exact hacc',by rw[<-hI2];rfl⟩,⟨rfl,rfl,rfl,rfl,rfl,qao (by simp),trivial⟩,by
   rw[qnJ,<-Nat.max_assoc]
   exact zhD zhr,hj2⟩
  refine gae ?_;exact panK ((he'.trans hj2).trans hj) (by rw[<-hI2];unfold orE;rw[if_pos h0,if_pos h0]) h0;have hlen:=zf hc;rw[zLm,hLe,zLa] at hlen
  obtain rfl:l1=[]:=by
   cases l1 with
   |nil=>rfl
   |cons a l2=>simp at hlen;omega
  rw[zLz] at hLe;subst hLe;have hI3:useE c op name args.length=E:=by rw[<-hI2];rfl
  have hds:j2.ds=[]:=hj2.trans hj;generalize hd1:max d (qbZ c args)=d1 at hdp ⊢;have hdd:max d (max (qbZ c args) (qgp c op name))=max d1 (qgp c op name):=by rw[<-hd1,Nat.max_assoc]
  rw[hdd];generalize hns:qaY c args=ns at hacc ⊢;have hnl:ns.length=args.length:=by rw[<-hns,qh5]
  have hnb:∀ m∈ns,m<=1000000000:=λm hm=>by
   rw[<-hns] at hm;have:=qkW hB hm;omega
  have hel:=hacc.elems;refine gac ?_
  have ret1:∀ (nd:LV) {e:Env} {H:Heap},E=0->e.ds=[]->e.s 4=nd->HSub (ckH k d1) H->qgp c op name=0->iv (opN c op name ns)=nd->qad (KC B0 w0) 121 [ResultVar.tmp 4] (qh7 E (iv (opN c op name ns)) (ckH k (max d1 (qgp c op name)))) .ret e H:=λnd {e H} h0 hd he hH hcd hn=>by
   rw[hcd,max_zero];exact retK hd (rC (rT he zsr) rN) h0 hn.symm hH
  have hcall0:¬ op=qbN->qgp c op name=0:=λh=>by
   unfold qgp;rw[if_neg (λh2=>h h2.1)]
  have hE0:¬ op=nVar->¬ op=qec->¬ op=qbN->E=0:=λa1 a2 a3=>by
   rw[<-hI3];unfold useE;rw[if_neg a1,if_neg a2,if_neg a3]
  have HS:HSub (ckH k d1) ((b3,.cells 202 [str op,int .u32 (num:Int),str name,.list (args.map encE)])::(ckH k d1++Ha)):=zhD qcY
  by_cases h1:op=[110,117,109]
  refine oC rfl (λ_=>?_) (λhc=>absurd h1 (zf hc));refine gas ?_;refine ret1 (iv 1) ?_ ?_ ?_ ?_ ?_ ?_;subst h1;exact hE0 zDd zDd zDd;exact hds;rfl;exact HS;subst h1;exact hcall0 zDd;subst h1;rfl;refine oC rfl (λhc=>absurd (zt hc) h1) (λ_=>?_);refine gal ?_
  by_cases h2:op=[118,97,114]
  refine oC rfl (λ_=>?_) (λhc=>absurd h2 (zf hc));have hI4:qcd c name=E:=by rw[<-hI3];subst h2;rfl
  refine gac ?_;refine oS (sK [_,_] rfl qjp (qdc hk d1 name) (λh0=>?_) (λnm h0 e' he'=>?_)) rfl;rw[hI4] at h0;refine gas ?_;refine ret1 (iv 1) h0 ?_ ?_ ?_ ?_ ?_;exact hds;rfl;exact qcY;subst h2;exact hcall0 zDd;subst h2;rfl;refine gae ?_;exact panK (he'.trans hds) hI4.symm h0;refine oC rfl (λhc=>absurd (zt hc) h2) (λ_=>?_);refine gal ?_
  by_cases h3:op=[101,108,101,109]
  refine oC rfl (λ_=>?_) (λhc=>absurd h3 (zf hc));have hI4:qeS c name=E:=by rw[<-hI3];subst h3;rfl
  obtain⟨n0,rfl⟩:∃ n0,ns=[n0]:=by
   have h9:ns.length=1:=by
    rcases hop with h|h;subst h3;exact absurd h zDd;subst h3;have h9:(1:Int)=(args.length:Int):=h;omega
   cases ns with
   |nil=>cases h9
   |cons a l=>
    cases l with
    |nil=>exact⟨a,rfl⟩
    |cons b l=>simp at h9
  have hn0:=hnb n0 zMs;refine gac ?_;refine oS (sK [_,_] rfl qjp (qeN hk d1 name) (λh0=>?_) (λnm h0 e' he'=>?_)) rfl;rw[hI4] at h0;refine gai ?_;refine zQ37 ?_;refine ret1 (int .i64 (1+(n0:Int))) h0 ?_ ?_ ?_ ?_ ?_;exact hds;rfl;exact qcY;subst h3;exact hcall0 zDd;subst h3;exact qao (show((1+n0:Nat):Int)=_ by omega);refine gae ?_;exact panK (he'.trans hds) hI4.symm h0;refine oC rfl (λhc=>absurd (zt hc) h3) (λ_=>?_);refine gal ?_
  by_cases h4:op=[99,97,108,108]
  refine oC rfl (λ_=>?_) (λhc=>absurd h4 (zf hc));have hI4:callE c name ns.length=E:=by rw[<-hI3,hnl];subst h4;rfl
  have hN4:opN c op name ns=qiW c name ns:=by subst h4;rfl
  have hD4:qgp c op name=qgp c qbN name:=by subst h4;rfl
  refine gac ?_;refine zQ14 ?_;refine LOps.sub 67 rfl hacc.sub ?_;refine oS (sK [_,_,_] rfl qjp (qrC hk hB hB8 hD8 d1 zo name ns zo hnb) (λh0=>?_) (λnm h0 e' he'=>?_)) rfl;rw[hI4] at h0;refine gaa ?_;rw[hN4,hD4];exact retK hds (zra rfl) h0 rfl qcY;refine gae ?_;exact panK (he'.trans hds) hI4.symm h0;refine oC rfl (λhc=>absurd (zt hc) h4) (λ_=>?_);have hE00:=hE0 h2 h3 h4;have hcd:=hcall0 h4;refine gal ?_
  by_cases h5:op=[110,101,103]
  refine oC rfl (λ_=>?_) (λhc=>absurd h5 (zf hc))
  obtain⟨n0,rfl⟩:∃ n0,ns=[n0]:=by
   have h9:ns.length=1:=by
    rcases hop with h|h;subst h5;exact absurd h zDd;subst h5;have h9:(1:Int)=(args.length:Int):=h;omega
   cases ns with
   |nil=>cases h9
   |cons a l=>
    cases l with
    |nil=>exact⟨a,rfl⟩
    |cons b l=>simp at h9
  have hn0:=hnb n0 zMs;refine gah ?_;refine zQ37 ?_;refine ret1 (int .i64 (1+(n0:Int))) hE00 ?_ ?_ ?_ hcd ?_;exact hds;rfl;exact HS;subst h5;exact qao (show((1+n0:Nat):Int)=_ by omega);refine oC rfl (λhc=>absurd (zt hc) h5) (λ_=>?_);have h5n:=h5;clear h5;refine gal ?_
  by_cases h5:op=[110,111,116]
  refine oC rfl (λ_=>?_) (λhc=>absurd h5 (zf hc))
  obtain⟨n0,rfl⟩:∃ n0,ns=[n0]:=by
   have h9:ns.length=1:=by
    rcases hop with h|h;subst h5;exact absurd h zDd;subst h5;have h9:(1:Int)=(args.length:Int):=h;omega
   cases ns with
   |nil=>cases h9
   |cons a l=>
    cases l with
    |nil=>exact⟨a,rfl⟩
    |cons b l=>simp at h9
  have hn0:=hnb n0 zMs;refine gah ?_;refine zQ37 ?_;refine oP (Pure.max2e 2 n0 rfl rfl rfl rfl) rfl ?_;refine gaa ?_;refine ret1 (iv (max 2 n0)) hE00 ?_ ?_ ?_ hcd ?_;exact hds;rfl;exact HS;subst h5;rfl;refine oC rfl (λhc=>absurd (zt hc) h5) (λ_=>?_)
  have hbin:ns.length=2:=by
   unfold qbv at hop;rw[if_neg (λh=>h.elim h1 h2),if_neg (λh=>h.elim h3 (λh=>h.elim h5n h5)),if_neg (show ¬ op=qbN from h4)] at hop;split at hop;rcases hop with h|h <;> omega;rcases hop with h|h <;> omega
  obtain⟨a,b,rfl⟩:∃ a b,ns=[a,b]:=by
   match ns,hbin with
   |[a,b],_=>exact⟨a,b,rfl⟩
  have ha:=hnb a zMs;have hb:=hnb b (zMo _ zMs);refine gaa ?_;refine qag.quiet zk ?_;refine qP (pM (lv:=v) rfl) rfl ?_;refine qP (xR (el':=iv a) (cs:=[iv a]) hel rfl zo rfl rfl rfl) rfl ?_;refine gad ?_;refine qP (pM (lv:=v) rfl) rfl ?_;refine qP (xR (el':=iv b) (cs:=[iv b]) hel rfl zo rfl rfl rfl) rfl ?_;refine gab ?_
  by_cases h6:op=[62]
  refine oC rfl (λ_=>?_) (λhc=>absurd h6 (zf hc));refine gaa ?_;refine oC rfl (λ_=>?_) (λhc=>absurd h6 (zf hc));refine gac ?_;refine oP (Pure.max3e 3 a (1+b) rfl rfl rfl rfl rfl zo) rfl ?_;refine gaa ?_;refine ret1 (iv (max (max 3 a) (1+b))) hE00 ?_ ?_ ?_ hcd ?_;exact hds;rfl;exact HS;subst h6;rfl;refine oC rfl (λhc=>absurd (zt hc) h6) (λ_=>?_);have h6n:=h6;clear h6;refine gal ?_
  by_cases h6:op=[60,61]
  refine oC rfl (λ_=>?_) (λhc=>absurd h6 (zf hc));refine gac ?_;refine oP (Pure.max3e 3 a (1+b) rfl rfl rfl rfl rfl zo) rfl ?_;refine gaa ?_;refine ret1 (iv (max (max 3 a) (1+b))) hE00 ?_ ?_ ?_ hcd ?_;exact hds;rfl;exact HS;subst h6;rfl;refine oC rfl (λhc=>absurd (zt hc) h6) (λ_=>?_);refine gal ?_
  by_cases h7:op=[33,61]
  refine oC rfl (λ_=>?_) (λhc=>absurd h7 (zf hc));refine gac ?_;refine oP (Pure.max3e 3 (1+a) (2+b) rfl rfl rfl rfl zo zo) rfl ?_;refine gaa ?_;refine ret1 (iv (max (max 3 (1+a)) (2+b))) hE00 ?_ ?_ ?_ hcd ?_;exact hds;rfl;exact HS;subst h7;rfl;refine oC rfl (λhc=>absurd (zt hc) h7) (λ_=>?_);refine gal ?_
  by_cases h8:op=[38,38]
  refine oC rfl (λ_=>?_) (λhc=>absurd h8 (zf hc));refine gac ?_;refine oP (Pure.max2e (1+a) (2+b) rfl rfl zo zo) rfl ?_;refine gaa ?_;refine ret1 (iv (max (1+a) (2+b))) hE00 ?_ ?_ ?_ hcd ?_;exact hds;rfl;exact HS;subst h8;rfl;refine oC rfl (λhc=>absurd (zt hc) h8) (λ_=>?_);refine gal ?_
  by_cases h9:op=[124,124]
  refine oC rfl (λ_=>?_) (λhc=>absurd h9 (zf hc));refine gac ?_;refine oP (Pure.max2e (2+a) (3+b) rfl rfl zo zo) rfl ?_;refine gaa ?_;refine ret1 (iv (max (2+a) (3+b))) hE00 ?_ ?_ ?_ hcd ?_;exact hds;rfl;exact HS;subst h9;rfl;refine oC rfl (λhc=>absurd (zt hc) h9) (λ_=>?_);refine gac ?_;refine oP (Pure.max3e 2 a (1+b) rfl rfl rfl rfl rfl zo) rfl ?_;refine gaf ?_;refine ret1 (iv (max (max 2 a) (1+b))) hE00 ?_ ?_ ?_ hcd ?_;exact hds;rfl;exact HS;unfold opN;rw[if_neg (λh=>h.elim h1 h2),if_neg (λh=>h.elim h3 h5n),if_neg (show ¬ op=qbN from h4),if_neg (show ¬ op=nNot from h5),if_neg (λh=>h.elim h6n h6),if_neg h7,if_neg h8,if_neg h9];rfl
end
theorem qyf{name:List UInt8}{index value:List Ex}{thn els:List Sm}:qbR (.mk 1 name index value thn els)=((!decide (name=[])) && decide (((index.map encE).length:Int)=0) && decide (((value.map encE).length:Int)=1) && decide (((thn.map encS).length:Int)=0) && decide (((els.map encS).length:Int)=0)):=by
 rw[Bool.eq_iff_iff];simp only[qbR,zBa,zDe,Bool.not_eq_true',decide_eq_false_iff_not,zLm];constructor;exact zT14;exact zT17
theorem qxU{name:List UInt8}{index value:List Ex}{thn els:List Sm}:qbR (.mk 2 name index value thn els)=((!decide (name=[])) && decide (((index.map encE).length:Int)=1) && decide (((value.map encE).length:Int)=1) && decide (((thn.map encS).length:Int)=0) && decide (((els.map encS).length:Int)=0)):=by
 rw[Bool.eq_iff_iff];simp only[qbR,zBa,zDe,Bool.not_eq_true',decide_eq_false_iff_not,zLm];constructor;exact zT14;exact zT17
theorem qyF{name:List UInt8}{index value:List Ex}{thn els:List Sm}:qbR (.mk 3 name index value thn els)=((!!decide (name=[])) && decide (((index.map encE).length:Int)=0) && decide (((value.map encE).length:Int)=1)):=by
 rw[Bool.eq_iff_iff];simp only[qbR,zBa,zDe,Bool.not_eq_true',decide_eq_false_iff_not,zLm];constructor;intro h;have h':_:=zt h;obtain⟨a1,a2,a3⟩:=h';exact⟨⟨by simpa using a1,by omega⟩,by omega⟩;rintro⟨⟨a1,a2⟩,a3⟩;exact decide_eq_true ⟨by simpa using a1,by omega,by omega⟩
theorem qxR{name:List UInt8}{index value:List Ex}{thn els:List Sm}:qbR (.mk 4 name index value thn els)=((!!decide (name=[])) && decide (((index.map encE).length:Int)=0) && decide (((value.map encE).length:Int)=1) && decide (((els.map encS).length:Int)=0)):=by
 rw[Bool.eq_iff_iff];simp only[qbR,zBa,zDe,Bool.not_eq_true',decide_eq_false_iff_not,zLm];constructor;intro h;have h':_:=zt h;obtain⟨a1,a2,a3,a4⟩:=h';exact⟨⟨⟨by simpa using a1,by omega⟩,by omega⟩,by omega⟩;rintro⟨⟨⟨a1,a2⟩,a3⟩,a4⟩;exact decide_eq_true ⟨by simpa using a1,by omega,by omega,by omega⟩
theorem qym{name:List UInt8}{index value:List Ex}{thn els:List Sm}:qbR (.mk 5 name index value thn els)=((!!decide (name=[])) && decide (((index.map encE).length:Int)=0) && decide (((value.map encE).length:Int)=1) && decide (((thn.map encS).length:Int)=0) && decide (((els.map encS).length:Int)=0)):=by
 rw[Bool.eq_iff_iff];simp only[qbR,zBa,zDe,Bool.not_eq_true',decide_eq_false_iff_not,zLm];constructor;exact zT14;exact zT17
theorem qyt{name:List UInt8}{index value:List Ex}{thn els:List Sm}:qbR (.mk 6 name index value thn els)=((!!decide (name=[])) && decide (((index.map encE).length:Int)=0) && decide (((value.map encE).length:Int)=1) && decide (((thn.map encS).length:Int)=0) && decide (((els.map encS).length:Int)=0) && decide (exOp (value.headD default)=[99,97,108,108])):=by
 rw[Bool.eq_iff_iff];simp only[qbR,zBa,zDe,Bool.not_eq_true',decide_eq_false_iff_not,zLm];constructor;intro h;have h':_:=zt h;obtain⟨a1,a2,a3,a4,a5,a6⟩:=h';exact⟨⟨⟨⟨⟨by simpa using a1,by omega⟩,by omega⟩,by omega⟩,by omega⟩,a6⟩;rintro⟨⟨⟨⟨⟨a1,a2⟩,a3⟩,a4⟩,a5⟩,a6⟩;exact decide_eq_true ⟨by simpa using a1,by omega,by omega,by omega,by omega,a6⟩
theorem qyk{name:List UInt8}{index value:List Ex}{thn els:List Sm}:qbR (.mk 7 name index value thn els)=((!!decide (name=[])) && decide (((index.map encE).length:Int)=0) && decide (((value.map encE).length:Int)=0) && decide (((thn.map encS).length:Int)=0) && decide (((els.map encS).length:Int)=0)):=by
 rw[Bool.eq_iff_iff];simp only[qbR,zBa,zDe,Bool.not_eq_true',decide_eq_false_iff_not,zLm];constructor;exact zT14;exact zT17
section
variable{B0:Nat}{w0:World}
theorem qoe(s:Sm):LCalls (KC B0 w0) 237 [encS s] [] (Ret (bool (qbR s))):=by
 obtain⟨kind,name,index,value,thn,els⟩:=s;rw[qcJ];refine zcI Tryz.func237 rfl (n:=159) rfl rfl rfl ?_;refine gah ?_;refine oS (sB rfl λb1=>?_) rfl;refine gaa ?_;refine qag.quiet zk ?_;refine gab ?_
 by_cases hk1:kind=1
 ·subst hk1;refine oC rfl (λ_=>?_) (λhc=>by cases hc);rw[qyf];refine gag ?_;refine oB 28 rfl (λq1=>?_) (λq1=>?_);rotate_left;exact zT8;refine gaa ?_;refine oB 32 rfl (λq2=>?_) (λq2=>?_);rotate_left;exact zT6;refine gaa ?_;refine oB 36 rfl (λq3=>?_) (λq3=>?_);rotate_left;exact zT12;refine gaa ?_;refine oB 40 rfl (λq4=>?_) (λq4=>?_);rotate_left;exact zT15;refine zQ1 ?_;simp only[q1,q2,q3,q4,Bool.true_and];rfl
 refine oC rfl (λhc=>absurd (zt hc) hk1) (λ_=>?_);refine gan ?_
 by_cases hk2:kind=2
 ·subst hk2;refine oC rfl (λ_=>?_) (λhc=>by cases hc);rw[qxU];refine gag ?_;refine oB 47 rfl (λq1=>?_) (λq1=>?_);rotate_left;exact zT8;refine gaa ?_;refine oB 51 rfl (λq2=>?_) (λq2=>?_);rotate_left;exact zT6;refine gaa ?_;refine oB 55 rfl (λq3=>?_) (λq3=>?_);rotate_left;exact zT12;refine gaa ?_;refine oB 59 rfl (λq4=>?_) (λq4=>?_);rotate_left;exact zT15;refine zQ1 ?_;simp only[q1,q2,q3,q4,Bool.true_and];rfl
 refine oC rfl (λhc=>absurd (zt hc) hk2) (λ_=>?_);refine gan ?_
 by_cases hk3:kind=3
 ·subst hk3;refine oC rfl (λ_=>?_) (λhc=>by cases hc);rw[qyF];refine gab ?_;refine oB 67 rfl (λq1=>?_) (λq1=>?_);rotate_left;exact zT8;refine gaa ?_;refine oB 71 rfl (λq2=>?_) (λq2=>?_);rotate_left;exact zT6;refine zQ1 ?_;simp only[q1,q2,Bool.true_and];rfl
 refine oC rfl (λhc=>absurd (zt hc) hk3) (λ_=>?_);refine gan ?_
 by_cases hk4:kind=4
 ·subst hk4;refine oC rfl (λ_=>?_) (λhc=>by cases hc);rw[qxR];refine gab ?_;refine oB 79 rfl (λq1=>?_) (λq1=>?_);rotate_left;exact zT8;refine gaa ?_;refine oB 83 rfl (λq2=>?_) (λq2=>?_);rotate_left;exact zT6;refine gaa ?_;refine oB 87 rfl (λq3=>?_) (λq3=>?_);rotate_left;exact zT12;refine zQ1 ?_;simp only[q1,q2,q3,Bool.true_and];rfl
 refine oC rfl (λhc=>absurd (zt hc) hk4) (λ_=>?_);refine gan ?_
 by_cases hk5:kind=5
 ·subst hk5;refine oC rfl (λ_=>?_) (λhc=>by cases hc);rw[qym];refine gab ?_;refine oB 95 rfl (λq1=>?_) (λq1=>?_);rotate_left;exact zT8;refine gaa ?_;refine oB 99 rfl (λq2=>?_) (λq2=>?_);rotate_left;exact zT6;refine gaa ?_;refine oB 103 rfl (λq3=>?_) (λq3=>?_);rotate_left;exact zT12;refine gaa ?_;refine oB 107 rfl (λq4=>?_) (λq4=>?_);rotate_left;exact zT15;refine zQ1 ?_;simp only[q1,q2,q3,q4,Bool.true_and];rfl
 refine oC rfl (λhc=>absurd (zt hc) hk5) (λ_=>?_);refine gan ?_
 by_cases hk6:kind=6
 ·subst hk6;refine oC rfl (λ_=>?_) (λhc=>by cases hc);rw[qyt];refine gab ?_;refine oB 115 rfl (λq1=>?_) (λq1=>?_);rotate_left;exact zT8;refine gaa ?_;refine oB 119 rfl (λq2=>?_) (λq2=>?_);rotate_left;exact zT6;refine gaa ?_;refine oB 123 rfl (λq3=>?_) (λq3=>?_);rotate_left;exact zT12;refine gaa ?_;refine oB 127 rfl (λq4=>?_) (λq4=>?_);rotate_left;exact zT15;refine gaa ?_;refine oB 131 rfl (λq5=>?_) (λq5=>?_);rotate_left;refine zQ1 ?_;simp only[q1,q2,q3,q4,q5,Bool.false_and,Bool.and_false,Bool.true_and];rfl;refine gad ?_
  obtain⟨x0,rfl⟩:∃ x,value=[x]:=by
   have h1:((value.map encE).length:Int)=1:=zt q3;rw[zLm] at h1
   cases value with
   |nil=>simp at h1
   |cons x l=>
    cases l with
    |nil=>exact⟨x,rfl⟩
    |cons y l=>simp at h1;omega
  first|refine LOps.want rfl rfl ?_|skip
  refine oP (xR (el':=encE x0) (cs:=[_,_,_,_]) rfl rfl zo rfl rfl rfl) rfl ?_;refine gad ?_;refine rR rfl (zra rfl) zhn ⟨?_,rfl⟩;simp only[q1,q2,q3,q4,q5,Bool.true_and];rfl
 refine oC rfl (λhc=>absurd (zt hc) hk6) (λ_=>?_);refine gan ?_
 by_cases hk7:kind=7
 ·subst hk7;refine oC rfl (λ_=>?_) (λhc=>by cases hc);rw[qyk];refine gab ?_;refine oB 143 rfl (λq1=>?_) (λq1=>?_);rotate_left;exact zT8;refine gaa ?_;refine oB 147 rfl (λq2=>?_) (λq2=>?_);rotate_left;exact zT6;refine gaa ?_;refine oB 151 rfl (λq3=>?_) (λq3=>?_);rotate_left;exact zT12;refine gaa ?_;refine oB 155 rfl (λq4=>?_) (λq4=>?_);rotate_left;exact zT15;refine zQ1 ?_;simp only[q1,q2,q3,q4,Bool.true_and];rfl
 refine oC rfl (λhc=>absurd (zt hc) hk7) (λ_=>?_);refine gac ?_;refine rR rfl (zra rfl) zhn ⟨?_,rfl⟩
 have hf:qbR (.mk kind name index value thn els)=false:=by
  simp only[qbR];rw[if_neg hk1,if_neg hk2,if_neg hk3,if_neg hk4,if_neg hk5,if_neg hk6,if_neg hk7]
 rw[hf];rfl
end
end Go.Proofs.YtkihibnffkpnkaaGreatDoor.Chk
namespace Go.GL
open Go.RowKit
theorem qaF:∀ l:List (List UInt8),qdz 1 (l.map str)
 |[]=>eN
 |a::l=>eC rfl rfl (qaF l)
theorem LCalls.ret_strs{C:Ctx}{f:FuncId}{vs:List Value}{l:List (List UInt8)}{t:TypeId}
  (h:∀ w,Below C.B0 C.w0 w->Calls C.P f vs.toArray w (λe w'=>e=.returned (.slice (some ⟨w.heap.size,0,none⟩) l.length l.length)/\w'=w.alloc (.cells (l.map λs=>Value.string ⟨s.toArray⟩).toArray t))):LCalls C f (vs.map .atom) [] (Ret (.list (l.map str))):=λxs w L hv hH=>by
 have hx:xs=vs:=by
  clear h hH
  induction vs generalizing xs with
  |nil=>simpa [RepL] using hv
  |cons v vs ih=>
   simp only[zMc,RepL,Rep] at hv;obtain⟨y,ys,rfl,rfl,hv⟩:=hv;rw[ih _ hv]
 subst hx;refine(h w hH.base).mono λe w' he=>?_;obtain⟨rfl,rfl⟩:=he
 have hr:RepL w L (l.map str) (l.map λs=>Value.string ⟨s.toArray⟩):=by
  have:=qa3 (w:=w) (L:=L) (l.map λs=>Value.string ⟨s.toArray⟩);rw[map_map] at this;exact this
 have hok:qdz 1 (l.map str):=qaF l;have hl:(l.map str).length=l.length:=zLm _;have:=qjN (K:=λlv H=>∃ b,lv=.app b l.length 1 (l.map str)) (t:=t) (cap:=l.length) (rest:=[]) hH hr hok zo (by simp) λb=>⟨b,rfl⟩
 have e1:((l.map λs=>Value.string ⟨s.toArray⟩).flatMap λv=>v.cells.toList)++[]=l.map λs=>Value.string ⟨s.toArray⟩:=by
  rw[zLz];clear this hok hr h hv hl
  induction l with
  |nil=>rfl
  |cons a l ih=>rw[zMc,List.flatMap_cons,ih];try rfl
 rw[e1,hl] at this;obtain⟨lv,H',L',r1,r2,r3,b,rfl⟩:=this;exact⟨.list (l.map str),[],L',r1.weak zhn,r2.weak zhn,LV.Sub.app _ _ _ _ _ _ _ r3,rfl,rfl⟩
end Go.GL
namespace Go.Proofs.YtkihibnffkpnkaaGreatDoor
open Go.GL Go.RowKit Go.Stele
namespace Asm
def GM(w0:World):Prop:=∃ m,w0.cell? ⟨0,0,none⟩=some (.int .i64 m)
theorem qlj{w:World}{L:Live}{b:Nat}:∀ (k off:Nat) (ws:List (List UInt8)),qak w L b k off (ws.map str)->∀ (j:Nat) x,(ws.map λl=>(⟨l.toArray⟩:ByteArray))[j]? = some x->k=1/\w.cell? ⟨b,off+j,none⟩=some (.string x)
 |k,off,[],_,j,x,h=>by simp at h
 |k,off,s::ws,h,0,x,hx=>by
  simp only[zMc,qak] at h;obtain⟨⟨hk,_,y,hy,hr⟩,_⟩:=h;simp only[Rep] at hr;simp at hx;rw[<-hx,Nat.add_zero,hy,hr]
  exact⟨hk.symm,rfl⟩
 |k,off,s::ws,h,j+1,x,hx=>by
  simp only[zMc,qak] at h;obtain⟨⟨hk,_⟩,h2⟩:=h;have:=qlj k (off+k) ws h2 j x (by simpa using hx);refine⟨hk.symm,?_⟩;rw[<-this.2,<-hk,Nat.add_assoc,Nat.add_comm 1 j]
section
variable{B0:Nat}{w0:World}
theorem cutPrefix_spec(s p:List UInt8):LCalls (KC B0 w0) 182 [str s,str p] [] (Ret (.tuple [str (Go.Lib.trimPrefix s p),bool (Go.Lib.hasPrefix s p)])):=by
 refine LCalls.mono (LCalls.of_belowT (vs:=[.string ⟨s.toArray⟩,.string ⟨p.toArray⟩]) (p:=λus=>us=[.string ⟨(Go.Lib.trimPrefix s p).toArray⟩,.bool (Go.Lib.hasPrefix s p)]) λw hw=>?_) ?_;refine(Tryz.strings_CutPrefix ⟨s.toArray⟩ ⟨p.toArray⟩ w).mono λe w' he=>⟨_,he.1,rfl,by rw[he.2];exact Below.refl _ _⟩;rintro r H ⟨v,rfl,⟨us,rfl,rfl⟩,rfl⟩;exact⟨rfl,rfl⟩
theorem cutSuffix_spec(s p:List UInt8)(hs:s.length<=1000000000):LCalls (KC B0 w0) 192 [str s,str p] [] (Ret (.tuple [str (Go.Lib.trimSuffix s p),bool (Go.Lib.hasSuffix s p)])):=by
 refine LCalls.mono (LCalls.of_belowT (vs:=[.string ⟨s.toArray⟩,.string ⟨p.toArray⟩]) (p:=λus=>us=[.string ⟨(Go.Lib.trimSuffix s p).toArray⟩,.bool (Go.Lib.hasSuffix s p)]) λw hw=>?_) ?_;refine(Tryz.strings_CutSuffix ⟨s.toArray⟩ ⟨p.toArray⟩ w (by show s.toArray.size<=_;simp;omega)).mono λe w' he=>⟨_,he.1,rfl,by rw[he.2];exact Below.refl _ _⟩;rintro r H ⟨v,rfl,⟨us,rfl,rfl⟩,rfl⟩;exact⟨rfl,rfl⟩
theorem joinS_spec(sep:List UInt8)(ws:List (List UInt8))(hn:ws.length<=1000000000)(hl:(Go.Lib.join ws sep).length<=1000000000):LCalls (KC B0 w0) 83 [.list (ws.map str),str sep] [] (Ret (str (Go.Lib.join ws sep))):=λxs w L hv hH=>by
 simp only[RepL] at hv;obtain⟨y,ys,rfl,hy,z,zs,rfl,hz,rfl⟩:=hv;simp only[Rep] at hy hz;obtain⟨a,cap,rfl,hcap,hrows⟩:=hy;subst hz;rw[zLm] at hcap
 have hmap:(ws.map λl=>(⟨l.toArray⟩:ByteArray)).map (·.data.toList)=ws:=by
  rw[map_map]
  conv=>rhs;rw[<-List.map_id ws]
  rfl
 have hc:Calls Tryz.prog 83 #[.slice a ws.length cap,.string ⟨sep.toArray⟩] w λe w'=>e=.returned (.string ⟨(Go.Lib.join ws sep).toArray⟩)/\Below w.heap.size w w':=by
  by_cases hne:ws=[]
  ·subst hne;exact(Tryz.strings_Join_none a cap ⟨sep.toArray⟩ w).mono λe w' he=>⟨by rw[he.1];try rfl,by rw[he.2];exact Below.refl _ _⟩
  obtain⟨b,off,k,rfl,hr⟩:=hrows (by simpa using hne);have hcells:=λj x hx=>(qlj k off ws hr j x hx).2
  have hb:b<w.heap.size:=by
   obtain⟨s,r,rfl⟩:=List.exists_cons_of_ne_nil hne;have:=hcells 0 _ rfl;exact World.block_lt_of_cell? _ _ this
  have:=Tryz.strings_Join b off cap (ws.map λl=>(⟨l.toArray⟩:ByteArray)) ⟨sep.toArray⟩ w hcells hb (by rw[zLm];omega) (by rw[zLm];exact hcap) (by rw[hmap];show(Go.Lib.join ws sep).length<=_;omega);rw[zLm,hmap] at this;exact this
 rw[zLm];refine hc.mono λe w' he=>?_;obtain⟨rfl,hb⟩:=he;obtain⟨h1,h2⟩:=qiY hH hb;exact⟨str (Go.Lib.join ws sep),[],L,h1,h2,qai,rfl,rfl⟩
theorem GM.at(hG:GW B0 w0)(h:GM w0){w:World}(hb:Below B0 w0 w):∃ m,w.cell? ⟨0,0,none⟩=some (.int .i64 m):=by
 obtain⟨m,hm⟩:=h;exact⟨m,(cell_of_heap (hb.block 0 (Nat.lt_of_lt_of_le zDd hG.big)) 0).trans hm⟩
theorem qlg(hG:GW B0 w0)(hM:GM w0)(s:List UInt8)(c:UInt8)(hs:s.length<=1000000000):LCalls (KC B0 w0) 154 [str s,str [c]] [] (Ret (.list ((qaT c s).map str))):=by
 rw[<-qry];refine LCalls.ret_strs (vs:=[.string ⟨s.toArray⟩,.string ⟨#[c]⟩]) (t:=9) λw hw=>?_;obtain⟨m,hm⟩:=GM.at hG hM hw;have h1:=Tryz.strings_Split ⟨s.toArray⟩ ⟨#[c]⟩ m w (by show s.toArray.size<_;simp;omega) hm (zNr 1)
 have e1:(Go.Lib.splitB ⟨#[c]⟩ 0 (Go.Lib.countB ⟨s.toArray⟩ ⟨#[c]⟩) ⟨s.toArray⟩).map Value.string=(Go.Lib.split s [c]).map λs=>Value.string ⟨s.toArray⟩:=by
  have:=Go.Lib.splitB_data ⟨#[c]⟩ 0 (Go.Lib.countB ⟨s.toArray⟩ ⟨#[c]⟩) ⟨s.toArray⟩;have e2:Go.Lib.split s [c]=Go.Lib.splitK (⟨#[c]⟩:ByteArray).data.toList 0 (Go.Lib.countB ⟨s.toArray⟩ ⟨#[c]⟩) (⟨s.toArray⟩:ByteArray).data.toList:=rfl;rw[e2,<-this,map_map]
  try rfl
 have e3:(Go.Lib.split s [c]).length=Go.Lib.countB ⟨s.toArray⟩ ⟨#[c]⟩+1:=by
  have:=congrArg List.length e1;rw[zLm,zLm,Go.Lib.splitB_all ⟨#[c]⟩ (zNr 1) 0 _ _ rfl] at this;exact this.symm
 rw[e1] at h1;rw[e3];exact h1
theorem qu5(hG:GW B0 w0)(hM:GM w0)(s:List UInt8)(c:UInt8)(hs:s.length<=1000000000):LCalls (KC B0 w0) 155 [str s,str [c]] [] (qg3 λlv=>∃ a b,lv=.tuple [str (s.takeWhile λd=>decide (d≠c)),str a,bool b]):=by
 rw[<-qwj];refine LCalls.mono (LCalls.of_belowT (vs:=[.string ⟨s.toArray⟩,.string ⟨#[c]⟩]) (p:=λus=>us=[.string ⟨(Go.Lib.cut s [c]).1.toArray⟩,.string ⟨(Go.Lib.cut s [c]).2.1.toArray⟩,.bool (Go.Lib.cut s [c]).2.2]) λw hw=>?_) ?_;obtain⟨m,hm⟩:=GM.at hG hM hw;refine(Tryz.strings_Cut ⟨s.toArray⟩ ⟨#[c]⟩ m w (by show s.toArray.size<_;simp;omega) hm).mono λe w' he=>?_;obtain⟨rfl,n,rfl⟩:=he;exact⟨_,rfl,rfl,below_drewN (Below.refl _ _) n⟩;rintro r H ⟨v,rfl,⟨us,rfl,rfl⟩,rfl⟩;exact⟨_,rfl,⟨_,_,rfl⟩,rfl⟩
def qcl(p:Wd×Nat):LV:=.agg [str p.1,int .i64 p.2]
end
def qlx:List UInt8:=[97,98,99,100,101,102,103,104,105,106,107,108,109,110,111,112,113,114,115,116,117,118,119,120,121,122,95,48,49,50,51,52,53,54,55,56,57]
theorem qrf(c:UInt8):qlx.contains c=qaW c:=by
 have:∀ n:Nat,n<256->qlx.contains (UInt8.ofNat n)=qaW (UInt8.ofNat n):=by decide +kernel
 have h:=this c.toNat c.toNat_lt
 rwa [UInt8.ofNat_toNat] at h
theorem qpx{st:List UInt8}{p:UInt8->Bool}(he:∀ c,st.contains c=p c)(s:List UInt8):(Go.Lib.trimS s st=[]) ↔ s.all p=true:=by
 have he:(λc=>st.contains c)=p:=funext he;unfold Go.Lib.trimS Go.Lib.trimLeftS Go.Lib.trimRightS;rw[he,qb5];constructor;intro h
 by_cases h2:s.reverse.dropWhile p=[]
 rw[qb5] at h2;rw[all_reverse] at h2;exact h2;exfalso;obtain⟨c,r,hcr⟩:=List.exists_cons_of_ne_nil h2
 have h3:p c=false:=by
  have:=List.head?_dropWhile_not p s.reverse;rw[hcr] at this;simpa using this
 rw[hcr,all_reverse,List.all_cons,h3] at h;cases h;intro h;have h2:s.reverse.dropWhile p=[]:=by rw[qb5,all_reverse];exact h
 rw[h2]
 try rfl
def qbs(o:Option Wd)(lv:LV):Prop:=∃ s,lv=.tuple [str s,bool o.isSome]/\∀ l,o=some l->s=l
theorem qbs.mk{o:Option Wd}{s:Wd}{b:Bool}(hb:o.isSome=b)(hs:∀ l,o=some l->s=l):qbs o (.tuple [str s,bool b]):=⟨s,by rw[hb],hs⟩
theorem qbG{p q:Bool}{s:Wd}{o:Option Wd}(h:o=if p=true/\q=true then some s else none):o.isSome=(p && q)/\∀ l,o=some l->s=l:=by
 subst h;cases p <;> cases q <;> simp
attribute [local irreducible] LOps qag qae LCalls Go.GL.Pure qax qam qad LQ LAny qaJ qan
section
variable{B0:Nat}{w0:World}
theorem qqa(s st:List UInt8)(hs:s.length<=1000000000)(h1:st.length<=100)(h3:st.all (λb=>decide (b.toNat<128))=true):LCalls (KC B0 w0) 194 [str s,str st] [] (Ret (str (Go.Lib.trimS s st))):=
 LCalls.ret_of (vs:=[.string ⟨s.toArray⟩,.string ⟨st.toArray⟩]) λw hw=>(Go.Proofs.Any.strings_Trim_laid Tryz.lays160 (by kernel_rfl) ⟨s.toArray⟩ ⟨st.toArray⟩ w (by show s.toArray.size<=_;simp;omega) (by show st.toArray.size<_;simp;omega) (Go.Proofs.ascii_of_all h3))
theorem qmF(s:List UInt8)(hs:s.length<=1000000000):LCalls (KC B0 w0) 193 [str s] [] (Ret (bool (qkr s))):=by
 have hT:=qqa (B0:=B0) (w0:=w0) s qlx hs zDd zDd;have hnil:=qpx qrf s;refine zcI Tryz.func193 rfl (n:=23) rfl rfl rfl ?_;refine gac ?_;refine oB 5 rfl (λh1=>?_) (λh1=>?_);have e:s=[]:=of_decide_eq_true h1;subst e;refine gaa ?_;refine oC rfl (λh=>?_) (λh=>by cases h);refine gao ?_;exact qac rfl (rC (rT (v:=.atom _) rfl (vR _)) rN) rfl;have h1':¬ s=[]:=of_decide_eq_false h1
 obtain⟨c,r,rfl⟩:∃ c r,s=c::r:=by
  cases s with
  |nil=>exact absurd rfl h1'
  |cons c r=>exact⟨c,r,rfl⟩
 have hN:=qph c r;refine gad ?_;refine oB 10 rfl (λh2=>?_) (λh2=>?_);have h2':¬ (c::r).length<=40:=by have:=of_decide_eq_true h2;omega
 rw[decide_eq_false h2',Bool.false_and,Bool.false_and] at hN;refine gaa ?_;refine oC rfl (λh=>?_) (λh=>by cases h);refine gao ?_;exact qac rfl (rC (rT (v:=.atom _) rfl (vR _)) rN) (qau hN.symm);have h2':(c::r).length<=40:=by have:=of_decide_eq_false h2;omega
 rw[decide_eq_true h2',Bool.true_and] at hN;refine gaa ?_;refine oP (pI (c:=c) rfl rfl (by omega) rfl) rfl ?_;refine gaa ?_;refine oB 15 rfl (λh3=>?_) (λh3=>?_)
 have h3':qaV c=false:=by
  unfold qaV;rw[decide_eq_false (by have:cv c<97:=of_decide_eq_true h3;omega),Bool.false_and]
 rw[h3',Bool.false_and] at hN;refine gaa ?_;refine oC rfl (λh=>?_) (λh=>by cases h);refine gao ?_;exact qac rfl (rC (rT (v:=.atom _) rfl (vR _)) rN) (qau hN.symm);refine gaa ?_;refine oP (pI (c:=c) rfl rfl (by omega) rfl) rfl ?_;refine gad ?_;refine oC rfl (λh=>?_) (λh=>?_)
 have h3':qaV c=false:=by
  unfold qaV;rw[decide_eq_false (p:=cv c<=122) (by have:cv c > 122:=of_decide_eq_true h;omega),Bool.and_false]
 rw[h3',Bool.false_and] at hN;refine gao ?_;exact qac rfl (rC (rT (v:=.atom _) rfl (vR _)) rN) (qau hN.symm)
 have h3':qaV c=true:=by
  unfold qaV;rw[decide_eq_true (by have:¬ cv c<97:=of_decide_eq_false h3;omega),decide_eq_true (by have:¬ cv c > 122:=of_decide_eq_false h;omega)]
  try rfl
 rw[h3',Bool.true_and] at hN;refine gac ?_;refine oS (sF [_,_] rfl hT ?_) rfl;refine gaa ?_
 exact qac rfl (rC (rT (v:=.atom _) rfl (vR _)) rN) (qau (by
  rw[hN,Bool.eq_iff_iff,decide_eq_true_iff]
  exact hnil))
theorem qgP(p:Wd×Nat)(hs:p.1.length<=1000000000):LCalls (KC B0 w0) 156 [qcl p] [] (qg3 (qbs (defW p.1))):=by
 obtain⟨w,ln⟩:=p;simp only at hs ⊢;obtain⟨r1,r2⟩:=qbG (qvQ w)
 have hlen:(Go.Lib.trimSuffix w [58]).length<=1000000000:=by
  unfold Go.Lib.trimSuffix;split;rw[List.length_take];omega;exact hs
 unfold qcl;refine zcI Tryz.func156 rfl (n:=18) rfl rfl rfl ?_;refine gah ?_;refine oS (sB (cs:=[str w,int .i64 ln]) rfl λb1=>?_) rfl;refine gac ?_;refine oS (sF [_,_] rfl (cutSuffix_spec w [58] hs) ?_) rfl;refine gac ?_;refine oB 14 rfl (λh=>?_) (λh=>?_);exact zT23;rw[h,Bool.false_and] at r1;refine gaa ?_;exact qcj rfl (rC (rT (v:=.atom _) rfl (vR _)) (rC (rT (v:=.atom _) rfl (vR _)) rN)) (qbs.mk r1 r2)
theorem qj7(p:Wd×Nat)(hs:p.1.length<=1000000000):LCalls (KC B0 w0) 157 [qcl p] [] (qg3 (qbs (refW p.1))):=by
 obtain⟨w,ln⟩:=p;simp only at hs ⊢;obtain⟨r1,r2⟩:=qbG (qv7 w)
 have hlen:(Go.Lib.trimPrefix w [38]).length<=1000000000:=by
  unfold Go.Lib.trimPrefix;split;rw[length_drop];omega;exact hs
 unfold qcl;refine zcI Tryz.func157 rfl (n:=18) rfl rfl rfl ?_;refine gah ?_;refine oS (sB (cs:=[str w,int .i64 ln]) rfl λb1=>?_) rfl;refine gac ?_;refine oS (sF [_,_] rfl (cutPrefix_spec w [38]) ?_) rfl;refine gac ?_;refine oB 14 rfl (λh=>?_) (λh=>?_);exact zT23;rw[h,Bool.false_and] at r1;refine gaa ?_;exact qcj rfl (rC (rT (v:=.atom _) rfl (vR _)) (rC (rT (v:=.atom _) rfl (vR _)) rN)) (qbs.mk r1 r2)
theorem qnv(p:Wd×Nat)(hs:p.1.length<=1000000000):LCalls (KC B0 w0) 158 [qcl p] [] (Ret (bool (qka p.1))):=by
 obtain⟨w,ln⟩:=p;simp only at hs ⊢;have hT:=qqa (B0:=B0) (w0:=w0) w qdA hs zDd zDd;have hnil:(Go.Lib.trimS w qdA=[]) ↔ qka w=true:=qpx (p:=λc=>qdA.contains c) (λc=>rfl) w;unfold qcl;refine zcI Tryz.func158 rfl (n:=7) rfl rfl rfl ?_;refine gah ?_;refine oS (sB (cs:=[str w,int .i64 ln]) rfl λb1=>?_) rfl;refine gac ?_;refine oS (sF [_,_] rfl hT ?_) rfl;refine gaa ?_
 exact qac rfl (rC (rT (v:=.atom _) rfl (vR _)) rN) (qau (by
  rw[Bool.eq_iff_iff,decide_eq_true_iff]
  exact hnil))
theorem qg8(c:UInt8):LCalls (KC B0 w0) 161 [int .u8 c.toNat] [] (Ret (bool (qap c))):=by
 have hD:qap c=(decide (48<=cv c) && decide (cv c<=57)):=rfl;refine zcI Tryz.func161 rfl (n:=9) rfl rfl rfl ?_;refine gab ?_;refine oB 5 rfl (λh=>?_) (λh=>?_);have h':cv c ≥ 48:=of_decide_eq_true h;rw[decide_eq_true (show 48<=cv c from h'),Bool.true_and] at hD;refine gad ?_;exact qac rfl (rC (rT (v:=.atom _) rfl (vR _)) rN) (qau hD.symm);have h':¬ cv c ≥ 48:=of_decide_eq_false h;rw[decide_eq_false (show ¬ 48<=cv c from h'),Bool.false_and] at hD;refine gaa ?_;exact qac rfl (rC (rT (v:=.atom _) rfl (vR _)) rN) (qau hD.symm)
theorem qfG(hG:GW B0 w0)(n:Nat)(hn:n<=1000000000000):LCalls (KC B0 w0) 160 [int .i64 n] [] (Ret (str (qeb n))):=by
 have hi:=qdp hG n (by omega);have hne:=qcq n
 have hl:(Go.Lib.decDigits n).length<=20:=by
  rw[Go.Lib.decDigits_length];exact zNt (qf1 12 n (by omega)) zDd
 have hA:qeb n=([48,48,48,48,48]++Go.Lib.decDigits n).drop (([48,48,48,48,48]++Go.Lib.decDigits n).length-6):=rfl;generalize Go.Lib.decDigits n=d at hi hne hl hA;have hpos:=List.length_pos_iff.2 hne;have hsl:([48,48,48,48,48]++d:List UInt8).length=d.length+5:=by simp
 refine zcI Tryz.func160 rfl (n:=12) rfl rfl rfl ?_;refine gap ?_;refine oS (sF [_] rfl hi ?_) rfl;refine gab ?_;refine oP (Pure.sslice (l:=[48,48,48,48,48]++d) (i:=(([48,48,48,48,48]++d:List UInt8).length:Int)-6) (j:=(([48,48,48,48,48]++d:List UInt8).length:Int)) rfl ⟨_,rfl⟩ rfl (by omega) (by omega) (by omega)) rfl ?_;refine gaf ?_
 exact qac rfl (rC (rT (v:=.atom _) rfl (vR _)) rN) (by
  rw[hA];have e1:(((([48,48,48,48,48]++d:List UInt8).length:Nat):Int)-6).toNat=([48,48,48,48,48]++d:List UInt8).length-6:=by omega
  show str (List.drop (((([48,48,48,48,48]++d:List UInt8).length:Nat):Int)-6).toNat (List.take ((([48,48,48,48,48]++d:List UInt8).length:Nat):Int).toNat ([48,48,48,48,48]++d)))=_
  rw[e1,Int.toNat_natCast,List.take_length])
theorem qkj(b:Nat)(l:List UInt8)(H:Heap)(hB:BH b l H):LCalls (KC B0 w0) 159 [ptr b 0] H (λr H'=>r=.ret (int .i64 l.length)/\H'=H):=by
 obtain⟨p,v,Hv,hp,hacc,rfl⟩:=hB;refine zcI Tryz.func159 rfl (n:=8) rfl rfl rfl ?_;refine gac ?_;refine oP (Pure.blen rfl hacc) rfl ?_;refine gaf ?_;exact rR rfl (rC (rT (v:=.atom _) rfl (vR _)) rN) (zhR _) ⟨rfl,rfl⟩
theorem qkB(b:Nat)(l:List UInt8)(c:UInt8)(H:Heap)(hB:BH b l H)(hlen:l.length<=10000000000):LCalls (KC B0 w0) 162 [ptr b 0,int .u8 c.toNat] H (λr H'=>(∃ x,r=.ret x)/\BH b (l++[c]) H'):=by
 obtain⟨p,v,Hv,hp,hacc,rfl⟩:=hB;refine zcI Tryz.func162 rfl (n:=17) rfl rfl rfl ?_;refine gap ?_;refine oS (S.callH (H1:=[(b,_)]) (F:=Hv) [_] rfl (List.Perm.refl _) (qgt b p (.atom v) hp) (λx H' h=>?_) (λch H' h=>?_)) rfl;obtain⟨⟨x',hx'⟩,rfl⟩:=h;cases hx';refine gac ?_;refine zQ0 ?_;refine oS (S.appBL1 (q:=(b,.cells 69 [ptr b 0,.atom v])) (l:=l) (m:=[c]) rfl hacc rfl (by simp) (by simp;omega) λv' H' hacc'=>?_) rfl;refine gaa ?_;have hacc2:=hacc';generalize l++[c]=lm at hacc' hacc2 ⊢
 cases hacc' with
 |nil=>
  refine gab ?_
  exact rR rfl (rC (rT (v:=.atom _) rfl (vR _)) rN) (zhR _) ⟨⟨_,rfl⟩,ptr b 0,_,_,.inr rfl,hacc2,rfl⟩
 |row h0 h1 h2=>
  refine gab ?_;exact rR rfl (rC (rT (v:=.atom _) rfl (vR _)) rN) (zhR _) ⟨⟨_,rfl⟩,ptr b 0,_,_,.inr rfl,hacc2,rfl⟩
 obtain⟨⟨x',hx'⟩,_⟩:=h;cases hx'
end
end Asm
end Go.Proofs.YtkihibnffkpnkaaGreatDoor
