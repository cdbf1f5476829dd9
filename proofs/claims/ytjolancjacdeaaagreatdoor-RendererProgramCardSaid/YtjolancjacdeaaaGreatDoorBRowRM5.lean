import Derived.Test.YtjolancjacdeaaaGreatDoorProg
import Derived.Shelf.Strings.Builder1
import Derived.Shelf.Strings.Builder2
import Derived.Shelf.Strings.OnBuilder
import Derived.Shelf.Strings.Trim
import Derived.Shelf.Small.Utf8
import Derived.Shelf.Small.Strs
import Derived.Shelf.Small.Wraps
import Derived.Shelf.Strings.BuilderF
import Derived.Shelf.Strings.BuilderK
import Derived.Shelf.Utf8.RuneCount
import Derived.Shelf.Strings.Builder2Cap
import Derived.Shelf.Strconv.Atoi
import Derived.Shelf.Strconv.Itoa0
import Derived.Shelf.Strconv.Itoa1
import Derived.Shelf.LaysM
import Derived.Shelf.Strconv.Itoa2
import Derived.Shelf.Strconv.Itoa3
import Derived.Shelf.Strconv.AtoiErrFast
import Derived.Shelf.Strconv.ParseIntEmpty
import Derived.Shelf.Strconv.AtoiFail
import Derived.Shelf.Strconv.Clone
import Derived.Shelf.Strconv.SyntaxError
import Derived.Shelf.LaysC
import Derived.Shelf.Strconv.ToError
import Derived.Shelf.Strconv.AtoiErr
import Derived.Shelf.Strconv.ErrVar
import Derived.Shelf.Strconv.Lower
import Derived.Shelf.Strconv.ParseUint10
import Derived.Shelf.Strconv.ParseUint10Empty
import Derived.Shelf.Strconv.ParseUint10Any
import Derived.Shelf.Strconv.ParseInt10
import Derived.Shelf.Strconv.AtoiLong
import Derived.Shelf.Strconv.AtoiInnerAll
import Derived.Shelf.Strconv.RangeError
import Derived.Shelf.Strconv.ToErrorRange
import Derived.Shelf.Strconv.AtoiAll
import Derived.Shelf.Strconv.ErrVarAll
import Derived.Shelf.Strconv.ParseUintEmpty
import Derived.Shelf.Strconv.ParseUint10b64
import Derived.Shelf.Strconv.ParseUint10b32
import Derived.Shelf.Strconv.ParseUint10b16
import Derived.Shelf.Strconv.ParseUint10b8
import Derived.Shelf.Strconv.ParseUint10At
import Derived.Shelf.Strconv.ParseInt10At64
import Derived.Shelf.Strconv.ParseInt10At32
import Derived.Shelf.Strconv.ParseInt10At16
import Derived.Shelf.Strconv.ParseInt10At8
import Derived.Shelf.Strconv.ParseInt10All
import Derived.Ground.MpProg
import Derived.Shelf.Pu.ParseUintPublic10
import Derived.Shelf.Pu.ErrVarParseUint
import Derived.Shelf.Strings.Search1
import Derived.Shelf.Strings.Search2
import Derived.Shelf.Strings.Search3
import Derived.Shelf.Strings.Cut
import Derived.Shelf.Strings.Count
import Derived.Shelf.Strings.Shaped
import Derived.Shelf.Strings.Prefix
import Derived.Shelf.Strings.Split
import Derived.Shelf.Strings.SplitShaped
import Derived.Shelf.Unicode.Decode
import Derived.Shelf.Strings.Runes
import Derived.Shelf.Strings.RuneCount
import Derived.Shelf.Strings.IndexAny
import Derived.Shelf.Strings.AsciiSet
import Derived.Shelf.Strings.IndexAnyAll
import Derived.Shelf.Strings.Explode
import Derived.Shelf.Bits.Mul64
import Derived.Shelf.Strings.Repeat
import Derived.Shelf.Unicode.DecodeSlow
import Derived.Shelf.Unicode.DecodeAny
import Derived.Shelf.Unicode.DecodeLast
import Derived.Shelf.Strings.BuilderCap
import Derived.Shelf.Slices.Turned
import Derived.Ground.Names2Prog
import Derived.Shelf.Slices.Clone
import Derived.Ground.SlgnProg
import Derived.Shelf.SlicesE.Clone
import Derived.Lib.Walk
import Derived.Lib.ItoaMem
import Derived.Lib.AppendIntMem
import Derived.WalkKit
import Derived.BigCall
import Derived.BigGuard
import Derived.WalkSmall
import Derived.Test.YtjolancjacdeaaaGreatDoorBRowRM4
set_option linter.unusedVariables false
set_option linter.unusedSimpArgs false
set_option maxRecDepth 100000
set_option maxHeartbeats 4000000
open Go.GL (zk)
open List (mem_append_right length_drop)
open Nat (lt_succ_self)
namespace Go.Proofs.YtjolancjacdeaaaGreatDoor
open Go.GL
noncomputable abbrev ui:=Tryz.prog
abbrev Fa:=fb ui
abbrev Gc:=mi ui
abbrev bh:=Xp ui
abbrev ah:=Sf ui
abbrev Yj:=Yl ui
abbrev Bk:=Vi ui
abbrev wo:=Aa ui
abbrev aq:=yk ui
abbrev Zs:=bg ui
instance:Al ui:=⟨zk⟩
instance:bh 3 1:=.of zk
instance:Yj 3:=.of zk
instance:xg ui 3 .i64:=.of zk
instance:ah 3 [.int .i64 0]:=.of (v:=.int .i64 0) (n:=1) zk rfl rfl
instance:Zs 3 1 8:=.of zk
instance:bh 4 1:=.of zk
instance:Yj 4:=.of zk
instance:xg ui 5 .u8:=.of zk
instance:ah 5 [.int .u8 0]:=.of (v:=.int .u8 0) (n:=1) zk rfl rfl
instance:Zs 5 1 1:=.of zk
instance:bh 9 1:=.of zk
instance:Yj 9:=.of zk
instance:Xi ui 9:=.of zk
instance:ah 9 [.string ⟨#[]⟩]:=.of (v:=.string ⟨#[]⟩) (n:=1) zk rfl rfl
instance:Zs 9 1 16:=.of zk
instance:Yj 23:=.of zk
instance:bh 24 1:=.of zk
instance:Yj 24:=.of zk
instance:ah 24 [.int .i64 0]:=.of (v:=.int .i64 0) (n:=1) zk rfl rfl
instance:bh 28 3:=.of zk
instance:aq 28 3:=.of zk
instance:Gc 28 0 0:=.of zk
instance:Gc 28 1 1:=.of zk
instance:Bk 28 [(0,1),(1,1),(2,1)]:=.of zk
instance:ah 28 [.string ⟨#[]⟩,.int .i64 0,.int .i64 0]:=.of (v:=.agg #[.string ⟨#[]⟩,.int .i64 0,.int .i64 0]) (n:=3) zk rfl rfl
instance:bh 31 2:=.of zk
instance:aq 31 2:=.of zk
instance:Gc 31 0 0:=.of zk
instance:Gc 31 1 1:=.of zk
instance:Bk 31 [(0,1),(1,1)]:=.of zk
instance:ah 31 [.int .i64 0,.string ⟨#[]⟩]:=.of (v:=.agg #[.int .i64 0,.string ⟨#[]⟩]) (n:=2) zk rfl rfl
instance:wo 32 31 2:=.of zk
instance:bh 33 1:=.of zk
instance:Yj 33:=.of zk
instance:xg ui 33 .u32:=.of zk
instance:ah 33 [.int .u32 0]:=.of (v:=.int .u32 0) (n:=1) zk rfl rfl
instance:Zs 33 1 4:=.of zk
instance:bh 34 1:=.of zk
instance:Yj 34:=.of zk
instance:wo 34 33 1:=.of zk
instance:bh 41 1:=.of zk
instance:Yj 41:=.of zk
instance:wo 41 9 1:=.of zk
instance:ah 41 [.slice none 0 0]:=.of (v:=.slice none 0 0) (n:=1) zk rfl rfl
instance:Zs 41 1 24:=.of zk
instance:bh 42 1:=.of zk
instance:Yj 42:=.of zk
instance:wo 42 145 2:=.of zk
instance:bh 43 1:=.of zk
instance:Yj 43:=.of zk
instance:wo 43 149 4:=.of zk
instance:bh 45 3:=.of zk
instance:aq 45 3:=.of zk
instance:Gc 45 0 0:=.of zk
instance:Gc 45 1 1:=.of zk
instance:Gc 45 2 2:=.of zk
instance:Bk 45 [(0,1),(1,1),(2,1)]:=.of zk
instance:ah 45 [.slice none 0 0,.slice none 0 0,.slice none 0 0]:=.of (v:=.agg #[.slice none 0 0,.slice none 0 0,.slice none 0 0]) (n:=3) zk rfl rfl
instance:bh 49 3:=.of zk
instance:aq 49 3:=.of zk
instance:Gc 49 0 0:=.of zk
instance:Gc 49 1 1:=.of zk
instance:Gc 49 2 2:=.of zk
instance:Bk 49 [(0,1),(1,1),(2,1)]:=.of zk
instance:ah 49 [.int .i64 0,.int .i64 0,.int .i64 0]:=.of (v:=.agg #[.int .i64 0,.int .i64 0,.int .i64 0]) (n:=3) zk rfl rfl
instance:wo 53 102 2:=.of zk
instance:Yj 58:=.of zk
instance:bh 60 1:=.of zk
instance:Yj 60:=.of zk
instance:wo 60 5 1:=.of zk
instance:Gc 62 0 0:=.of zk
instance:Gc 62 1 1:=.of zk
instance:Gc 62 2 2:=.of zk
instance:Gc 62 3 3:=.of zk
instance:Gc 62 4 4:=.of zk
instance:Gc 62 5 5:=.of zk
instance:Gc 62 6 6:=.of zk
instance:Gc 62 7 7:=.of zk
instance:Gc 62 8 8:=.of zk
instance:Gc 62 9 9:=.of zk
instance:Bk 62 [(0,1),(1,1),(2,1),(3,1),(4,1),(5,1),(6,1),(7,1),(8,1),(9,1)]:=.of zk
instance:ah 62 [.slice none 0 0,.int .u32 0,.slice none 0 0,.slice none 0 0,.slice none 0 0,.slice none 0 0,.bool false,.int .i64 0,.bool false,.map none]:=.of (v:=.agg #[.slice none 0 0,.int .u32 0,.slice none 0 0,.slice none 0 0,.slice none 0 0,.slice none 0 0,.bool false,.int .i64 0,.bool false,.map none]) (n:=10) zk rfl rfl
instance:bh 64 1:=.of zk
instance:Yj 64:=.of zk
instance:wo 64 74 5:=.of zk
instance:ah 64 [.slice none 0 0]:=.of (v:=.slice none 0 0) (n:=1) zk rfl rfl
instance:Gc 71 1 1:=.of zk
instance:ah 71 [.pointer none,.slice none 0 0]:=.of (v:=.agg #[.pointer none,.slice none 0 0]) (n:=2) zk rfl rfl
instance:bh 72 1:=.of zk
instance:Yj 72:=.of zk
instance:wo 72 41 1:=.of zk
instance:bh 74 5:=.of zk
instance:aq 74 5:=.of zk
instance:Gc 74 0 0:=.of zk
instance:Gc 74 1 1:=.of zk
instance:Gc 74 2 2:=.of zk
instance:Gc 74 3 3:=.of zk
instance:Gc 74 4 4:=.of zk
instance:Bk 74 [(0,1),(1,1),(2,1),(3,1),(4,1)]:=.of zk
instance:ah 74 [.int .i64 0,.slice none 0 0,.slice none 0 0,.string ⟨#[]⟩,.int .i64 0]:=.of (v:=.agg #[.int .i64 0,.slice none 0 0,.slice none 0 0,.string ⟨#[]⟩,.int .i64 0]) (n:=5) zk rfl rfl
instance:Zs 74 5 80:=.of zk
instance:Yj 82:=.of zk
instance:wo 82 138 3:=.of zk
instance:bh 86 2:=.of zk
instance:Xd ui 86:=.of zk
instance:Gc 86 0 0:=.of zk
instance:Gc 86 1 1:=.of zk
instance:Bk 86 [(0,1),(1,1)]:=.of zk
instance:ah 86 [.int .i64 0,.int .i64 0]:=.of (v:=.agg #[.int .i64 0,.int .i64 0]) (n:=2) zk rfl rfl
instance:Yj 88:=.of zk
instance:Gc 90 0 0:=.of zk
instance:Gc 90 1 1:=.of zk
instance:Gc 90 2 2:=.of zk
instance:Bk 90 [(0,1),(1,1),(2,1)]:=.of zk
instance:ah 90 [.slice none 0 0,.int .i64 0,.int .i64 0]:=.of (v:=.agg #[.slice none 0 0,.int .i64 0,.int .i64 0]) (n:=3) zk rfl rfl
instance:Yj 94:=.of zk
instance:Yj 95:=.of zk
instance:Gc 97 0 0:=.of zk
instance:Gc 97 1 1:=.of zk
instance:Gc 97 2 2:=.of zk
instance:Gc 97 3 3:=.of zk
instance:Gc 97 4 4:=.of zk
instance:Gc 97 5 5:=.of zk
instance:Bk 97 [(0,1),(1,1),(2,1),(3,1),(4,1),(5,1)]:=.of zk
instance:ah 97 [.slice none 0 0,.int .i64 0,.int .i64 0,.map none,.map none,.string ⟨#[]⟩]:=.of (v:=.agg #[.slice none 0 0,.int .i64 0,.int .i64 0,.map none,.map none,.string ⟨#[]⟩]) (n:=6) zk rfl rfl
instance:bh 102 2:=.of zk
instance:aq 102 2:=.of zk
instance:Gc 102 0 0:=.of zk
instance:Gc 102 1 1:=.of zk
instance:Bk 102 [(0,1),(1,1)]:=.of zk
instance:ah 102 [.string ⟨#[]⟩,.int .i64 0]:=.of (v:=.agg #[.string ⟨#[]⟩,.int .i64 0]) (n:=2) zk rfl rfl
instance:Zs 102 2 24:=.of zk
instance:wo 107 171 2:=.of zk
instance:bh 116 0:=.of zk
instance:Xd ui 116:=.of zk
instance:Bk 116 []:=.of zk
instance:ah 116 []:=.of (v:=.agg #[]) (n:=0) zk rfl rfl
instance:bh 120 5:=.of zk
instance:aq 120 5:=.of zk
instance:Gc 120 0 0:=.of zk
instance:Gc 120 1 1:=.of zk
instance:Gc 120 2 2:=.of zk
instance:Gc 120 3 3:=.of zk
instance:Gc 120 4 4:=.of zk
instance:Bk 120 [(0,1),(1,1),(2,1),(3,1),(4,1)]:=.of zk
instance:ah 120 [.int .i64 0,.slice none 0 0,.slice none 0 0,.string ⟨#[]⟩,.int .i64 0]:=.of (v:=.agg #[.int .i64 0,.slice none 0 0,.slice none 0 0,.string ⟨#[]⟩,.int .i64 0]) (n:=5) zk rfl rfl
instance:wo 130 134 2:=.of zk
instance:aq 134 2:=.of zk
instance:Gc 134 0 0:=.of zk
instance:Gc 134 1 1:=.of zk
instance:Bk 134 [(0,1),(1,1)]:=.of zk
instance:ah 134 [.string ⟨#[]⟩,.nilFunc]:=.of (v:=.agg #[.string ⟨#[]⟩,.nilFunc]) (n:=2) zk rfl rfl
instance:bh 138 3:=.of zk
instance:aq 138 3:=.of zk
instance:Gc 138 0 0:=.of zk
instance:Gc 138 1 1:=.of zk
instance:Gc 138 2 2:=.of zk
instance:Bk 138 [(0,1),(1,1),(2,1)]:=.of zk
instance:ah 138 [.int .i64 0,.string ⟨#[]⟩,.int .i64 0]:=.of (v:=.agg #[.int .i64 0,.string ⟨#[]⟩,.int .i64 0]) (n:=3) zk rfl rfl
instance:Zs 138 3 32:=.of zk
instance:bh 145 2:=.of zk
instance:aq 145 2:=.of zk
instance:Gc 145 0 0:=.of zk
instance:Gc 145 1 1:=.of zk
instance:Bk 145 [(0,1),(1,1)]:=.of zk
instance:ah 145 [.string ⟨#[]⟩,.int .i64 0]:=.of (v:=.agg #[.string ⟨#[]⟩,.int .i64 0]) (n:=2) zk rfl rfl
instance:Zs 145 2 24:=.of zk
instance:bh 147 1:=.of zk
instance:Yj 147:=.of zk
instance:wo 147 214 6:=.of zk
instance:bh 149 4:=.of zk
instance:aq 149 4:=.of zk
instance:Gc 149 0 0:=.of zk
instance:Gc 149 1 1:=.of zk
instance:Gc 149 2 2:=.of zk
instance:Gc 149 3 3:=.of zk
instance:Bk 149 [(0,1),(1,1),(2,1),(3,1)]:=.of zk
instance:ah 149 [.string ⟨#[]⟩,.slice none 0 0,.slice none 0 0,.slice none 0 0]:=.of (v:=.agg #[.string ⟨#[]⟩,.slice none 0 0,.slice none 0 0,.slice none 0 0]) (n:=4) zk rfl rfl
instance:Zs 149 4 88:=.of zk
instance:bh 153 2:=.of zk
instance:Xd ui 153:=.of zk
instance:Gc 153 0 0:=.of zk
instance:Gc 153 1 1:=.of zk
instance:Bk 153 [(0,1),(1,1)]:=.of zk
instance:ah 153 [.string ⟨#[]⟩,.int .i64 0]:=.of (v:=.agg #[.string ⟨#[]⟩,.int .i64 0]) (n:=2) zk rfl rfl
instance:bh 156 1:=.of zk
instance:Yj 156:=.of zk
instance:Yj 157:=.of zk
instance:Gc 159 0 0:=.of zk
instance:Gc 159 1 1:=.of zk
instance:Gc 159 2 2:=.of zk
instance:Gc 159 3 3:=.of zk
instance:Gc 159 4 4:=.of zk
instance:Gc 159 5 5:=.of zk
instance:Gc 159 6 6:=.of zk
instance:Bk 159 [(0,1),(1,1),(2,1),(3,1),(4,1),(5,1),(6,1)]:=.of zk
instance:ah 159 [.map none,.map none,.map none,.map none,.string ⟨#[]⟩,.map none,.int .i64 0]:=.of (v:=.agg #[.map none,.map none,.map none,.map none,.string ⟨#[]⟩,.map none,.int .i64 0]) (n:=7) zk rfl rfl
instance:bh 161 2:=.of zk
instance:aq 161 2:=.of zk
instance:Gc 161 0 0:=.of zk
instance:Gc 161 1 1:=.of zk
instance:Bk 161 [(0,1),(1,1)]:=.of zk
instance:ah 161 [.int .i64 0,.int .i64 0]:=.of (v:=.agg #[.int .i64 0,.int .i64 0]) (n:=2) zk rfl rfl
instance:wo 162 161 2:=.of zk
instance:bh 171 2:=.of zk
instance:aq 171 2:=.of zk
instance:Gc 171 0 0:=.of zk
instance:Gc 171 1 1:=.of zk
instance:Bk 171 [(0,1),(1,1)]:=.of zk
instance:ah 171 [.string ⟨#[]⟩,.int .i64 0]:=.of (v:=.agg #[.string ⟨#[]⟩,.int .i64 0]) (n:=2) zk rfl rfl
instance:Zs 171 2 24:=.of zk
instance:wo 175 176 1:=.of zk
instance:Yj 176:=.of zk
instance:ah 176 [.nilFunc]:=.of (v:=.nilFunc) (n:=1) zk rfl rfl
instance:aq 179 2:=.of zk
instance:Gc 179 0 0:=.of zk
instance:Gc 179 1 1:=.of zk
instance:Bk 179 [(0,1),(1,1)]:=.of zk
instance:ah 179 [.slice none 0 0,.map none]:=.of (v:=.agg #[.slice none 0 0,.map none]) (n:=2) zk rfl rfl
instance:bh 195 1:=.of zk
instance:Yj 195:=.of zk
instance:wo 195 3 1:=.of zk
instance:ah 195 [.slice none 0 0]:=.of (v:=.slice none 0 0) (n:=1) zk rfl rfl
instance:bh 209 3:=.of zk
instance:Gc 209 0 0:=.of zk
instance:Gc 209 1 1:=.of zk
instance:Gc 209 2 2:=.of zk
instance:Bk 209 [(0,1),(1,1),(2,1)]:=.of zk
instance:ah 209 [.int .i64 0,.int .i64 0,.int .i64 0]:=.of (v:=.agg #[.int .i64 0,.int .i64 0,.int .i64 0]) (n:=3) zk rfl rfl
instance:bh 212 1:=.of zk
instance:Yj 212:=.of zk
instance:wo 212 217 4:=.of zk
instance:bh 214 6:=.of zk
instance:aq 214 6:=.of zk
instance:Gc 214 0 0:=.of zk
instance:Gc 214 1 1:=.of zk
instance:Gc 214 2 2:=.of zk
instance:Gc 214 3 3:=.of zk
instance:Gc 214 4 4:=.of zk
instance:Gc 214 5 5:=.of zk
instance:Bk 214 [(0,1),(1,1),(2,1),(3,1),(4,1),(5,1)]:=.of zk
instance:ah 214 [.int .i64 0,.string ⟨#[]⟩,.slice none 0 0,.slice none 0 0,.slice none 0 0,.slice none 0 0]:=.of (v:=.agg #[.int .i64 0,.string ⟨#[]⟩,.slice none 0 0,.slice none 0 0,.slice none 0 0,.slice none 0 0]) (n:=6) zk rfl rfl
instance:Zs 214 6 120:=.of zk
instance:bh 217 4:=.of zk
instance:aq 217 4:=.of zk
instance:Gc 217 0 0:=.of zk
instance:Gc 217 1 1:=.of zk
instance:Gc 217 2 2:=.of zk
instance:Gc 217 3 3:=.of zk
instance:Bk 217 [(0,1),(1,1),(2,1),(3,1)]:=.of zk
instance:ah 217 [.string ⟨#[]⟩,.int .u32 0,.string ⟨#[]⟩,.slice none 0 0]:=.of (v:=.agg #[.string ⟨#[]⟩,.int .u32 0,.string ⟨#[]⟩,.slice none 0 0]) (n:=4) zk rfl rfl
instance:Zs 217 4 64:=.of zk
instance:xg ui 235 .u64:=.of zk
instance:bh 264 1:=.of zk
instance:Yj 264:=.of zk
instance:ah 264 [.nilFunc]:=.of (v:=.nilFunc) (n:=1) zk rfl rfl
instance:Fa 4:=.of zk
instance:Fa 5:=.of zk
instance:Fa 6:=.of zk
instance:Fa 7:=.of zk
instance:Fa 8:=.of zk
instance:Fa 9:=.of zk
instance:Fa 10:=.of zk
instance:Fa 11:=.of zk
instance:Fa 12:=.of zk
instance:Fa 13:=.of zk
instance:Fa 14:=.of zk
instance:Fa 15:=.of zk
instance:Fa 16:=.of zk
instance:Fa 17:=.of zk
instance:Fa 18:=.of zk
instance:Fa 19:=.of zk
instance:Fa 20:=.of zk
instance:Fa 21:=.of zk
instance:Fa 22:=.of zk
instance:Fa 23:=.of zk
instance:Fa 24:=.of zk
instance:Fa 25:=.of zk
instance:Fa 26:=.of zk
instance:Fa 27:=.of zk
instance:Fa 28:=.of zk
instance:Fa 29:=.of zk
instance:Fa 30:=.of zk
instance:Fa 31:=.of zk
instance:Fa 32:=.of zk
instance:Fa 33:=.of zk
instance:Fa 34:=.of zk
instance:Fa 35:=.of zk
instance:Fa 36:=.of zk
instance:Fa 37:=.of zk
instance:Fa 38:=.of zk
instance:Fa 40:=.of zk
instance:Fa 41:=.of zk
instance:Fa 42:=.of zk
instance:Fa 43:=.of zk
instance:Fa 44:=.of zk
instance:Fa 45:=.of zk
instance:Fa 46:=.of zk
instance:Fa 47:=.of zk
instance:Fa 48:=.of zk
instance:Fa 49:=.of zk
instance:Fa 50:=.of zk
instance:Fa 51:=.of zk
instance:Fa 52:=.of zk
instance:Fa 53:=.of zk
instance:Fa 54:=.of zk
instance:Fa 55:=.of zk
instance:Fa 56:=.of zk
instance:Fa 57:=.of zk
instance:Fa 58:=.of zk
instance:Fa 59:=.of zk
instance:Fa 60:=.of zk
instance:Fa 61:=.of zk
instance:Fa 62:=.of zk
instance:Fa 63:=.of zk
instance:Fa 64:=.of zk
instance:Fa 65:=.of zk
instance:Fa 66:=.of zk
instance:Fa 67:=.of zk
instance:Fa 68:=.of zk
instance:Fa 69:=.of zk
instance:Fa 70:=.of zk
instance:Fa 71:=.of zk
instance:Fa 72:=.of zk
instance:Fa 73:=.of zk
instance:Fa 74:=.of zk
instance:Fa 75:=.of zk
instance:Fa 76:=.of zk
instance:Fa 77:=.of zk
instance:Fa 78:=.of zk
instance:Fa 79:=.of zk
instance:Fa 80:=.of zk
instance:Fa 81:=.of zk
instance:Fa 82:=.of zk
instance:Fa 83:=.of zk
instance:Fa 85:=.of zk
instance:Fa 86:=.of zk
instance:Fa 87:=.of zk
instance:Fa 88:=.of zk
instance:Fa 89:=.of zk
instance:Fa 90:=.of zk
instance:Fa 91:=.of zk
instance:Fa 92:=.of zk
instance:Fa 93:=.of zk
instance:Fa 94:=.of zk
instance:Fa 95:=.of zk
instance:Fa 96:=.of zk
instance:Fa 97:=.of zk
instance:Fa 98:=.of zk
instance:Fa 99:=.of zk
instance:Fa 100:=.of zk
instance:Fa 101:=.of zk
instance:Fa 103:=.of zk
instance:Fa 104:=.of zk
instance:Fa 105:=.of zk
instance:Fa 107:=.of zk
instance:Fa 108:=.of zk
instance:Fa 109:=.of zk
instance:Fa 110:=.of zk
instance:Fa 111:=.of zk
instance:Fa 112:=.of zk
instance:Fa 113:=.of zk
instance:Fa 114:=.of zk
instance:Fa 115:=.of zk
instance:Fa 117:=.of zk
instance:Fa 118:=.of zk
instance:Fa 119:=.of zk
instance:Fa 120:=.of zk
instance:Fa 121:=.of zk
instance:Fa 122:=.of zk
instance:Fa 123:=.of zk
instance:Fa 124:=.of zk
instance:Fa 125:=.of zk
instance:Fa 126:=.of zk
instance:Fa 127:=.of zk
instance:Fa 128:=.of zk
instance:Fa 129:=.of zk
instance:Fa 130:=.of zk
instance:Fa 131:=.of zk
instance:Fa 132:=.of zk
instance:Fa 133:=.of zk
instance:Fa 134:=.of zk
instance:Fa 135:=.of zk
instance:Fa 136:=.of zk
instance:Fa 137:=.of zk
instance:Fa 138:=.of zk
instance:Fa 139:=.of zk
instance:Fa 140:=.of zk
instance:Fa 143:=.of zk
instance:Fa 144:=.of zk
instance:Fa 145:=.of zk
instance:Fa 146:=.of zk
instance:Fa 147:=.of zk
instance:Fa 148:=.of zk
instance:Fa 149:=.of zk
instance:Fa 150:=.of zk
instance:Fa 151:=.of zk
instance:Fa 152:=.of zk
instance:Fa 153:=.of zk
instance:Fa 154:=.of zk
instance:Fa 155:=.of zk
instance:Fa 156:=.of zk
instance:Fa 157:=.of zk
instance:Fa 158:=.of zk
instance:Fa 160:=.of zk
instance:Fa 161:=.of zk
instance:Fa 162:=.of zk
instance:Fa 163:=.of zk
instance:Fa 164:=.of zk
instance:Fa 165:=.of zk
instance:Fa 166:=.of zk
instance:Fa 167:=.of zk
instance:Fa 169:=.of zk
instance:Fa 170:=.of zk
instance:Fa 171:=.of zk
instance:Fa 177:=.of zk
instance:Fa 178:=.of zk
instance:Fa 180:=.of zk
instance:Fa 182:=.of zk
instance:Fa 183:=.of zk
instance:Fa 184:=.of zk
instance:Fa 185:=.of zk
instance:Fa 186:=.of zk
instance:Fa 187:=.of zk
instance:Fa 188:=.of zk
instance:Fa 189:=.of zk
instance:Fa 190:=.of zk
instance:Fa 191:=.of zk
instance:Fa 192:=.of zk
instance:Fa 193:=.of zk
instance:Fa 194:=.of zk
instance:Fa 195:=.of zk
instance:Fa 196:=.of zk
instance:Fa 197:=.of zk
instance:Fa 198:=.of zk
instance:Fa 199:=.of zk
instance:Fa 200:=.of zk
instance:Fa 201:=.of zk
instance:Fa 202:=.of zk
instance:Fa 203:=.of zk
instance:Fa 204:=.of zk
instance:Fa 205:=.of zk
instance:Fa 206:=.of zk
instance:Fa 207:=.of zk
instance:Fa 208:=.of zk
instance:Fa 209:=.of zk
instance:Fa 210:=.of zk
instance:Fa 211:=.of zk
instance:Fa 213:=.of zk
instance:Fa 214:=.of zk
instance:Fa 215:=.of zk
instance:Fa 218:=.of zk
instance:Fa 230:=.of zk
instance:Fa 235:=.of zk
instance:Fa 240:=.of zk
instance:Fa 241:=.of zk
instance:Fa 242:=.of zk
instance:Fa 243:=.of zk
instance:Fa 244:=.of zk
instance:Fa 246:=.of zk
instance:Fa 247:=.of zk
instance:Fa 265:=.of zk
instance:Fa 266:=.of zk
instance:Fa 267:=.of zk
instance:Fa 268:=.of zk
instance:Fa 269:=.of zk
instance:Fa 270:=.of zk
instance:Fa 271:=.of zk
instance:Fa 272:=.of zk
instance:Fa 273:=.of zk
instance:Fa 274:=.of zk
instance:Fa 283:=.of zk
instance:Fa 284:=.of zk
instance:Fa 285:=.of zk
instance:Fa 286:=.of zk
instance:Fa 287:=.of zk
open Go.GL Go.RowKit Go.Ba
noncomputable abbrev KC(B0:Nat)(w0:World):Ctx:=⟨Tryz.prog,B0,w0⟩
attribute [local irreducible] ea Ga Ja aa Go.GL.Pure Bc Tc oc
variable{B0:Nat}{w0:World}
theorem EQ(c:UInt8):aa (KC B0 w0) 135 [int .u8 c.toNat] [] (gb (bool (ze c))):=by refine cJ Tryz.func135 (n:=9) ?_;refine ja ?_;refine oB 5 rfl (λht=>?_) λht=>?_;refine Oi ?_;exact Na rfl (va rfl) (by simp[Ge,ze,ht]);refine oa ?_;exact Na rfl (va rfl) (by simp[Ge,ze,ht])
theorem VQ(c:UInt8):aa (KC B0 w0) 137 [int .u8 c.toNat] [] (gb (bool (jk c))):=by refine cJ Tryz.func137 (n:=9) ?_;refine ja ?_;refine oB 5 rfl (λht=>?_) λht=>?_;refine Oi ?_;exact Na rfl (va rfl) (by simp[Ge,jk,ht]);refine oa ?_;exact Na rfl (va rfl) (by simp[Ge,jk,ht])
theorem qpw(c:UInt8):aa (KC B0 w0) 133 [int .u8 c.toNat] [] (gb (bool (XN c))):=by refine cJ Tryz.func133 (n:=5) ?_;refine ja ?_;exact Na rfl (va rfl) rfl
theorem qpP(c:UInt8):aa (KC B0 w0) 206 [int .u8 c.toNat] [] (gb (bool (Gh c))):=by refine cJ Tryz.func206 (n:=13) ?_;refine fg ?_;refine oS (sF [_] rfl (VQ c) ?_);refine Dg ?_;refine oB 5 rfl (λht=>?_) λht=>?_;refine oa ?_;exact Na rfl (va rfl) (by simp[Ge,Gh,ht]);refine Dg ?_;refine oS (sF [_] rfl (EQ c) ?_);refine oa ?_;refine oB 9 rfl (λhd=>?_) λhd=>?_;refine oa ?_;exact Na rfl (va rfl) (by simp[Ge,Gh,ht,hd]);refine oa ?_;exact Na rfl (va rfl) (by simp[Ge,Gh,ht,hd])
theorem qqe(c:UInt8):aa (KC B0 w0) 134 [int .u8 c.toNat] [] (gb (bool (fF c))):=by refine cJ Tryz.func134 (n:=13) ?_;refine ia ?_;refine oB 5 rfl (λht=>?_) λht=>?_;refine oa ?_;exact Na rfl (va rfl) (by simp[Ge,fF,ht]);refine oa ?_;refine oB 9 rfl (λhd=>?_) λhd=>?_;refine oa ?_;exact Na rfl (va rfl) (by simp[Ge,fF,ht,hd]);refine oa ?_;exact Na rfl (va rfl) (by simp[Ge,fF,ht,hd])
end Go.Proofs.YtjolancjacdeaaaGreatDoor
namespace Go.Proofs.YtjolancjacdeaaaGreatDoor
open Go.GL Go.RowKit Go.Ba
mutual
def Ml:Ex->List LV
 |.mk _ _ _ a=>tH a
def tH:List Ex->List LV
 |[]=>[]
 |e::r=>.agg [str (ug e),int .u32 (Ym e),str (jn e),.list (Ml e)]::tH r
end
def Va(e:Ex):LV:=.agg [str (ug e),int .u32 (Ym e),str (jn e),.list (Ml e)]
theorem PX:∀ l:List Ex,tH l=l.map Va
 |[]=>by simp[tH]
 |e::r=>by rw[tH,PX r];try rfl
theorem lZ(o:List UInt8)(n:Nat)(nm:List UInt8)(a:List Ex):Ml (.mk o n nm a)=a.map Va:=by rw[Ml,PX]
theorem Av(o:List UInt8)(n:Nat)(nm:List UInt8)(a:List Ex):Va (.mk o n nm a)=.agg [str o,int .u32 n,str nm,.list (a.map Va)]:=by rw[Va,lZ];try rfl
mutual
def BO:Sm->List LV
 |.mk _ _ _ _ t _=>KE t
def zO:Sm->List LV
 |.mk _ _ _ _ _ e=>KE e
def KE:List Sm->List LV
 |[]=>[]
 |s::r=>.agg [int .i64 (uV s),str (lV s),.list ((XV s).map Va),.list ((VV s).map Va),.list (BO s),.list (zO s)]::KE r
end
def Hb(s:Sm):LV:=.agg [int .i64 (uV s),str (lV s),.list ((XV s).map Va),.list ((VV s).map Va),.list (BO s),.list (zO s)]
theorem OP:∀ l:List Sm,KE l=l.map Hb
 |[]=>by simp[KE]
 |e::r=>by rw[KE,OP r];try rfl
theorem Iq(k:Int)(n:List UInt8)(i v:List Ex)(t e:List Sm):Hb (.mk k n i v t e)=.agg [int .i64 k,str n,.list (i.map Va),.list (v.map Va),.list (t.map Hb),.list (e.map Hb)]:=by rw[Hb,BO,zO,OP,OP];try rfl
def bC(a:Ar):LV:=.agg [str a.name,int .i64 a.size]
def Me(f:od):LV:=.agg [str f.name,.list (f.params.map str),.list (f.locals.map str),.list (f.body.map Hb)]
def Bt(p:Pr):LV:=.agg [.list (p.vars.map str),.list (p.ba.map bC),.list (p.funcs.map Me)]
end Go.Proofs.YtjolancjacdeaaaGreatDoor
namespace Go.Proofs.YtjolancjacdeaaaGreatDoor.Zg
open Go.GL Go.RowKit Go.Ba
def JK(es:List LV)(r:Lc)(H:Heap):Prop:=∃ v,r=.ret v/\GL.Acc 1 v es H []
theorem Wc{A B:Type}(g:A->B)(pre:List A)(a:A)(l:List A):((pre++a::l).map g)[((pre.length:Nat):Int).toNat]? = some (g a):=by rw[Int.toNat_natCast,List.getElem?_map,List.getElem?_append_right (mc _),Nat.sub_self];rfl
theorem Uy{H F:Heap}:HSub H (H++F):=⟨F,List.Perm.refl _⟩
theorem PO(l:List (List UInt8)):∀ v∈l.map str,v.cells.length=1:=λv hv=>by obtain⟨a,_,rfl⟩:=vi hv;rfl
theorem YU(l:List (List UInt8)):((l.map str).flatMap LV.cells).all bj=true:=by
 induction l with
 |nil=>rfl
 |cons a l ih=>simp only[Tb,List.flatMap_cons,List.all_append,ih,Bool.and_true];rfl
section
variable{C:Ctx}{n:Nat}{e:Env}{H H':Heap}{rs:List ResultVar}{vs:List LV}{es:List LV}{v:LV}
theorem CH(hd:e.ds=[])(h:Eh C n e H rs [v])(hv:GL.Acc 1 v es H' [])(hH:HSub H' H):oc C n rs (JK es) .ret e H:=rR hd h hH ⟨v,rfl,hv⟩
end
attribute [local irreducible] ea Ga Ja aa Go.GL.Pure Bc Tc oc LQ Pa Td Lf LS
variable{B0:Nat}{w0:World}
theorem qpG(l:List (List UInt8))(hl:l.length<=2000000):aa (KC B0 w0) 78 [.list (l.map str)] [] (JK (l.map str)):=by refine cJ Tryz.func78 (n:=8) ?_;refine ia ?_;refine oS (S.gv (es:=l.map str) rfl λb hb=>?_);refine ig ?_;refine sa (λhc=>?_) λhc=>?_;have h0:=hb hc;refine Oe ?_;exact CH rfl (rC (rT (v:=Ea) rfl fc) rN) (by rw[h0];exact Acc.nil) Ma;refine Af ?_;refine oS (S.sD [] rfl Tf rfl rfl rfl λb4=>?_);refine oa ?_;refine oS (S.acc (es:=[]) (F:=[]) rfl Acc.row rfl (PO l) (YU l) (by simp;omega) λv' H' Ta=>?_);refine Wh ?_;refine qh ?_;exact CH rfl (rC (rT (v:=v') rfl fc) rN) Ta Ma
theorem U'(k:Nat)(hk:k<=1000000000):aa (KC B0 w0) 154 [Ea,int .i64 k] [] (JK []):=by
 refine cJ Tryz.func154 (n:=27) ?_;refine ia ?_;refine sa (λhc=>?_) λ_=>?_;have:=zt hc;omega;refine ia ?_;refine ca (Pure.mv rfl)<|ca (pM (lv:=Ea) rfl)<|Mm ?_;refine ja ?_;refine sa (λhc=>?_) λhc=>?_
 have h0:0<k:=by have:=zt hc;simp at this;omega
 refine Dc ?_;refine ca (Pure.mv rfl)<|ca (Pure.mh (n:=0) rfl rfl (mc _))<|Dg ?_;refine oS (S.Rw (n:=k) rfl (bf (by simp)) h0 zo λb cap Kc=>?_);refine oa ?_;refine ca (Pure.mh (n:=0) rfl rfl zo)<|ea.qy 25 1 pH rfl (by simp) ?_;refine ca (pA (lv:=.app b cap 1 []) rfl)<|ja ?_;exact CH rfl (rC (rT (v:=.app b cap 1 []) rfl fc) rN) Acc.row Ma;refine ia ?_;exact CH rfl (rC (rT (v:=Ea) rfl fc) rN) Acc.nil Ma
def El(l:List (List UInt8)):LV:=.list (l.map str)
theorem mV(L:List (List (List UInt8)))(M:Nat)(h:∀ l∈L,l.length<=M):L.flatten.length<=L.length * M:=by
 induction L with
 |nil=>simp
 |cons a L ih=>rw[List.flatten_cons,ua,Oa,Nat.add_mul];have h1:=h a rf;have h2:=ih λl hl=>h l (Sc _ hl);omega
theorem iZ(L:List (List (List UInt8)))(hL:L.length<=4)(hl:∀ l∈L,l.length<=2000000):aa (KC B0 w0) 79 [.list (L.map El)] [] (JK (L.flatten.map str)):=by
 have Bj:=mV L 2000000 hl;refine cJ Tryz.func79 (n:=36) ?_;refine ia ?_;refine oL (λk ls H'=>∃ pre l1,L=pre++l1/\k=l1.length/\ls=[(0,.list (L.map El)),(3,int .i64 (pre.flatten.length:Int)),(9,.list (L.map El)),(10,int .i64 ((L.map El).length:Int)),(11,int .i64 (pre.length:Int))]/\H'=[])
  ⟨L.length,_,_,⟨[],L,rfl,rfl,rfl,rfl⟩,Qa,kb _⟩ ?_
 rintro k ls H' ⟨pre,l1,xb,rfl,rfl,rfl⟩ j hj;have QJ:pre.flatten.length<=8000000:=by have h1:=Bj;rw[xb,List.flatten_append,ua] at h1;rw[xb] at hL;omega
 have Dj:pre.length<=4:=by rw[xb,ua] at hL;omega
 refine Nd ?_;refine sa (λhc=>?_) λhc=>?_;have fa:=zt hc;rw[Ua,xb,ua] at fa
 obtain⟨a,l2,rfl⟩:∃ a l2,l1=a::l2:=by
  cases l1 with
  |nil=>simp at fa
  |cons a l2=>exact⟨a,l2,rfl⟩
 have ha:(a.map str).length<=2000000:=by rw[Ua];exact hl a (by rw[xb];exact mem_append_right _ rf)
 refine Af ?_;refine ca (xR (ad:=El a) (cs:=[El a]) rfl rfl zo (by rw[xb];exact Wc El pre a l2) rfl rfl)<|ja ?_;refine sa (λhd=>?_) λ_=>?_;have:=zt hd;omega;refine ia ?_;exact⟨l2.length,_,_,lt_succ_self _,⟨pre++[a],l2,by rw[xb];simp,rfl,rfl,rfl⟩,⟨rfl,bf (by simp),rfl,rfl,bf (by simp),trivial⟩,kb _,hj⟩;have fa:=zf hc;rw[Ua,xb,ua] at fa
 obtain rfl:l1=[]:=by
  cases l1 with
  |nil=>rfl
  |cons a l2=>simp at fa;omega
 rw[Qb] at xb;subst xb;refine ia ?_;have zh:L.flatten.length<=8000000:=by omega
 refine oS (S.Bb (H1:=[]) (F:=[]) [_,_] rfl qb (U' L.flatten.length zo) ?_ (by rintro ch H' ⟨v,h,_⟩;cases h));rintro v Ha ⟨_,h,Ta⟩;cases h;rw[Qb];refine ca (pA (lv:=v) rfl)<|ia ?_;refine oL (λk ls H'=>∃ pre l1 v1 Lx,L=pre++l1/\k=l1.length/\ls=[(6,v1),(25,.list (L.map El)),(26,int .i64 ((L.map El).length:Int)),(27,int .i64 (pre.length:Int))]/\H'=Lx/\GL.Acc 1 v1 (pre.flatten.map str) Lx [])
  ⟨L.length,_,_,⟨[],L,v,Ha,rfl,rfl,rfl,rfl,Ta⟩,Qa,kb _⟩ ?_
 rintro k ls H' ⟨pre,l1,v1,Lx,xb,rfl,rfl,rfl,vl⟩ j2 Ub;have QJ:pre.flatten.length<=8000000:=by have h1:=Bj;rw[xb,List.flatten_append,ua] at h1;rw[xb] at hL;omega
 have Dj:pre.length<=4:=by rw[xb,ua] at hL;omega
 refine Nd ?_;refine sa (λhc=>?_) λhc=>?_;have fa:=zt hc;rw[Ua,xb,ua] at fa
 obtain⟨a,l2,rfl⟩:∃ a l2,l1=a::l2:=by
  cases l1 with
  |nil=>simp at fa
  |cons a l2=>exact⟨a,l2,rfl⟩
 have ha:a.length<=2000000:=hl a (by rw[xb];exact mem_append_right _ rf);refine Af ?_;refine ca (xR (ad:=El a) (cs:=[El a]) rfl rfl zo (by rw[xb];exact Wc El pre a l2) rfl rfl)<|ja ?_;refine ca (pM (lv:=v1) rfl)<|oa ?_;refine oS (S.acc rfl vl rfl (PO a) (YU a) (by rw[Ua,Ua];omega) λv' H' Ta=>?_);refine Wh ?_;refine Mh ?_
 exact⟨l2.length,_,_,lt_succ_self _,⟨pre++[a],l2,v',H',by rw[xb];simp,rfl,rfl,rfl,by
  have e:((pre++[a]).flatten.map str)=pre.flatten.map str++a.map str:=by simp
  rw[e];exact Ta⟩,⟨rfl,rfl,rfl,bf (by simp),trivial⟩,kb _,Ub⟩
 have fa:=zf hc;rw[Ua,xb,ua] at fa;obtain rfl:l1=[]:=by
  cases l1 with
  |nil=>rfl
  |cons a l2=>simp at fa;omega
 rw[Qb] at xb;rw[<-xb] at vl;refine ia ?_;refine ca (pM (lv:=v1) rfl)<|ca (pA (lv:=v1) rfl)<|qh ?_;exact CH (Ub.trans hj) (rC (rT (v:=v1) rfl fc) rN) vl Ma
def pk(f:od):List (List UInt8):=(f.params++f.locals).map λx=>f.name++[46]++x
theorem Wf{vars:List Nm}{fs:List od}(AL:LV)(Yv:vars.length<=2000000)(XD:fs.length<=2000000)(qo:∀ f∈fs,pK f)(hn:∀ f∈fs,f.name.length<=1000/\∀ x∈f.params++f.locals,x.length<=1000):aa (KC B0 w0) 30 [.agg [.list (vars.map str),AL,.list (fs.map Me)]] [] (gb (.list ((Gf vars fs).map str))):=by
 have br:∀ f∈fs,(pk f).length<=4000000:=λf hf=>by have h1:f.params.length<=2000000:=(qo f hf).params;have h2:f.locals.length<=2000000:=(qo f hf).locals;unfold pk;rw[Ua,ua];omega
 have Bj:∀ l:List od,(∀ f∈l,f∈fs)->((l.map pk).flatten).length<=l.length * 4000000:=λl hl=>by
  have:=mV (l.map pk) 4000000 (λx hx=>by
   obtain⟨f,hf,rfl⟩:=vi hx;exact br f (hl f hf))
  rwa [Ua] at this
 refine cJ Tryz.func30 (n:=40) ?_;refine Pc ?_;refine oS (sB rfl λb1=>?_);refine ja ?_;refine oS (S.Bb (H1:=[]) (F:=[_]) [_] rfl qb (qpG vars Yv) ?_ (by rintro ch H' ⟨v,h,_⟩;cases h));rintro v Ha ⟨_,h,Ta⟩;cases h;refine ea.perm (dd (l₂:=[_])) ?_;refine ca (pA (lv:=v) rfl)<|ja ?_;refine oL (λk ls H'=>∃ pre l1 v1 Lx,fs=pre++l1/\k=l1.length/\ls=[(3,v1),(12,.list (fs.map Me)),(13,int .i64 ((fs.map Me).length:Int)),(14,int .i64 (pre.length:Int))]/\H'=Lx/\GL.Acc 1 v1 ((vars++(pre.map pk).flatten).map str) Lx [])
  ⟨fs.length,_,_,⟨[],fs,v,Ha,rfl,rfl,rfl,rfl,by simpa using Ta⟩,Qa,fe Ma⟩ ?_
 rintro k ls Lx ⟨pre,l1,v1,_,xb,rfl,rfl,rfl,vl⟩ j hj;have Dj:pre.length<=2000000:=by rw[xb,ua] at XD;omega
 have QJ:((pre.map pk).flatten).length<=8000000000000:=by have:=Bj pre (λf hf=>by rw[xb];exact List.mem_append_left _ hf);omega
 refine Nd ?_;refine sa (λhc=>?_) λhc=>?_;have fa:=zt hc;rw[Ua,xb,ua] at fa
 obtain⟨f,l2,rfl⟩:∃ a l2,l1=a::l2:=by
  cases l1 with
  |nil=>simp at fa
  |cons a l2=>exact⟨a,l2,rfl⟩
 have YF:f∈fs:=by rw[xb];exact mem_append_right _ rf
 obtain⟨Ap,qB⟩:=hn f YF;have IM:f.params.length<=2000000:=(qo f YF).params;have OM:f.locals.length<=2000000:=(qo f YF).locals;refine Af ?_;refine ca (xR (ad:=Me f) (cs:=[_,_,_,_]) rfl rfl zo (by rw[xb];exact Wc Me pre f l2) rfl rfl)<|za ?_;refine oS (yc λb5=>?_);refine ja ?_;refine oS (sL (es:=[El f.params,El f.locals]) [_,_] rfl (rc rfl rfl (rc rfl rfl Tf)) rfl rfl rfl ?_);refine oS (S.Bb (H1:=[]) (F:=(b5,.cells 149 [str f.name,El f.params,El f.locals,.list (f.body.map Hb)])::Lx) [_] rfl qb (iZ [f.params,f.locals] (by simp) (by
  intro l hl;rcases Mc.1 hl with rfl|hl;exact IM;rw[wh hl];exact OM)) ?_ (by rintro ch H' ⟨v,h,_⟩;cases h))
 rintro v2 Y2 ⟨_,h,Ac⟩;cases h;have zh:[f.params,f.locals].flatten=f.params++f.locals:=by simp
 rw[zh] at Ac;refine ea.sub 23 rfl Ac.sub ?_;refine ea.db (H':=(b5,.cells 149 [str f.name,El f.params,El f.locals,.list (f.body.map Hb)])::Lx) ⟨Y2,dd⟩ ?_;refine oa ?_;refine oL (λk ls H'=>∃ Rl l3 v3 kN,f.params++f.locals=Rl++l3/\k=l3.length/\ls=[(3,v3),(5,ptr b5 0),(12,.list (fs.map Me)),(13,int .i64 ((fs.map Me).length:Int)),(14,int .i64 (pre.length:Int)),(23,.list ((f.params++f.locals).map str)),(24,int .i64 (((f.params++f.locals).map str).length:Int)),(25,int .i64 (Rl.length:Int))] /\
   H'=(b5,.cells 149 [str f.name,El f.params,El f.locals,.list (f.body.map Hb)])::kN/\GL.Acc 1 v3 ((vars++(pre.map pk).flatten++Rl.map λx=>f.name++[46]++x).map str) kN [])
  ⟨(f.params++f.locals).length,_,_,⟨[],f.params++f.locals,v1,Lx,rfl,rfl,rfl,rfl,by simpa using vl⟩,Qa,kb _⟩ ?_
 rintro k ls H' ⟨Rl,l3,v3,kN,Ip,rfl,rfl,rfl,Ks⟩ j2 Ub;have hb3:Rl.length<=4000000:=by
  have:(f.params++f.locals).length<=4000000:=by rw[ua];omega
  rw[Ip,ua] at this;omega
 refine Nd ?_;refine sa (λhd=>?_) λhd=>?_;have Mi:=zt hd;rw[Ua,Ip,ua] at Mi
 obtain⟨x,l4,rfl⟩:∃ a l2,l3=a::l2:=by
  cases l3 with
  |nil=>simp at Mi
  |cons a l2=>exact⟨a,l2,rfl⟩
 have hx:x.length<=1000:=qB x (by rw[Ip];exact mem_append_right _ rf);refine Af ?_;refine ca (xR (ad:=str x) (cs:=[str x]) rfl rfl zo (by rw[Ip];exact Wc str Rl x l4) rfl rfl)<|ja ?_;refine ca (pM (lv:=v3) rfl)<|za ?_;refine oS (sL (es:=[str (f.name++[46]++x)]) [_] rfl (rc rfl rfl Tf) rfl rfl rfl<|oS (S.Cr rfl Ks rfl (PO [f.name++[46]++x]) rfl (by rw[Ua,ua,ua,Ua,Oa,Eb];omega) λv' H' Ra=>?_));refine Wh ?_;refine Mh ?_
 exact⟨l4.length,_,_,lt_succ_self _,⟨Rl++[x],l4,v',H',by rw[Ip];simp,rfl,rfl,rfl,by
  have e:((vars++(pre.map pk).flatten++(Rl++[x]).map λx=>f.name++[46]++x).map str)=((vars++(pre.map pk).flatten++Rl.map λx=>f.name++[46]++x).map str)++[str (f.name++[46]++x)]:=by simp
  rw[e];exact Ra⟩,⟨rfl,rfl,rfl,rfl,rfl,rfl,rfl,bf (by simp),trivial⟩,kb _,Ub⟩
 have Mi:=zf hd;rw[Ua,Ip,ua] at Mi;obtain rfl:l3=[]:=by
  cases l3 with
  |nil=>rfl
  |cons a l2=>simp at Mi;omega
 rw[Qb] at Ip;refine ia ?_;exact⟨l2.length,_,_,lt_succ_self _,⟨pre++[f],l2,v3,kN,by rw[xb];simp,rfl,rfl,rfl,by
  have e:((vars++((pre++[f]).map pk).flatten).map str)=(vars++(pre.map pk).flatten++Rl.map λx=>f.name++[46]++x).map str:=by rw[<-Ip];simp[pk]
  rw[e];exact Ks⟩,⟨rfl,rfl,rfl,bf (by simp),trivial⟩,fe Ma,Ub.trans hj⟩
 have fa:=zf hc;rw[Ua,xb,ua] at fa;obtain rfl:l1=[]:=by
  cases l1 with
  |nil=>rfl
  |cons a l2=>simp at fa;omega
 rw[Qb] at xb;rw[<-xb] at vl;refine ia ?_;refine ca (pM (lv:=v1) rfl)<|ca (pA (lv:=v1) rfl)<|qh ?_;exact rR hj (rC (rT (v:=v1) rfl vl.sub) rN) Fc ⟨rfl,rfl⟩
end Go.Proofs.YtjolancjacdeaaaGreatDoor.Zg
namespace Go.Proofs
open Go.Shelf
theorem dn{P:Prop}(h:P:=by constructor <;> first|(intros;kernel_rfl)|decide|(constructor <;> first|(intros;kernel_rfl)|decide|(constructor <;> first|(intros;kernel_rfl)|decide))):P:=h
def Tryz.Vd:Go.Shelf.Ren:=⟨fun|156=>33|165=>84|166=>21|169=>23|240=>61|241=>159|276=>116|277=>216|n=>n,fun|31=>41|9=>9|3=>3|4=>4|0=>0|20=>20|72=>71|76=>79|70=>69|37=>60|75=>78|127=>129|164=>199|5=>5|80=>23|n=>n,fun|n=>n⟩
theorem Tryz.yh:Go.Proofs.Lays.n156 Tryz.prog Tryz.Vd:=dn
theorem Tryz.ub:Builder.Extra Tryz.prog Tryz.Vd:=dn
open Go.RowKit in
theorem Tryz.strings_Join_none(a:Option Addr)(c:Nat)(sep:ByteArray)(w:World) :
  Calls Tryz.prog 33 #[.slice a 0 c,.string sep] w λe w'=>e=.returned (.string ⟨#[]⟩)/\w'=w:=Any.strings_Join_none Tryz.yh Tryz.ub a c sep w
open Go.RowKit in
theorem Tryz.strings_Join(bk o c:Nat)(xs:List ByteArray)(sep:ByteArray)(w:World)(Cj:∀ (j:Nat) x,xs[j]? = some x->w.cell? ⟨bk,o+j,none⟩=some (.string x))(NJ:bk<w.heap.size)(hN:xs.length<=140737488355328)(Kc:xs.length<=c)(fa:(Lib.join (xs.map (·.data.toList)) sep.data.toList).length<=140737488355328) :
  Calls Tryz.prog 33 #[.slice (some ⟨bk,o,none⟩) xs.length c,.string sep] w λe w'=>e=.returned (.string ⟨(Lib.join (xs.map (·.data.toList)) sep.data.toList).toArray⟩)/\Below w.heap.size w w':=Any.strings_Join Tryz.yh Tryz.ub bk o c xs sep w Cj NJ hN Kc fa
def Tryz.ep:Go.Shelf.Ren:=⟨fun|160=>171|232=>221|231=>220|227=>222|234=>224|233=>223|236=>226|235=>225|228=>238|271=>250|151=>249|197=>229|120=>275|152=>236|260=>251|137=>257|119=>258|224=>174|225=>173|217=>172|266=>227|n=>n,fun|9=>9|4=>4|3=>3|5=>5|117=>248|116=>247|0=>0|124=>251|21=>21|105=>254|46=>227|119=>290|139=>293|138=>292|n=>n,fun|3=>1|4=>2|n=>n⟩
theorem Tryz.An:Go.Proofs.Lays.n160 Tryz.prog Tryz.ep:=dn
open Go.RowKit in
theorem Tryz.strings_Trim_one(s:ByteArray)(c:UInt8)(hc:c.toNat<128)(w:World)(hs:s.size<=9223372036854775807) :
  Calls Tryz.prog 171 #[.string s,.string ⟨#[c]⟩] w λe w'=>e=.returned (.string ⟨(Lib.trimB s.data.toList c).toArray⟩)/\(w'=w∨w'=w.drew):=Any.strings_Trim_one Tryz.An s c hc w hs
def Tryz.rp:Go.Shelf.Ren:=⟨fun|103=>160|210=>217|206=>179|n=>n,fun|9=>9|4=>4|24=>172|3=>3|n=>n,fun|n=>n⟩
theorem Tryz.kz:Go.Proofs.Lays.n103 Tryz.prog Tryz.rp:=dn
open Go.RowKit in
theorem Tryz.strings_CutPrefix(s p:ByteArray)(w:World) :
  Calls Tryz.prog 160 #[.string s,.string p] w λe w'=>e=.returned (.tuple #[.string ⟨(Lib.trimPrefix s.data.toList p.data.toList).toArray⟩,.bool (Lib.hasPrefix s.data.toList p.data.toList)])/\w'=w:=Any.strings_CutPrefix Tryz.kz s p w
def Tryz.qp:Go.Shelf.Ren:=⟨fun|104=>169|211=>219|207=>248|n=>n,fun|9=>9|4=>4|24=>172|3=>3|n=>n,fun|n=>n⟩
theorem Tryz.jz:Go.Proofs.Lays.n104 Tryz.prog Tryz.qp:=dn
open Go.RowKit in
theorem Tryz.strings_CutSuffix(s p:ByteArray)(w:World)(hs:s.size<=9223372036854775807) :
  Calls Tryz.prog 169 #[.string s,.string p] w λe w'=>e=.returned (.tuple #[.string ⟨(Lib.trimSuffix s.data.toList p.data.toList).toArray⟩,.bool (Lib.hasSuffix s.data.toList p.data.toList)])/\w'=w:=Any.strings_CutSuffix Tryz.jz s p w hs
def Tryz.dp:Go.Shelf.Ren:=⟨fun|283=>261|n=>n,fun|3=>3|9=>9|4=>4|n=>n,fun|n=>n⟩
theorem Tryz.cz:Go.Proofs.Lays.n283 Tryz.prog Tryz.dp:=dn
open Go.Lib in
theorem Tryz.internal_strconv_small(i:Nat)(h:i<100)(w:World) :
  Calls Tryz.prog 261 #[.int .i64 i] w λe w'=>e=.returned (.string ⟨(Lib.decDigits i).toArray⟩)/\w'=w:=Any.internal_strconv_small Tryz.cz i h w
def Tryz.vn:Go.Shelf.Ren:=⟨fun|284=>262|129=>279|317=>278|318=>280|n=>n,fun|53=>235|3=>3|212=>298|0=>0|4=>4|46=>227|5=>5|9=>9|n=>n,fun|17=>5|n=>n⟩
theorem Tryz.Sv:Go.Proofs.LaysM.n284 Tryz.prog Tryz.vn:=dn
open Go.Lib in
theorem Tryz.internal_strconv_numDigits (u : Nat) (h1 : 1 ≤ u) (h2 : u < 18446744073709551616) (w : World) (aw : Lib.TabIs Tryz.prog w "internal/strconv.uint64pow10" .u64 Lib.pow10Tab) :
  Calls Tryz.prog 262 #[.int .u64 u] w λe w'=>e=.returned (.int .i64 (Lib.nDigits u))/\w'=w:=Any.internal_strconv_numDigits Tryz.Sv u h1 h2 w aw
def Tryz.cp:Go.Shelf.Ren:=⟨fun|285=>263|n=>n,fun|37=>60|53=>235|3=>3|4=>4|51=>33|9=>9|5=>5|0=>0|n=>n,fun|n=>n⟩
theorem Tryz.bz:Go.Proofs.Lays.n285 Tryz.prog Tryz.cp:=dn
open Go.RowKit Go.Sort Go.Lib in
theorem Tryz.internal_strconv_formatBase10(gN off cap:Nat)(u:Nat)(d:Array UInt8)(w:World)(hH:Holds (λ(b:UInt8)=>Value.int .u8 (b.toNat:Int)) w gN off d)(hu:u<10 ^ d.size)(Zv:u<18446744073709551616)(ld:d.size<4611686018427387904) :
  Calls Tryz.prog 263 #[.slice (some ⟨gN,off,none⟩) d.size cap,.int .u64 u] w λe w'=>
   e=.returned (.tuple #[])/\∃ (n v':Nat) (dk:Array UInt8),w'=(putRow (λ(b:UInt8)=>Value.int .u8 (b.toNat:Int)) w gN off dk).drewN n/\FmtInv d.size u 0 v' dk:=Any.internal_strconv_formatBase10 Tryz.bz gN off cap u d w hH hu Zv ld
def Tryz.xn:Go.Shelf.Ren:=⟨fun|171=>155|243=>212|246=>245|283=>261|284=>262|285=>263|286=>264|129=>279|317=>278|318=>280|319=>281|320=>282|337=>288|338=>289|n=>n,fun|3=>3|9=>9|2=>2|4=>4|171=>277|0=>0|53=>235|37=>60|5=>5|173=>280|212=>298|51=>33|20=>20|213=>299|46=>227|232=>309|233=>310|n=>n,fun|17=>5|18=>6|19=>7|n=>n⟩
theorem Tryz.Tv:Go.Proofs.LaysM.n171 Tryz.prog Tryz.xn:=dn
open Go.RowKit Go.Sort Go.Lib in
theorem Tryz.strconv_Itoa (n : Int) (h0 : -9223372036854775808 ≤ n) (h1 : n ≤ 9223372036854775807) (w : World) (aw : Lib.TabIs Tryz.prog w "internal/strconv.uint64pow10" .u64 Lib.pow10Tab) :
  Calls Tryz.prog 155 #[.int .i64 n] w λe w'=>e=.returned (.string ⟨(Lib.itoa n).toArray⟩)/\∃ k os,w'=grow (w.drewN k) os:=Any.strconv_Itoa Tryz.Tv n h0 h1 w aw
def Tryz.yn:Go.Shelf.Ren:=⟨fun|172=>180|244=>231|245=>232|247=>252|279=>253|280=>254|281=>255|282=>256|287=>239|316=>276|171=>155|205=>277|321=>259|322=>260|243=>212|246=>245|283=>261|284=>262|285=>263|286=>264|129=>279|317=>278|318=>280|319=>281|320=>282|337=>288|338=>289|n=>n,fun|9=>9|3=>3|75=>78|76=>79|4=>4|5=>5|167=>269|37=>60|0=>0|85=>270|2=>2|168=>272|53=>235|175=>236|46=>227|210=>295|127=>129|145=>306|143=>304|21=>21|171=>277|173=>280|212=>298|51=>33|20=>20|213=>299|232=>309|233=>310|80=>23|n=>n,fun|15=>3|16=>4|17=>5|18=>6|19=>7|n=>n⟩
theorem Tryz.ll:Go.Proofs.LaysC.n172 Tryz.prog Tryz.yn:=dn
open Go.RowKit in
theorem Tryz.strconv_Atoi_ok(s:ByteArray)(PD:s.size<=9223372036854775806)(v:Int)(h:Lib.atoiAll s.data.toList=.ok v)(w:World) :
  Calls Tryz.prog 180 #[.string s] w λe w'=>e=.returned (.tuple #[.int .i64 v,.nilIface])/\(w'=w∨∃ t,w'=Lib.bytesWorld w 5 t):=Any.strconv_Atoi_ok Tryz.ll s PD v h w
open Go.RowKit in
theorem Tryz.strconv_Atoi_syntax_var (s : ByteArray) (Bp : s.size ≤ 281474976710656) (h : (∀ v, Lib.atoiAll s.data.toList ≠ .ok v) ∧ Lib.atoiAll s.data.toList ≠ .range) (tp : TypeId) (p : Value) (w : World) (ml : w.var? Tryz.prog "strconv.ErrSyntax" = some #[.iface tp p]) :
  Calls Tryz.prog 180 #[.string s] w λe w'=>∃ N,e=.returned (.tuple #[.int .i64 0,.iface 272 (.pointer (some ⟨N,0,none⟩))])/\w.heap.size<=N/\w'.heap[N]? = some (.cells #[.string ⟨#[65,116,111,105]⟩,.string s,.iface tp p] 295 (0,0))/\Below w.heap.size w w':=by
 refine Any.strconv_Atoi_syntax_var Tryz.ll s Bp ?_ tp p w ml;cases hq:Lib.atoiAll s.data.toList with
 |ok u=>exact absurd hq (h.1 u)
 |range=>exact absurd hq h.2
 |_=>rfl
open Go.RowKit in
theorem Tryz.strconv_Atoi_range_var (s : ByteArray) (Bp : s.size ≤ 281474976710656) (h : Lib.atoiAll s.data.toList = .range) (tp : TypeId) (p : Value) (w : World) (ml : w.var? Tryz.prog "strconv.ErrRange" = some #[.iface tp p]) :
  Calls Tryz.prog 180 #[.string s] w λe w'=>∃ N,e=.returned (.tuple #[.int .i64 (Lib.atoiSat s.data.toList),.iface 272 (.pointer (some ⟨N,0,none⟩))])/\w.heap.size<=N/\w'.heap[N]? = some (.cells #[.string ⟨#[65,116,111,105]⟩,.string s,.iface tp p] 295 (0,0))/\Below w.heap.size w w':=Any.strconv_Atoi_range_var Tryz.ll s Bp h tp p w ml
def Tryz.tn:Go.Shelf.Ren:=⟨fun|14=>204|16=>239|17=>232|19=>259|20=>260|21=>253|22=>254|23=>255|24=>256|25=>276|27=>155|26=>277|28=>212|29=>245|30=>261|31=>262|32=>263|33=>264|35=>279|34=>278|36=>280|37=>281|38=>282|39=>288|40=>289|n=>n,fun|9=>9|3=>3|22=>235|24=>78|25=>236|4=>4|34=>269|5=>5|36=>227|37=>60|0=>0|39=>272|21=>21|44=>295|47=>129|50=>306|48=>304|2=>2|52=>277|55=>280|59=>298|60=>33|20=>20|61=>299|65=>309|66=>310|67=>23|n=>n,fun|0=>3|1=>4|2=>5|3=>6|4=>7|n=>n⟩
theorem Tryz.kl:Go.Proofs.LaysPu.n14 Tryz.prog Tryz.tn:=dn
open Go.RowKit in
theorem Tryz.strconv_ParseUint_10_at32_ok(s:ByteArray)(PD:s.size<=9223372036854775806)(u:Nat)(h:Lib.parseUintB 32 s.data.toList=.ok u)(w:World) :
  Calls Tryz.prog 204 #[.string s,.int .i64 10,.int .i64 32] w λe w'=>e=.returned (.tuple #[.int .u64 u,.nilIface])/\(w'=w∨w'=Lib.bytesWorld w 5 s):=Any.strconv_ParseUint_10_at32_ok Tryz.kl s PD u h w
open Go.RowKit in
theorem Tryz.strconv_ParseUint_10_at32_syntax_var (s : ByteArray) (Bp : s.size ≤ 281474976710656) (h : (∀ u, Lib.parseUintB 32 s.data.toList ≠ .ok u) ∧ Lib.parseUintB 32 s.data.toList ≠ .range) (tp : TypeId) (p : Value) (w : World) (ml : w.var? Tryz.prog "strconv.ErrSyntax" = some #[.iface tp p]) :
  Calls Tryz.prog 204 #[.string s,.int .i64 10,.int .i64 32] w λe w'=>∃ N,e=.returned (.tuple #[.int .u64 0,.iface 272 (.pointer (some ⟨N,0,none⟩))])/\w.heap.size<=N/\w'.heap[N]? = some (.cells #[.string ⟨#[80,97,114,115,101,85,105,110,116]⟩,.string s,.iface tp p] 295 (0,0))/\Below w.heap.size w w':=by
 refine Any.strconv_ParseUint_10_at32_syntax_var Tryz.kl s Bp ?_ tp p w ml;cases hq:Lib.parseUintB 32 s.data.toList with
 |ok u=>exact absurd hq (h.1 u)
 |range=>exact absurd hq h.2
 |_=>rfl
open Go.RowKit in
theorem Tryz.strconv_ParseUint_10_at32_range_var (s : ByteArray) (Bp : s.size ≤ 281474976710656) (h : Lib.parseUintB 32 s.data.toList = .range) (tp : TypeId) (p : Value) (w : World) (ml : w.var? Tryz.prog "strconv.ErrRange" = some #[.iface tp p]) :
  Calls Tryz.prog 204 #[.string s,.int .i64 10,.int .i64 32] w λe w'=>∃ N,e=.returned (.tuple #[.int .u64 4294967295,.iface 272 (.pointer (some ⟨N,0,none⟩))])/\w.heap.size<=N/\w'.heap[N]? = some (.cells #[.string ⟨#[80,97,114,115,101,85,105,110,116]⟩,.string s,.iface tp p] 295 (0,0))/\Below w.heap.size w w':=Any.strconv_ParseUint_10_at32_range_var Tryz.kl s Bp h tp p w ml
def Tryz.lp:Go.Shelf.Ren:=⟨fun|144=>16|143=>39|219=>102|217=>172|225=>173|224=>174|267=>175|266=>227|314=>228|n=>n,fun|9=>9|4=>4|3=>3|5=>5|46=>227|146=>252|51=>33|n=>n,fun|1=>0|n=>n⟩
theorem Tryz.Es:Go.Proofs.Lays.n144 Tryz.prog Tryz.lp:=dn
open Go.RowKit Go.Lib in
theorem Tryz.strings_Contains_one(s:ByteArray)(c:UInt8)(w:World) :
  Calls Tryz.prog 16 #[.string s,.string ⟨#[c]⟩] w λe w'=>e=.returned (.bool (decide (0<=Lib.indexByte s.data.toList c)))/\w'=w:=Any.strings_Contains_one Tryz.Es s c w
open Go.RowKit Go.Lib in
theorem Tryz.strings_Contains(s sub:ByteArray)(m:Int)(w:World)(hs:s.size<4294967281)(hm:w.cell? ⟨0,0,none⟩=some (.int .i64 m)) :
  Calls Tryz.prog 16 #[.string s,.string sub] w λe w'=>e=.returned (.bool (Lib.contains s.data.toList sub.data.toList))/\w'=w:=Any.strings_Contains Tryz.Es s sub m w hs hm
def Tryz.kp:Go.Shelf.Ren:=⟨fun|145=>95|220=>168|219=>102|217=>172|225=>173|224=>174|267=>175|266=>227|314=>228|n=>n,fun|9=>9|4=>4|59=>180|3=>3|5=>5|46=>227|146=>252|51=>33|n=>n,fun|1=>0|n=>n⟩
theorem Tryz.fz:Go.Proofs.Lays.n145 Tryz.prog Tryz.kp:=dn
open Go.RowKit Go.Lib in
theorem Tryz.strings_Cut(s sep:ByteArray)(m:Int)(w:World)(hs:s.size<4294967281)(hm:w.cell? ⟨0,0,none⟩=some (.int .i64 m)) :
  Calls Tryz.prog 95 #[.string s,.string sep] w λe w'=>e=.returned (.tuple #[.string ⟨(Lib.cut s.data.toList sep.data.toList).1.toArray⟩,.string ⟨(Lib.cut s.data.toList sep.data.toList).2.1.toArray⟩,.bool (Lib.cut s.data.toList sep.data.toList).2.2])/\∃ n,w'=w.drewN n:=Any.strings_Cut Tryz.fz s sep m w hs hm
def Tryz.np:Go.Shelf.Ren:=⟨fun|138=>67|195=>141|218=>142|143=>39|219=>102|217=>172|225=>173|224=>174|267=>175|266=>227|314=>228|n=>n,fun|9=>9|3=>3|4=>4|5=>5|0=>0|46=>227|146=>252|51=>33|n=>n,fun|1=>0|n=>n⟩
theorem Tryz.gz:Go.Proofs.Lays.n138 Tryz.prog Tryz.np:=dn
open Go.RowKit Go.Lib in
theorem Tryz.strings_Count_one(s:ByteArray)(c:UInt8)(w:World) :
  Calls Tryz.prog 67 #[.string s,.string ⟨#[c]⟩] w λe w'=>e=.returned (.int .i64 (Lib.countByte s.data.toList c))/\w'=w:=Any.strings_Count_one Tryz.gz s c w
def Tryz.Qq:Go.Shelf.Ren:=⟨fun|99=>109|206=>179|n=>n,fun|9=>9|4=>4|3=>3|n=>n,fun|n=>n⟩
theorem Tryz.uD:Go.Proofs.Lays.n99 Tryz.prog Tryz.Qq:=dn
open Go.RowKit Go.Lib in
theorem Tryz.strings_HasPrefix(s p:ByteArray)(w:World) :
  Calls Tryz.prog 109 #[.string s,.string p] w λe w'=>e=.returned (.bool (Lib.hasPrefix s.data.toList p.data.toList))/\w'=w:=Any.strings_HasPrefix Tryz.uD s p w
def Tryz.gp:Go.Shelf.Ren:=⟨fun|146=>51|221=>106|268=>176|138=>67|143=>39|195=>141|197=>229|218=>142|219=>102|260=>251|217=>172|225=>173|224=>174|267=>175|266=>227|314=>228|n=>n,fun|9=>9|31=>41|3=>3|4=>4|0=>0|105=>254|21=>21|5=>5|46=>227|119=>290|139=>293|138=>292|146=>252|51=>33|n=>n,fun|1=>0|3=>1|4=>2|n=>n⟩
theorem Tryz.ez:Go.Proofs.Lays.n146 Tryz.prog Tryz.gp:=dn
open Go.RowKit Go.Lib in
theorem Tryz.strings_Split(s sep:ByteArray)(m:Int)(w:World)(hs:s.size<4294967281)(hm:w.cell? ⟨0,0,none⟩=some (.int .i64 m))(h1:1<=sep.size) :
  Calls Tryz.prog 51 #[.string s,.string sep] w λe w'=>
   e=.returned (.slice (some ⟨w.heap.size,0,none⟩) (Lib.countB s sep+1) (Lib.countB s sep+1))/\w'=w.alloc (.cells ((Lib.splitB sep 0 (Lib.countB s sep) s).map Value.string).toArray 9):=Any.strings_Split Tryz.ez zk s sep m w hs hm h1
def Tryz.fp:Go.Shelf.Ren:=⟨fun|153=>185|152=>236|226=>237|227=>222|228=>238|137=>257|119=>258|224=>174|225=>173|217=>172|266=>227|n=>n,fun|9=>9|3=>3|4=>4|5=>5|21=>21|117=>248|116=>247|0=>0|46=>227|124=>251|n=>n,fun|n=>n⟩
theorem Tryz.dz:Go.Proofs.Lays.n153 Tryz.prog Tryz.fp:=dn
open Go.RowKit Go.Lib in
theorem Tryz.strings_IndexAny_laid(s chars:ByteArray)(w:World)(hs:s.size<4294967281)(ZD:chars.size<4294967281)(has:∀ (j:Nat) b,s.data.toList[j]? = some b->b.toNat<128)(hac:∀ (j:Nat) b,chars.data.toList[j]? = some b->b.toNat<128) :
  Calls Tryz.prog 185 #[.string s,.string chars] w λe w'=>e=.returned (.int .i64 (Lib.indexAny s.data.toList chars.data.toList))/\Below w.heap.size w w':=Any.strings_IndexAny_laid Tryz.dz zk s chars w hs ZD has hac
def Tryz.Tj:Go.Shelf.Ren:=⟨fun|105=>111|212=>181|99=>109|165=>84|166=>21|170=>22|169=>23|263=>233|264=>234|206=>179|240=>61|241=>159|276=>116|277=>216|n=>n,fun|9=>9|3=>3|4=>4|20=>20|0=>0|46=>227|109=>230|5=>5|72=>71|76=>79|51=>33|146=>252|53=>235|148=>259|70=>69|37=>60|75=>78|127=>129|164=>199|80=>23|n=>n,fun|n=>n⟩
theorem Tryz.iz:Go.Proofs.Lays.n105 Tryz.prog Tryz.Tj:=dn
theorem Tryz.Yi:Builder.Extra Tryz.prog Tryz.Tj:=dn
open Go.RowKit Go.Lib in
theorem Tryz.strings_Repeat(s:ByteArray)(c:Nat)(w:World)(hc:c<=9223372036854775807)(fa:s.size * c<=140737488355328) :
  Calls Tryz.prog 111 #[.string s,.int .i64 c] w λe w'=>e=.returned (.string ⟨(Lib.repeatL s.data.toList c).toArray⟩)/\Below w.heap.size w w':=Any.strings_Repeat Tryz.iz Tryz.Yi s c w hc fa
end Go.Proofs
namespace Go.Proofs.YtjolancjacdeaaaGreatDoor
open Go.GL Go.RowKit Go.Ba
attribute [local irreducible] ea Ga Ja aa Go.GL.Pure Bc Tc oc
variable{B0:Nat}{w0:World}
theorem qF{f:FuncId} [fb Tryz.prog f](p:UInt8->Bool)(hp:∀ c:UInt8,aa (KC B0 w0) f [int .u8 c.toNat] [] (gb (bool (p c))))(s:List UInt8)(hs:s.length<=1000000000) :
  aa (KC B0 w0) 132 [str s,.atom (.func (.func f) #[] #[])] [] (gb (str (s.takeWhile p))):=by
 refine cJ Tryz.func132 (n:=22) ?_;refine ia ?_;refine oL (λk l H=>∃ m:Nat,k=s.length-m/\l=[(0,str s),(1,.atom (.func (.func f) #[] #[])),(5,int .i64 m)]/\H=[]/\m<=s.length/\s.takeWhile p=s.take m++(s.drop m).takeWhile p)
  ⟨_,_,_,⟨0,rfl,rfl,rfl,by omega,by simp⟩,Qa,kb _⟩ ?_
 rintro k l H ⟨m,rfl,rfl,rfl,hm,hI⟩ j hj;refine ja ?_;refine oB 10 rfl (λht=>?_) λht=>?_;have wa:m<s.length:=by simpa using ht
 refine Dg ?_;refine ca (pI (c:=s[m]) rfl rfl zo (by simp))<|ea.want rfl rfl ?_;refine oS (S.Qs [_] rfl rfl (hp s[m]) ?_);refine oa ?_;refine sa (λhc=>?_) λhc=>?_;refine ia ?_;exact⟨_,_,_,by omega,⟨m+1,rfl,rfl,rfl,by omega,(RZ wa hI).1 (by simpa using hc)⟩,Qa,kb _,hj⟩;refine ia ?_;refine ca (Pure.jh (i:=0) (j:=m) rfl rfl ⟨_,rfl⟩ zo zo zo)<|qh ?_
 exact Na hj (va rfl) (by
  rw[(RZ wa hI).2 (by simpa using hc)];simp[Ge])
 have Fm:s.length<=m:=by simpa using ht
 refine oa ?_;refine sa (λhc=>?_) λhc=>?_;cases hc;refine ia ?_;refine ca (Pure.jh (i:=0) (j:=m) rfl rfl ⟨_,rfl⟩ zo zo zo)<|qh ?_
 exact Na hj (va rfl) (by
  rw[qkL Fm hI];simp[Ge])
theorem VZ(s p:List UInt8):aa (KC B0 w0) 109 [str s,str p] [] (gb (bool (p.isPrefixOf s))):=
 aa.ye (vs:=[.string ⟨s.toArray⟩,.string ⟨p.toArray⟩]) λw _=>(Go.Proofs.Tryz.strings_HasPrefix _ _ w).mono λe w' he=>by obtain⟨h1,h2⟩:=he;subst h2;exact⟨by simpa [Go.Lib.hasPrefix] using h1,Below.refl _ _⟩
theorem qr1(s:List UInt8)(hs:s.length<=1000000000):aa (KC B0 w0) 65 [str s] [] (gb (int .i64 (iq s))):=by refine cJ Tryz.func65 (n:=11) ?_;refine fg ?_;refine oS (sF [_,_] rfl (VZ s [47,47]) ?_);refine ig ?_;refine sa (λhc=>?_) λhc=>?_;refine Dc ?_;refine oS (sF [_,_] rfl (qF XN qpw s hs) ?_);refine za ?_;exact Na rfl (va rfl) (by simp only[Ge,iq,hc,if_true]);refine ia ?_;refine oS (sF [_,_] rfl (qF fF qqe s hs) ?_);refine za ?_;exact Na rfl (va rfl) (by simp only[Ge,iq,hc,Vh,if_false])
end Go.Proofs.YtjolancjacdeaaaGreatDoor
namespace Go.Proofs.YtjolancjacdeaaaGreatDoor
open Go Go.Shelf Go.RowKit Go.Sort Go.Lib
set_option maxHeartbeats 6400000
theorem qi3 (u : Nat) (Zv : u < 18446744073709551616) (w : World) (aw : Lib.TabIs Tryz.prog w "internal/strconv.uint64pow10" .u64 Lib.pow10Tab) :
  Calls Tryz.prog 240 #[.int .u64 u,.int .i64 10] w λe w'=>e=.returned (.string ⟨(Lib.decDigits u).toArray⟩)/\Below w.heap.size w w':=by
 have mixed:Tryz.prog.follows .mixedOrders=true:=by kernel_rfl
 have t3:=Tryz.underlying3;have a3:=Tryz.isAgg3;have z3:=Tryz.sizeOf3;have v3:=Tryz.zeroValue3;have t9:=Tryz.underlying9;have a9:=Tryz.isAgg9;have z9:=Tryz.sizeOf9;have v9:=Tryz.zeroValue9;have t4:=Tryz.underlying4;have a4:=Tryz.isAgg4;have z4:=Tryz.sizeOf4;have v4:=Tryz.zeroValue4;have t142:=Tryz.underlying277;have aar:=Tryz.isAgg277;have D3:=Tryz.sizeOf277;have F3:=Tryz.zeroValue277;have t0:=Tryz.underlying0;have a0:=Tryz.isAgg0;have z0:=Tryz.sizeOf0;have v0:=Tryz.zeroValue0;have t119:=Tryz.underlying235;have a119:=Tryz.isAgg235;have z119:=Tryz.sizeOf235;have G3:=Tryz.zeroValue235;have t85:=Tryz.underlying60;have a85:=Tryz.isAgg60;have z85:=Tryz.sizeOf60;have v85:=Tryz.zeroValue60;have t5:=Tryz.underlying5;have a5:=Tryz.isAgg5;have z5:=Tryz.sizeOf5;have v5:=Tryz.zeroValue5;have aaq:∀ args w,(callFunc 261 args).run Tryz.prog w=.ok (.enter 261 args) w:=enters_of Tryz.func261 zk rfl;have aap:∀ args w,(callFunc 262 args).run Tryz.prog w=.ok (.enter 262 args) w:=enters_of Tryz.func262 zk rfl;have aao:∀ args w,(callFunc 263 args).run Tryz.prog w=.ok (.enter 263 args) w:=enters_of Tryz.func263 zk rfl;by_cases hs:u<100
 go_enter Tryz.func240,Tryz.ntmps240
 go_wp2_with (go_at_fn (261);refine(Tryz.internal_strconv_small u hs _).mono ?_;rintro e w' ⟨rfl,rfl⟩)
 go_ret
 exact⟨rfl,Below.refl _ _⟩;have R0:1<=u:=by omega
 have B1:Lib.nDigits u<=20:=by have:=Lib.numDigits_eq u R0 Zv;split at this <;> omega
 have zw:Tryz.prog.arrayLen 277=24:=by simp[Program.arrayLen,Tryz.underlying277]
 have Mk:∀ W,(Instr.sliceAt 277 (.pointer (some ⟨w.heap.size,0,none⟩)) none (some (.int .i64 (Lib.nDigits u:Int))) none).run Tryz.prog W=.ok (.slice (some ⟨w.heap.size,0,none⟩) (Lib.nDigits u) 24) W:=λW=>by
  rw[run_sliceAt_array_h W 277 ⟨w.heap.size,0,none⟩ (by simp[Program.arrayLen,Program.elem,Tryz.underlying277]) .i64 (Lib.nDigits u:Int) (by omega) (by rw[zw];omega)]
  go_simp
 have Dw:=Lib.holds_zero0 w 277 (Lib.nDigits u) Ia;have DJ:=Tryz.internal_strconv_formatBase10 w.heap.size 0 24 u (Array.replicate (Lib.nDigits u) 0) (w.alloc (.cells Lib.zeros24 277)) Dw (by rw[Array.size_replicate];exact Lib.lt_pow_nDigits u) Zv (by rw[Array.size_replicate];omega);rw[Array.size_replicate] at DJ;have HH0:=Lib.hid Dw;clear Dw zw
 go_enter Tryz.func240,Tryz.ntmps240
 go_wp2_with (first
  |(go_at_fn (262);refine(Tryz.internal_strconv_numDigits u R0 Zv _ (Lib.tabIs_alloc aw _)).mono ?_;rintro e w' ⟨rfl,rfl⟩))
 go_at_fn (263)
 refine DJ.mono ?_;rintro e w' ⟨rfl,k,v',dk,rfl,hF⟩;have hcv:(convert 60 9 (.slice (some ⟨w.heap.size,0,none⟩) (Lib.nDigits u) 24)).run Tryz.prog ((putRow (λ(b:UInt8)=>Value.int .u8 (b.toNat:Int)) (w.alloc (.cells Lib.zeros24 277)) w.heap.size 0 dk).drewN k)=.ok (.string ⟨(Lib.decDigits u).toArray⟩) ((putRow (λ(b:UInt8)=>Value.int .u8 (b.toNat:Int)) (w.alloc (.cells Lib.zeros24 277)) w.heap.size 0 dk).drewN k):=by
  have h:=run_convert_bytes_back (P:=Tryz.prog) ((putRow (λ(b:UInt8)=>Value.int .u8 (b.toNat:Int)) (w.alloc (.cells Lib.zeros24 277)) w.heap.size 0 dk).drewN k) 60 9 5 ⟨w.heap.size,0,none⟩ 24 (Lib.decDigits u) Tryz.underlying60 Tryz.underlying5 Tryz.underlying9 (λj hj=>by
   rw[Lib.row_is_numeral hF j hj,Lib.add_plain,World.cell?_drewN];exact cell?_putRow (λ(b:UInt8)=>Value.int .u8 (b.toNat:Int)) _ w.heap.size 0 _ dk HH0.out (by rw[hF.size,Array.size_replicate]) j (by rw[hF.size];rw[Lib.decDigits_length] at hj;exact hj))
  rw[Lib.decDigits_length] at h;exact h
 go_wp2
 go_ret
 refine⟨rfl,?_⟩;obtain⟨os,eo⟩:=Lib.fin_at w (.cells Lib.zeros24 277) dk k 0;rw[eo];exact Lib.below_grow _ w (mc _) k os
open Go.GL Go.RowKit Go.Ba
variable{T:List Tok}{i n op sb:Nat}{rs:List ResultVar}
attribute [local irreducible] ea Ga Ja aa Go.GL.Pure Bc Tc oc
structure GW(B0:Nat)(w0:World):Prop where
 Cs : Go.Lib.TabIs Tryz.prog w0 "internal/strconv.uint64pow10" .u64 Go.Lib.pow10Tab
 Ri : ∃ tp p, w0.var? Tryz.prog "strconv.ErrRange" = some #[.iface tp p]
 Jx:8<=B0
variable{B0:Nat}{w0:World}
theorem GW.AK (h : GW B0 w0) {w : World} (hb : Below B0 w0 w) : Go.Lib.TabIs Tryz.prog w "internal/strconv.uint64pow10" .u64 Go.Lib.pow10Tab := by
 have hg : Tryz.prog.globalNamed "internal/strconv.uint64pow10" = some 5 := by kernel_rfl
 exact var?_below hb hg (Nat.lt_of_lt_of_le ra h.Jx) h.Cs
theorem GW.err (h : GW B0 w0) {w : World} (hb : Below B0 w0 w) : ∃ tp p, w.var? Tryz.prog "strconv.ErrRange" = some #[.iface tp p] := by
 have hg : Tryz.prog.globalNamed "strconv.ErrRange" = some 4 := by kernel_rfl
 obtain⟨tp,p,hv⟩:=h.Ri;exact⟨tp,p,var?_below hb hg (Nat.lt_of_lt_of_le ra h.Jx) hv⟩
theorem Iv(hG:GW B0 w0)(u:Nat)(hu:u<=9223372036854775807):aa (KC B0 w0) 155 [int .i64 u] [] (gb (str (Go.Lib.decDigits u))):=
 aa.ye (vs:=[.int .i64 u]) λw hw=>(Go.Proofs.Tryz.strconv_Itoa u zo zo w (hG.AK hw)).mono λe w' he=>by obtain⟨h1,k,os,h2⟩:=he;rw[Go.Lib.itoa_nonneg] at h1;exact⟨h1,by rw[h2];exact Go.Lib.below_grow _ w (mc _) k os⟩
theorem yd(hG:GW B0 w0)(u:Nat)(hu:u<18446744073709551616):aa (KC B0 w0) 205 [int .u64 u,int .i64 10] [] (gb (str (Go.Lib.decDigits u))):=by refine cJ Tryz.func205 (n:=8) ?_;refine fg ?_;refine oS (sF [_,_] rfl (aa.ye (vs:=[.int .u64 u,.int .i64 10]) λw hw=>qi3 u hu w (hG.AK hw)) ?_);refine qh ?_;exact Na rfl (va rfl) rfl
theorem EZ(s:List UInt8)(hs:s.length<=1000000000)(u:Nat)(h:Go.Lib.parseUintB 32 s=.ok u) :
  aa (KC B0 w0) 204 [str s,int .i64 10,int .i64 32] [] (gb (.tuple [int .u64 u,.atom .nilIface])):=by
 refine aa.mono (aa.Ud (vs:=[.string ⟨s.toArray⟩,.int .i64 10,.int .i64 32]) (p:=λus=>us=[.int .u64 u,.nilIface]) λw hw=>?_) ?_;refine(Go.Proofs.Tryz.strconv_ParseUint_10_at32_ok ⟨s.toArray⟩ ?_ u (by simpa using h) w).mono λe w' he=>⟨_,he.1,rfl,?_⟩;show s.toArray.size<=_
 simp;omega;rcases he.2 with h2|h2;rw[h2];exact Below.refl _ _;exact IB;rintro r H ⟨v,rfl,⟨us,rfl,rfl⟩,rfl⟩;exact⟨rfl,rfl⟩
theorem qjx(hG:GW B0 w0)(s:List UInt8)(hs:s.length<=1000000000)(h:Go.Lib.parseUintB 32 s=.range) :
  aa (KC B0 w0) 204 [str s,int .i64 10,int .i64 32] [] (Ko λlv=>∃ v t p,lv=.tuple [int .u64 v,.atom (.iface t p)]):=by
 refine aa.mono (aa.Ud (vs:=[.string ⟨s.toArray⟩,.int .i64 10,.int .i64 32]) (p:=λus=>∃ v t p,us=[.int .u64 v,.iface t p]) λw hw=>?_) ?_;obtain⟨tp,p,hv⟩:=hG.err hw;refine(Go.Proofs.Tryz.strconv_ParseUint_10_at32_range_var ⟨s.toArray⟩ ?_ (by simpa using h) tp p w hv).mono λe w' he=>?_;show s.toArray.size<=_
 simp;omega;obtain⟨N,h1,_,_,h4⟩:=he;exact⟨_,h1,⟨_,_,_,rfl⟩,h4⟩;rintro r H ⟨v,rfl,⟨us,⟨a,t,p,rfl⟩,rfl⟩,rfl⟩;exact⟨_,rfl,⟨a,t,p,rfl⟩,rfl⟩
theorem CZ(s:List UInt8):aa (KC B0 w0) 67 [str s,str [10]] [] (gb (int .i64 (s.count 10))):=
 aa.ye (vs:=[.string ⟨s.toArray⟩,.string ⟨#[10]⟩]) λw _=>(Go.Proofs.Tryz.strings_Count_one _ _ w).mono λe w' he=>by obtain⟨h1,h2⟩:=he;subst h2;exact⟨by simpa [Go.Lib.countByte] using h1,Below.refl _ _⟩
def Oo(t:Tok):LV:=.agg [int .i64 t.kind,str t.text,int .i64 t.line]
def ZK(r:Dr):LV:=.tuple [Oo r.1,int .i64 r.2.1,int .i64 r.2.2]
theorem Lq(l:List (List UInt8)):vu 1 (l.map str):=λv hv=>by obtain⟨x,_,rfl⟩:=vi hv;exact⟨rfl,rfl⟩
theorem NZ:aa (KC B0 w0) 207 [] [] (gb (.list (kx.map str))):=by refine cJ Tryz.func207 (n:=2) ?_;refine Xj ?_;refine oS (sL [_,_,_,_,_,_,_,_] rfl (Lq kx) rfl rfl rfl ?_);refine oa ?_;exact Na rfl (rC (rT (v:=.list _) rfl fc) rN) rfl
theorem qpz:aa (KC B0 w0) 140 [] [] (gb (.list (Sr.map str))):=by refine cJ Tryz.func140 (n:=2) ?_;refine Xj ?_;refine oS (sL [_,_,_,_,_,_,_,_,_,_,_,_,_,_,_,_,_,_,_,_,_,_,_,_] rfl (Lq Sr) rfl rfl rfl ?_);refine oa ?_;exact Na rfl (rC (rT (v:=.list _) rfl fc) rN) rfl
theorem qp0(l:List (List UInt8))(x:List UInt8)(hl:l.length<=1000000000):aa (KC B0 w0) 208 [.list (l.map str),str x] [] (Ko λlv=>∃ n:Int,lv=int .i64 n/\decide (0<=n)=l.contains x):=by
 refine cJ Tryz.func208 (n:=19) ?_;refine ia ?_;refine oL (λk ls H=>∃ m:Nat,k=l.length-m/\ls=[(0,.list (l.map str)),(1,str x),(7,int .i64 (l.map str).length),(8,int .i64 m)]/\H=[]/\m<=l.length/\l.contains x=(l.drop m).contains x)
  ⟨_,_,_,⟨0,rfl,rfl,rfl,by omega,by simp⟩,Qa,kb _⟩ ?_
 rintro k ls H ⟨m,rfl,rfl,rfl,hm,hI⟩ j hj;refine Nd ?_;refine sa (λhc=>?_) λhc=>?_;have wa:m<l.length:=by simpa using hc
 refine ia ?_;refine ca (xR (ad:=str l[m]) rfl rfl zo (by simp) rfl rfl)<|za ?_;refine sa (λhe=>?_) λhe=>?_;refine ia ?_;have hx:x=l[m]:=by simpa using he
 exact tj hj (va rfl) ⟨m,rfl,by
  rw[hx,Eg zo];simp⟩
 refine ia ?_;have hx:¬ x=l[m]:=by simpa using he
 exact⟨_,_,_,by omega,⟨m+1,rfl,rfl,rfl,by omega,by
  rw[hI,List.drop_eq_getElem_cons wa,List.contains_cons];simp[hx]⟩,Qa,kb _,hj⟩
 have Fm:l.length<=m:=by simpa using hc
 refine ia ?_;exact tj hj (va rfl) ⟨-1,rfl,by
  rw[hI,List.drop_eq_nil_of_le Fm];rfl⟩
theorem nM(l:List (List UInt8))(x:List UInt8)(hl:l.length<=1000000000):aa (KC B0 w0) 143 [.list (l.map str),str x] [] (gb (bool (l.contains x))):=by refine cJ Tryz.func143 (n:=9) ?_;refine ia ?_;refine oS (S.ff [_,_] rfl (qp0 l x hl) ?_);rintro lv ⟨n,rfl,hn⟩;refine za ?_;exact Na rfl (va rfl) (by rw[<-hn];rfl)
theorem qrK(s:List UInt8)(hs:s.length<=1000000000):aa (KC B0 w0) 138 [str s] [] (gb (ZK (yC s))):=by
 refine cJ Tryz.func138 (n:=21) ?_;refine Pc ?_;refine oS (yc λb=>?_);refine fg ?_;refine oS (sF [_,_] rfl (qF Gh qpP s hs) ?_);refine ja ?_;refine sa (λhc=>?_) λhc=>?_;refine ja ?_
 exact Na rfl (rC (rA rfl yb rfl fc) (rC (ib rfl) (va rfl))) (by
  rw[yC,zp (by have:=zt hc;omega)];rfl)
 refine ia ?_;refine oS (sF [] rfl NZ ?_);refine Dg ?_;refine oS (sF [_,_] rfl (nM kx (s.takeWhile Gh) ra) ?_);refine ig ?_;refine sa (λhk=>?_) λhk=>?_;refine ja ?_
 exact Na rfl (rC (rA rfl yb rfl fc) (rC (ib rfl) (va rfl))) (by
  rw[yC,zn (by have:=zf hc;omega),zp hk];rfl)
 refine ja ?_;exact Na rfl (rC (rA rfl yb rfl fc) (rC (ib rfl) (va rfl))) (by
  rw[yC,zn (by have:=zf hc;omega),zn (by rw[hk];decide)];rfl)
theorem qhj(M:Nat)(acc:Nat)(l:List UInt8)(h:∀ c∈l,ze c=true):Go.Lib.parseUintM M acc l=.range∨∃ u,Go.Lib.parseUintM M acc l=.ok u:=by
 induction l generalizing acc with
 |nil=>exact .inr ⟨acc,rfl⟩
 |cons c r ih=>have hc:=h c List.mem_cons_self;simp only[ze,Le,sf,cv] at hc;rw[Go.Lib.parseUintM,zp zo];split;exact .inl rfl;split;exact .inl rfl;exact ih _ λc hc=>h c (Sc _ hc)
theorem qhR(M:Nat)(acc:Nat)(l:List UInt8)(ha:acc<=M){u:Nat}(h:Go.Lib.parseUintM M acc l=.ok u):u<=M:=by
 induction l generalizing acc with
 |nil=>simp only[Go.Lib.parseUintM,Go.Lib.NumEnd.ok.injEq] at h;omega
 |cons c r ih=>rw[Go.Lib.parseUintM] at h;split at h;split at h;cases h;split at h;cases h;exact ih _ zo h;cases h
theorem qhP(s:List UInt8)(eb:s.takeWhile ze≠[]):Go.Lib.parseUintB 32 (s.takeWhile ze)=.range∨∃ u,u<18446744073709551616/\Go.Lib.parseUintB 32 (s.takeWhile ze)=.ok u:=by
 unfold Go.Lib.parseUintB;rw[zn eb];have bc:∀ (s:List UInt8),∀ c∈s.takeWhile ze,ze c=true:=λs c hc=>by
  induction s with
  |nil=>cases hc
  |cons a r ih=>by_cases ha:ze a=true;rw[List.takeWhile_cons_of_pos ha] at hc;rcases Mc.1 hc with rfl|hc;exact ha;exact ih hc;rw[List.takeWhile_cons_of_neg ha] at hc;cases hc
 rcases qhj (2 ^ 32-1) 0 (s.takeWhile ze) (bc s) with h|⟨u,h⟩;exact .inl h;have:=qhR _ _ _ zo h;exact .inr ⟨u,by omega,h⟩
instance:Ve ui 78:=.of zk
theorem DF(hG:GW B0 w0)(s:List UInt8)(hs:s.length<=1000000000)(eb:s.takeWhile ze≠[]):aa (KC B0 w0) 136 [str s] [] (gb (ZK (RC s))):=by
 refine cJ Tryz.func136 (n:=43) ?_;refine Pc ?_;refine oS (yc λb=>?_);refine fg ?_;refine oS (sF [_,_] rfl (qF ze EQ s hs) ?_);refine ja ?_;refine ea.cut [(0,str s),(2,ptr b 0),(5,str (s.takeWhile ze)),(28,bool (IC s (s.takeWhile ze).length))] ?_ λj hj=>?_;refine oB 17 rfl (λht=>?_) λht=>?_;have wa:(s.takeWhile ze).length<s.length:=by simpa using ht
 have hw:IC s (s.takeWhile ze).length=(jk s[(s.takeWhile ze).length] || decide (cv s[(s.takeWhile ze).length]=95)):=by rw[IC,dh wa]
 refine Dg ?_;refine ca (pI (c:=s[(s.takeWhile ze).length]) rfl rfl zo (by simp))<|ea.want rfl rfl ?_;refine oS (sF [_] rfl (VQ _) ?_);refine Dg ?_;refine oB 22 rfl (λhl=>?_) λhl=>?_;refine oa ?_;exact⟨⟨rfl,rfl,rfl,Ed (by rw[hw,hl];rfl),trivial⟩,rfl,rfl⟩;refine Dg ?_;refine ca (pI (c:=s[(s.takeWhile ze).length]) rfl rfl zo (by simp))<|oa ?_;exact⟨⟨rfl,rfl,rfl,Ed (by rw[hw,hl];rfl),trivial⟩,rfl,rfl⟩;have Fm:s.length<=(s.takeWhile ze).length:=by simpa using ht
 refine za ?_;exact⟨⟨rfl,rfl,rfl,Ed (by rw[IC,List.getElem?_eq_none Fm]),trivial⟩,rfl,rfl⟩
 skip
 refine sa (λhc=>?_) λhc=>?_;refine ja ?_
 exact Na hj (rC (rA rfl yb rfl fc) (rC (ib rfl) (va rfl))) (by
  rw[RC,zp hc];rfl)
 refine ia ?_;rcases qhP s eb with hp|⟨u,hu,hp⟩;refine oS (S.ff [_,_,_] rfl (qjx hG (s.takeWhile ze) (Uf (List.takeWhile_prefix ze).length_le hs) hp) ?_);rintro lv ⟨v,t,p,rfl⟩;refine ja ?_;refine sa (λhc=>?_) λhc=>?_;refine ja ?_
 exact Na hj (rC (rA rfl yb rfl fc) (rC (ib rfl) (va rfl))) (by
  rw[RC,zn (by rw[‹IC s _=false›];decide),hp];rfl)
 cases hc;refine oS (sF [_,_,_] rfl (EZ (s.takeWhile ze) (Uf (List.takeWhile_prefix ze).length_le hs) u hp) ?_);refine ja ?_;refine sa (λhc=>?_) λhc=>?_;cases hc;refine ia ?_;refine oS (sF [_,_] rfl (yd hG u hu) ?_);refine za ?_
 exact Na hj (rC (rA rfl yb rfl fc) (rC (ib rfl) (va rfl))) (by
  rw[RC,zn (by rw[‹IC s _=false›];decide),hp];rfl)
theorem qmN(hG:GW B0 w0)(s:List UInt8)(hs:s.length<=1000000000):aa (KC B0 w0) 139 [str s] [] (gb (ZK (XC s))):=by
 by_cases h3:s.length<3;have hl:XC s=Hl 3:=by
  match s,h3 with
  |[],_=>rfl
  |[_],_=>rfl
  |[_,_],_=>rfl
 refine cJ Tryz.func139 (n:=39) ?_;refine Pc ?_;refine oS (yc λb=>?_);refine ja ?_;refine oB 8 rfl (λht=>?_) λht=>?_;refine oa ?_;refine sa (λhc=>?_) λhc=>?_;refine ja ?_;exact Na rfl (rC (rA rfl yb rfl fc) (rC (ib rfl) (va rfl))) (by rw[hl];rfl);cases hc;exact absurd (zf ht) zo
 match s,h3 with
 |[],h=>exact absurd (by simp) h
 |[_],h=>exact absurd (by simp) h
 |[_,_],h=>exact absurd (by simp) h
 |x::c1::c2::r,h=>
  refine cJ Tryz.func139 (n:=39) ?_;refine Pc ?_;refine oS (yc λb=>?_);refine ja ?_;refine ea.cut [(0,str (x::c1::c2::r)),(2,ptr b 0),(32,bool ((!decide (cv c2=39)) || decide (cv c1<32) || decide (126<cv c1) || decide (cv c1=39) || decide (cv c1=92)))] ?_ λj hj=>?_
  ·refine oB 8 rfl (λht=>?_) λht0=>?_;exact absurd (zt ht) (by simp only[Oa];omega)
   skip
   refine ca (pI (c:=c2) rfl rfl ra rfl)<|za ?_;refine oB 13 rfl (λht=>?_) λCM=>?_;refine oa ?_;exact⟨⟨rfl,rfl,Ed (by rw[ht];rfl),trivial⟩,rfl,rfl⟩;refine Vx ?_;refine oa ?_;refine oB 18 rfl (λht=>?_) λWR=>?_;refine oa ?_;exact⟨⟨rfl,rfl,Ed (by rw[CM,ht];rfl),trivial⟩,rfl,rfl⟩;refine Vx ?_;refine za ?_;refine oB 23 rfl (λht=>?_) λSI=>?_;refine oa ?_;exact⟨⟨rfl,rfl,Ed (by rw[CM,WR,ht];rfl),trivial⟩,rfl,rfl⟩;refine Vx ?_;refine oa ?_;refine oB 28 rfl (λht=>?_) λht4=>?_;refine oa ?_;exact⟨⟨rfl,rfl,Ed (by rw[CM,WR,SI,ht];rfl),trivial⟩,rfl,rfl⟩;refine Vx ?_;refine oa ?_;exact⟨⟨rfl,rfl,Ed (by rw[CM,WR,SI,ht4];rfl),trivial⟩,rfl,rfl⟩
  skip
  refine sa (λhc=>?_) λhc=>?_;refine ja ?_;exact Na hj (rC (rA rfl yb rfl fc) (rC (ib rfl) (va rfl))) (by rw[XC,zp hc];rfl);refine ia ?_;refine ca (pI (c:=c1) rfl rfl ra rfl)<|ca (Pure.yE rfl) ?_;have hw:IntKind.i64.wrap (c1.toNat:Int)=((c1.toNat:Nat):Int):=GA (by have:=c1.toNat_lt;omega);rw[hw];refine oS (sF [_] rfl (Iv hG c1.toNat (by have:=c1.toNat_lt;omega)) ?_);refine za ?_;exact Na hj (rC (rA rfl yb rfl fc) (rC (ib rfl) (va rfl))) (by rw[XC,zn (by rw[hc];decide)];rfl)
theorem qpJ(hG:GW B0 w0)(s:List UInt8)(hs:s.length<=1000000000)(eb:s≠[]):aa (KC B0 w0) 66 [str s] [] (gb (ZK (Qh s))):=by
 match s,eb with
 |c::r,_=>
  refine cJ Tryz.func66 (n:=49) ?_;refine Pc ?_;refine oS (yc λb=>?_);refine ia ?_;refine ca (pI (c:=c) rfl rfl ra rfl)<|oS (sF [_] rfl (EQ c) ?_);refine fj ?_;refine sa (λhc=>?_) λhc=>?_;refine Dc ?_;refine oS (sF [_] rfl (DF hG (c::r) hs (by rw[List.takeWhile_cons_of_pos hc];simp)) ?_);refine za ?_;exact Na rfl (rC (rA rfl yb rfl fc) (rC (ib rfl) (va rfl))) (by simp only[Qh,hc,if_true];rfl);refine Dc ?_;refine ca (pI (c:=c) rfl rfl ra rfl)<|oS (sF [_] rfl (VQ c) ?_);refine fj ?_;refine sa (λhl=>?_) λhl=>?_;refine Dc ?_;refine oS (sF [_] rfl (qrK (c::r) hs) ?_);refine za ?_;exact Na rfl (rC (rA rfl yb rfl fc) (rC (ib rfl) (va rfl))) (by simp only[Qh,hc,hl,if_true,Vh,if_false];rfl);refine Dc ?_;refine ca (pI (c:=c) rfl rfl ra rfl)<|oa ?_;refine sa (λhq=>?_) λhq=>?_;refine Dc ?_;refine oS (sF [_] rfl (qmN hG (c::r) hs) ?_);refine za ?_;exact Na rfl (rC (rA rfl yb rfl fc) (rC (ib rfl) (va rfl))) (by simp only[Qh,hc,hl,Vh,if_false];rw[zp hq];rfl);have QI:Qh (c::r)=eF (c::r):=by simp only[Qh,hc,hl,Vh,if_false];rw[zn (by rw[hq];decide)]
  refine ia ?_;refine oS (sF [] rfl qpz ?_);refine oa ?_;refine oL (λk ls H=>∃ m:Nat,k=Sr.length-m/\ls=[(0,str (c::r)),(2,ptr b 0),(34,.list (Sr.map str)),(35,int .i64 24),(36,int .i64 m)]/\H=[(b,.cells 138 [int .i64 0,str [],int .i64 0])]/\m<=24/\Sr.find? (λx=>x.isPrefixOf (c::r))=(Sr.drop m).find? (λx=>x.isPrefixOf (c::r)))
   ⟨_,_,_,⟨0,rfl,rfl,rfl,by omega,by simp⟩,Qa,kb _⟩ ?_
  rintro k ls H ⟨m,rfl,rfl,rfl,hm,hI⟩ j hj;have h24:Sr.length=24:=rfl;refine Nd ?_;refine sa (λht=>?_) λht=>?_;have wa:m<Sr.length:=by have:=zt ht;omega
  refine Af ?_;refine ca (xR (ad:=str Sr[m]) rfl rfl zo (by simp) rfl rfl)<|ja ?_;refine oS (sF [_,_] rfl (VZ (c::r) Sr[m]) ?_);refine ig ?_;refine sa (λhp=>?_) λhp=>?_;refine ja ?_
  exact Na hj (rC (rA rfl yb rfl fc) (rC (ib rfl) (va rfl))) (by
   rw[QI,eF,hI,List.drop_eq_getElem_cons wa,List.find?_cons_of_pos (by simpa using hp)];rfl)
  refine ia ?_;exact⟨_,_,_,by omega,⟨m+1,rfl,rfl,rfl,by omega,by
   rw[hI,List.drop_eq_getElem_cons wa,List.find?_cons_of_neg (by rw[hp];decide)]⟩,Qa,kb _,hj⟩
  have Fm:Sr.length<=m:=by have:=zf ht;omega
  refine ja ?_;exact Na hj (rC (rA rfl yb rfl fc) (rC (ib rfl) (va rfl))) (by
   rw[QI,eF,hI,List.drop_eq_nil_of_le Fm];rfl)
def ix(s:List UInt8):Except (Int×Int) (List Tok):=if 60000<s.length then .error (0,6) else di s.length s 1
def HK:Except (Int×Int) (List Tok)->LV
 |.ok T=>.tuple [.list (T.map Oo),int .i64 0,int .i64 0]
 |.error (l,e)=>.tuple [.list [],int .i64 l,int .i64 e]
theorem qpR{A B D:Type}(f:A->B)(h:B->D)(r:Except (Int×Int) A):(r.map f).map h=r.map (λx=>h (f x)):=by cases r <;> rfl
theorem qpb(hG:GW B0 w0)(s:List UInt8):aa (KC B0 w0) 25 [str s] [] (gb (HK (ix s))):=by
 refine cJ Tryz.func25 (n:=49) ?_;refine ja ?_;refine sa (λhc=>?_) λhc=>?_;refine Oe ?_
 exact Na rfl (rC (rT (v:=Ea) rfl vN) (rC (ib rfl) (va rfl))) (by
  rw[ix,zp (by have:=zt hc;omega)];rfl)
 have fa:s.length<=60000:=by have:=zf hc;omega
 refine ia ?_;refine oL (λk ls H=>∃ (v:LV) (out:List Tok) (rest:List UInt8) (line:Int) (Xa:Nat),k=rest.length/\ls=[(5,v),(6,int .i64 line),(7,str rest)]/\Acc 3 v (out.map Oo) H [] /\
   rest.length<=Xa/\0<=line/\line+rest.length<=60001/\out.length+rest.length<=60000/\di s.length s 1=(di Xa rest line).map (out++·))
  ⟨_,_,_,⟨Ea,[],s,1,s.length,rfl,rfl,Acc.nil,by omega,by omega,by omega,by simp;omega,by cases di s.length s 1 <;> rfl⟩,Qa,kb _⟩ ?_
 rintro k ls H ⟨v,out,rest,line,Xa,rfl,rfl,Ta,hf,Ju,Vt,ho,hI⟩ j hj;refine ja ?_;refine sa (λeb=>?_) λeb=>?_;have yp:rest≠[]:=by simpa using eb
 obtain⟨f,rfl⟩:∃ f,Xa=f+1:=⟨Xa-1,by
  have:0<rest.length:=List.length_pos_iff.2 yp;omega⟩
 rw[di,zn yp] at hI;have hsk:=qps rest;refine ia ?_;refine oS (sF [_] rfl (qr1 rest zo) ?_);refine ia ?_;refine sa (λhz=>?_) λhz=>?_;have mz:iq rest=0:=by have:=zt hz;omega
 rw[zp mz] at hI;refine Dc ?_;refine oS (sF [_] rfl (qpJ hG rest zo yp) ?_);refine za ?_;refine oS (yc λb=>?_);refine ja ?_;refine sa (λhe=>?_) λhe=>?_;have ya:(Qh rest).2.2≠0:=by simpa using he
 rw[zp ya] at hI;refine ia ?_;exact Na hj (rC (rT (v:=Ea) rfl vN) (rC (ib rfl) (va rfl))) (by
  rw[ix,zn zo,hI];rfl)
 have ya:(Qh rest).2.2=0:=by simpa using he
 rw[zn (by simpa using ya)] at hI;obtain⟨qz,dS⟩:=qk2 rest ya;refine ja ?_;refine eh ?_;refine za ?_;refine fh ?_;refine ea.db (fe Ma) ?_;refine oS (S.acc rfl Ta rfl (by simp;rfl) rfl (by simp;omega) λv' H' Ra=>?_);refine Wh ?_;refine fg ?_;refine ca (Pure.jh (i:=0) (j:=(Qh rest).2.1) rfl rfl ⟨_,rfl⟩ zo zo zo)<|oS (sF [_,_] rfl (CZ _) ?_);have bu:(List.drop (Int.toNat 0) (List.take ((Qh rest).2.1:Int).toNat rest)).count 10<=(Qh rest).2.1:=Uf List.count_le_length (by simp;omega);refine ia ?_;refine ca (Pure.jh (i:=(Qh rest).2.1) (j:=rest.length) rfl ⟨_,rfl⟩ rfl zo zo zo)<|oa ?_
 have Ac:Acc 3 v' ((out++[{ (Qh rest).1 with line:=line }]).map Oo) H' []:=by rw[Od];exact Ra
 exact⟨_,_,_,by simp only[length_drop];omega,⟨v',out++[{ (Qh rest).1 with line:=line }],rest.drop (Qh rest).2.1,line+((rest.take (Qh rest).2.1).count 10:Nat),f,rfl,rfl,Ac,
  by simp only[length_drop];omega,by omega,by simp only[length_drop];simp at bu;omega,by simp only[length_drop,ua,List.length_singleton];omega,by
   rw[hI,qpR];congr 1;funext x;simp⟩,⟨rfl,bf (by simp),uC (by simp),trivial⟩,kb _,hj⟩
 have mz:¬ iq rest=0:=by have:=zf hz;omega
 rw[zn mz] at hI;refine ia ?_;refine ca (Pure.jh (i:=0) (j:=iq rest) rfl rfl ⟨_,rfl⟩ zo zo zo)<|oS (sF [_,_] rfl (CZ _) ?_);have bu:(List.drop (Int.toNat 0) (List.take (iq rest:Int).toNat rest)).count 10<=iq rest:=Uf List.count_le_length (by simp;omega);refine ia ?_;refine ca (Pure.jh (i:=iq rest) (j:=rest.length) rfl ⟨_,rfl⟩ rfl zo zo zo)<|oa ?_;exact⟨_,_,_,by simp only[length_drop];omega,⟨v,out,rest.drop (iq rest),line+((rest.take (iq rest)).count 10:Nat),f,rfl,rfl,Ta,
   by simp only[length_drop];omega,by omega,by simp only[length_drop];simp at bu;omega,by simp only[length_drop];omega,hI⟩,⟨rfl,bf (by simp),uC (by simp),trivial⟩,kb _,hj⟩
 have yp:rest=[]:=by simpa using eb
 refine ia ?_;refine Uu ?_;exact Na hj (rC (rT (v:=v) rfl Ta.sub) (rC (ib rfl) (va rfl))) (by
  rw[ix,zn zo,hI,yp];cases Xa <;> simp[di,Except.map,HK,Ge])
attribute [local irreducible] LQ Pa Td Lf
@[reducible] def Za(sb:Nat)(T:List Tok)(i op:Nat):Nat×da:=(sb,.cells 90 [.list (T.map Oo),int .i64 i,int .i64 op])
def JF(l e:Int):List PanicEntry:=[{ v:=.iface 86 (.agg #[.int .i64 l,.int .i64 e]),recovered:=false }]
def fk{A:Type}(sb:Nat)(T:List Tok)(enc:A->LV)(ck:vh A)(r:Lc)(H:Heap):Prop:=match ck with
 |.ok v i op=>r=.ret (enc v)/\H=[Za sb T i op]
 |.err l e=>r=.panic (JF l e)/\∃ i op:Nat,H=[Za sb T i op]
def fu:Unit->LV:=λ_=>.tuple []
theorem Hh{A:Type}(f:A->LV)(l:List A)(i:Nat)(h:i<l.length):(l.map f)[((i:Nat):Int).toNat]? = some (f l[i]):=by rw[Int.toNat_natCast,List.getElem?_map,dh h];rfl
theorem To(sb:Nat)(T:List Tok)(i op:Nat)(xs:List (List UInt8))(hT:T.length<=100000)(hi:i<=1000000)(hx:xs.length<=1000) :
  aa (KC B0 w0) 68 [ptr sb 0,.list (xs.map str)] [Za sb T i op] (λr H=>r=.ret (bool (ie T i xs))/\H=[Za sb T i op]):=by
 refine cJ Tryz.func68 (n:=40) ?_;refine Xj ?_;refine cC [(0,ptr sb 0),(1,.list (xs.map str)),(15,bool (decide (T.length<=i)))] ?_ λj hj=>?_;refine Pm ?_;exact⟨⟨rfl,rfl,Ed (by rw[decide_eq_decide];simp),trivial⟩,rfl,rfl⟩
 skip
 refine sa (λhc=>?_) λhc=>?_;refine Oe ?_;exact rR hj (va rfl) Ma ⟨by rw[ie,List.getElem?_eq_none (zt hc)];rfl,rfl⟩;have wa:i<T.length:=by have:=zf hc;omega
 refine oa ?_;refine cD (m:=12) rfl [Za sb T i op]<|ft ?_;refine aT 3 rfl rfl (pL (c:=.list _) rfl yb rfl)<|aT 4 rfl rfl (pM (lv:=.atom _) rfl)<|aT 5 rfl rfl (pN rfl)<|aT 6 rfl rfl (pF rfl)<|aT 7 rfl rfl (pL (c:=.atom _) rfl yb rfl)<|Pa.take (i:=8) Ma rfl zk zk zk rfl (xR (ad:=Oo T[i]) (cs:=[_,_,_]) rfl rfl zo (Hh _ _ _ wa) rfl rfl)<|aT 9 rfl rfl (pR (Ya:=[_,_,_]) rfl rfl rfl)<|aL ?_ Ma;refine lO 10 (lS (H1:=[]) (F:=[Za sb T i op]) rfl (.inl rfl) rfl qb Ma (yc λb=>?_));refine lO 11 (lS (H1:=[(b,_)]) (F:=[Za sb T i op]) rfl (.inl rfl) rfl qb Ma (sS (Ya:=[_,_,_]) rfl pH rfl rfl rfl rfl rfl ?_));refine lD zk ?_;refine ia ?_;have DM:ie T i xs=((decide (T[i].kind=3) || decide (T[i].kind=4)) && xs.contains T[i].text):=by rw[ie,dh wa]
 rw[DM];refine oB 29 rfl (λh3=>?_) λh3=>?_;refine oa ?_;refine oS (sF [_,_] rfl (nM xs T[i].text zo) ?_);refine oa ?_;exact rR hj (va rfl) (fe Ma) ⟨by rw[h3];rfl,rfl⟩;refine oa ?_;refine oB 34 rfl (λh4=>?_) λh4=>?_;refine oa ?_;refine oS (sF [_,_] rfl (nM xs T[i].text zo) ?_);refine oa ?_;exact rR hj (va rfl) (fe Ma) ⟨by rw[h3,h4];rfl,rfl⟩;refine oa ?_;exact rR hj (va rfl) (fe Ma) ⟨by rw[h3,h4];rfl,rfl⟩
section steps
variable{C:Ctx}{e:Env}{H:Heap}{dst:Option Nat}{ty:TypeId}{la:String}{ma:Array Edge}{g:Option (Nat×Bool)}{K:LV->Heap->Prop}{X:List PanicEntry->Heap->Prop}
theorem sH{f:FuncId} [fb C.P f](args:List Operand){xe:Array TypeId}{av:List LV}{lv:LV}{p p':Nat×da}{F:Heap}(has:args.map e.ev=av)(hp:Ec p H F)(hc:aa C f av [p] λr H=>r=.ret lv/\H=[p'])(hk:K lv (p'::F)) :
  Ja C ⟨dst,.call { callee:=.value (.func f),args:=args.toArray,argTypes:=xe },ty,la,ma,g⟩ e H K X:=
 S.Us args has hp hc (by rintro v H' ⟨h,rfl⟩;cases h;exact hk) (by rintro ch H' ⟨h,_⟩;cases h)
theorem sP{A:Type}{enc:A->LV}{ck:vh A}{f:FuncId} [fb C.P f](args:List Operand){xe:Array TypeId}{av:List LV}{F:Heap}(has:args.map e.ev=av)(hp:Ec (Za sb T i op) H F)
  (hc:aa C f av [Za sb T i op] (fk sb T enc ck)) (hk:∀ v i' Da,ck=.ok v i' Da->K (enc v) (Za sb T i' Da::F)) (hx:∀ l er i' Da,ck=.err l er->X (JF l er) (Za sb T i' Da::F)) :
  Ja C ⟨dst,.call { callee:=.value (.func f),args:=args.toArray,argTypes:=xe },ty,la,ma,g⟩ e H K X:=by
 refine S.Us args has hp hc ?_ ?_;intro v H' h;cases hr:ck with
 |ok u i' Da=>rw[hr] at h;obtain⟨h1,rfl⟩:=h;cases h1;exact hk _ _ _ hr
 |err l er=>rw[hr] at h;obtain⟨h1,_⟩:=h;cases h1
 intro ch H' h;cases hr:ck with
 |ok u i' Da=>rw[hr] at h;obtain⟨h1,_⟩:=h;cases h1
 |err l er=>rw[hr] at h;obtain⟨h1,i',Da,rfl⟩:=h;cases h1;exact hx _ _ _ _ hr
theorem ue{A:Type}{enc:A->LV}{ck:vh A}{vs:List LV}{v:A}(hd:e.ds=[])(h:Eh C n e H rs vs)(hr:ck=.ok v i op)(hv:Ge vs=enc v)(hH:HSub [Za sb T i op] H) :
  oc C n rs (fk sb T enc ck) .ret e H:=rR hd h hH (by rw[hr];exact⟨by rw[hv],rfl⟩)
theorem QN{A:Type}{enc:A->LV}{ck:vh A}{vs:List LV}{v:A}(hd:e.ds=[])(h:Eh C n e H rs vs)(hr:ck=.ok v i op)(hv:Ge vs=enc v)(hH:HSub [Za sb T i op] H) :
  oc C n rs (fk sb T enc ck) .normal e H:=rO hd h hH (by rw[hr];exact⟨by rw[hv],rfl⟩)
theorem Yb{A:Type}{enc:A->LV}{ck:vh A}{l er:Int}(hd:e.ds=[])(hr:ck=.err l er)(hH:HSub [Za sb T i op] H) :
  oc C n rs (fk sb T enc ck) (.panic (JF l er)) e H:=oc.panic hd hH (by rw[hr];exact⟨rfl,i,op,rfl⟩)
end steps
variable{B0:Nat}{w0:World}
theorem WH{A:Type}(enc:A->LV)(sb:Nat)(T:List Tok)(i op:Nat)(er:Int)(hT:T.length<=100000)(hi:i<=1000000) :
  aa (KC B0 w0) 73 [ptr sb 0,int .i64 er] [Za sb T i op] (fk sb T enc (.err (mF T i) er)):=by
 have Hn:(T.map Oo).length=T.length:=Ua _;refine cJ Tryz.func73 (n:=31) ?_;refine ja ?_;refine cC [(0,ptr sb 0),(1,int .i64 er),(4,int .i64 (mF T i))] ?_ λj hj=>?_;refine sa (λhc=>?_) λhc=>?_;have Qd:0<T.length:=by have:=zt hc;simp at this;omega
 have oJ:min i (T.length-1)<T.length:=by omega
 have hmv:(if ((T.map Oo).length:Int)-1<(i:Int) then ((T.map Oo).length:Int)-1 else (i:Int))=((min i (T.length-1):Nat):Int):=by rw[Ua];split <;> omega
 refine Ga.quiet zk ?_;refine Oi ?_;refine qP (xR (n:=((min i (T.length-1):Nat):Int)) (ad:=Oo T[min i (T.length-1)]) (cs:=[_,_,_]) rfl (congrArg (int .i64) hmv) zo (Hh _ _ _ oJ) rfl rfl) rfl ?_;refine za ?_;exact⟨⟨rfl,rfl,bf (by rw[mF,dh oJ]),trivial⟩,rfl,rfl⟩;have hz:T=[]:=by have:=zf hc;exact List.length_eq_zero_iff.1 zo
 refine oa ?_;exact⟨⟨rfl,rfl,bf (by rw[mF,hz];rfl),trivial⟩,rfl,rfl⟩;refine ja ?_;refine oS (Ja.panic rfl λe' ya=>?_);exact Yb (ya.trans hj) rfl Ma
theorem px(sb:Nat)(T:List Tok)(i op:Nat)(x:List UInt8)(hT:T.length<=100000)(hi:i<=1000000) :
  aa (KC B0 w0) 70 [ptr sb 0,str x] [Za sb T i op] (λr H=>r=.ret (bool (ie T i [x]))/\H=[Za sb T (if ie T i [x] then i+1 else i) op]):=by
 refine cJ Tryz.func70 (n:=17) ?_;refine fg ?_;refine fh ?_;refine oS (sH [_,_] rfl pH (To sb T i op [x] hT hi (by simp)) ?_);refine za ?_;refine sa (λhc=>?_) λhc=>?_;have h:ie T i [x]=false:=by simpa using hc
 refine Oe ?_;exact rR rfl (va rfl) Ma ⟨by rw[h];rfl,by rw[h];rfl⟩;have h:ie T i [x]=true:=by simpa using hc
 refine ja ?_;exact rR rfl (va rfl) Ma ⟨by rw[h];rfl,by rw[h];rfl⟩
theorem NC(sb:Nat)(T:List Tok)(i op:Nat)(x:List UInt8)(hT:T.length<=100000)(hi:i<=1000000) :
  aa (KC B0 w0) 145 [ptr sb 0,str x] [Za sb T i op] (fk sb T fu (Bq T x i op)):=by
 refine cJ Tryz.func145 (n:=10) ?_;refine Dc ?_;refine oS (sH [_,_] rfl pH (px sb T i op x hT hi) ?_);refine za ?_;refine sa (λhc=>?_) λhc=>?_;have h:ie T i [x]=false:=by simpa using hc
 simp only[h,Vh,if_false];refine Dc ?_;refine oS (sP [_,_] rfl pH (WH fu sb T i op 3 hT hi) (λ_ _ _ h=>by cases h) λl er i' Da h e' ya=>?_);cases h;exact Yb (ya.trans rfl) (by rw[Bq,h,zn ra];rfl) Ma;have h:ie T i [x]=true:=by simpa using hc
 simp only[h,if_true];refine oa ?_;exact QN rfl rN (by rw[Bq,h,zp rfl]) rfl Ma
theorem Qj(sb:Nat)(T:List Tok)(i op:Nat)(k:Int)(hT:T.length<=100000)(hi:i<=1000000) :
  aa (KC B0 w0) 146 [ptr sb 0,int .i64 k] [Za sb T i op] (fk sb T str (Xm T k i op)):=by
 have Hn:(T.map Oo).length=T.length:=Ua _;refine cJ Tryz.func146 (n:=51) ?_;refine Xj ?_;refine cC [(0,ptr sb 0),(1,int .i64 k),(29,bool (match T[i]? with|some t=>!decide (t.kind=k)|none=>true))] ?_ λj hj=>?_;refine Pm ?_;refine LQ.Up 15 rfl (λh=>?_) λh=>?_;have Fm:T.length<=i:=by have:=zt h;omega
 refine za ?_;exact⟨⟨rfl,rfl,Ed (by rw[List.getElem?_eq_none Fm]),trivial⟩,rfl,rfl⟩;have wa:i<T.length:=by have:=zf h;omega
 refine Oi ?_;refine qP (xR (ad:=Oo T[i]) (cs:=[_,_,_]) rfl rfl zo (Hh _ _ _ wa) rfl rfl) rfl ?_;refine Oi ?_;exact⟨⟨rfl,rfl,Ed (by rw[dh wa]),trivial⟩,rfl,rfl⟩
 skip
 refine sa (λhc=>?_) λhc=>?_
 have hs:Xm T k i op=WE T i:=by
  unfold Xm;cases hg:T[i]? with
  |none=>rfl
  |some t=>
   rw[hg] at hc;have:¬ t.kind=k:=by simpa using hc
   simp only;rw[zn this]
 refine Dc ?_;refine oS (sP [_,_] rfl pH (WH str sb T i op 3 hT hi) (λ_ _ _ h=>by cases h) λl er i' Da h e' ya=>?_);cases h;refine zg ?_;exact Yb (ya.trans hj) hs Ma
 have wa:i<T.length:=by rcases Nat.lt_or_ge i T.length with h|h;exact h;rw[List.getElem?_eq_none h] at hc;cases hc
 rw[dh wa] at hc;have hk:T[i].kind=k:=by simpa using hc
 have hs:Xm T k i op=.ok T[i].text (i+1) op:=by rw[Xm,dh wa];simp only;rw[zp hk]
 refine ja ?_;refine cC [(0,ptr sb 0),(4,str T[i].text)] ?_ λj2 Ub=>?_;refine Ga.quiet zk ?_;refine Oi ?_;refine qP (xR (n:=((i:Nat):Int)) (ad:=Oo T[i]) (cs:=[_,_,_]) rfl (bf zo) zo (Hh _ _ _ wa) rfl rfl) rfl ?_;refine za ?_;exact⟨Qa,rfl,rfl⟩;refine qh ?_;exact ue (Ub.trans hj) (va rfl) hs rfl Ma
theorem Xy(sb:Nat)(T:List Tok)(i op:Nat)(x:List UInt8)(hT:T.length<=100000)(hi:i<=1000000)(ho:op<=1000000) :
  aa (KC B0 w0) 147 [ptr sb 0,str x] [Za sb T i op] (fk sb T fu (mn T x i op)):=by
 refine cJ Tryz.func147 (n:=32) ?_;refine Dc ?_;refine fh ?_;refine oS (sH [_,_] rfl pH (To sb T i op [x] hT hi (by simp)) ?_);refine za ?_;refine sa (λhc=>?_) λhc=>?_;have h:ie T i [x]=false:=by simpa using hc
 refine Dc ?_;refine oS (sP [_,_] rfl pH (WH fu sb T i op 3 hT hi) (λ_ _ _ h=>by cases h) λl er i' Da h' e' ya=>?_);cases h';refine zg ?_;exact Yb (ya.trans rfl) (by rw[mn,h,zn ra];rfl) Ma;have h:ie T i [x]=true:=by simpa using hc
 refine ja ?_;refine sa (λhd=>?_) λhd=>?_;have cT:100<=op:=by have:=zt hd;omega
 refine Dc ?_;refine oS (sP [_,_] rfl pH (WH fu sb T i op 6 hT hi) (λ_ _ _ h=>by cases h) λl er i' Da h' e' ya=>?_);cases h';refine zg ?_;exact Yb (ya.trans rfl) (by rw[mn,h,zp rfl,zp cT]) Ma;have cT:¬ 100<=op:=by have:=zf hd;omega
 refine ja ?_;exact QN rfl rN (by rw[mn,h,zp rfl,zn cT]) rfl Ma
theorem GC(sb:Nat)(T:List Tok)(i op:Nat)(x:List UInt8)(hT:T.length<=100000)(hi:i<=1000000)(ho:op<=1000000)(h1:1<=op) :
  aa (KC B0 w0) 149 [ptr sb 0,str x] [Za sb T i op] (fk sb T fu (Ai T x i op)):=by
 refine cJ Tryz.func149 (n:=14) ?_;refine Dc ?_;refine oS (sP [_,_] rfl pH (NC sb T i op x hT hi) (λv i' Da h=>?_) λl er i' Da h e' ya=>?_)
 have Zf:Da=op:=by unfold Bq at h;split at h;cases h;rfl;cases h
 subst Zf;refine ja ?_;rw[show((Da:Int)-1)=((Da-1:Nat):Int) by omega];exact QN rfl rN (by rw[Ai,h];rfl) rfl Ma;refine zg ?_;exact Yb (ya.trans rfl) (by rw[Ai,h];rfl) Ma
theorem Bd{A B:Type}{v:A}{f:A->Nat->Nat->OR B}:Uc (some (.ok v i op)) f=f v i op:=rfl
theorem Hf{A B:Type}{l e:Int}{f:A->Nat->Nat->OR B}:Uc (some (.err l e)) f=some (.err l e):=rfl
theorem Zh{A B:Type}{r:OR A}{f:A->Nat->Nat->OR B}{q:vh B}(h:Uc r f=some q):∃ r1,r=some r1:=by
 cases r with
 |none=>cases h
 |some r1=>exact⟨r1,rfl⟩
structure Vn(T:List Tok):Prop where
 len:T.length<=100000
 Fb:∀ t∈T,t.text.length<=100000
 num:∀ t∈T,t.kind=1->∃ u,u<4294967296/\Go.Lib.parseUintB 32 t.text=.ok u
theorem r8{n:Int}(h:0<=n/\n<=4294967295):IntKind.u32.wrap n=n:=by simp only[IntKind.wrap,IntKind.bits,IntKind.signed,Pg];simp;omega
theorem Ry{k:Int}{i' Da:Nat}{s:List UInt8}(h:Xm T k i op=.ok s i' Da):i'=i+1/\Da=op/\∃ t,T[i]? = some t/\t.kind=k/\t.text=s:=by unfold Xm at h;split at h;rename_i t ht;split at h;rename_i hk;cases h;exact⟨rfl,rfl,t,ht,hk,rfl⟩;cases h;cases h
def CW(l:List (List UInt8)):LV:=.list (l.map str)
def ET(n:Nat):LV:=int .u32 n
def Fy(B0:Nat)(w0:World)(sb:Nat)(T:List Tok)(f:Nat):Prop:=
 ∀ i op r,i<=T.length->op<=100->Ue T f 0 i op=some r->aa (KC B0 w0) 241 [ptr sb 0] [Za sb T i op] (fk sb T Va r)
theorem GZ(hG:GW B0 w0)(sb:Nat)(T:List Tok)(hT:Vn T)(i op:Nat)(hi:i<=1000000):aa (KC B0 w0) 148 [ptr sb 0] [Za sb T i op] (fk sb T ET (EA T i op)):=by
 have hl:=hT.len;refine cJ Tryz.func148 (n:=13) ?_;refine fg ?_;refine oS (sP [_,_] rfl pH (Qj sb T i op 1 hl hi) (λs i1 ec h1=>?_) λl er i1 ec h1 e' ya=>?_);obtain⟨rfl,rfl,t,ht,hk,rfl⟩:=Ry h1;have mw:=List.mem_of_getElem? ht;obtain⟨u,hu,hp⟩:=hT.num t mw hk;have QR:=hT.Fb t mw;have hn:vH t.text=u:=by rw[vH,hp]
 have hw:IntKind.u32.wrap (u:Int)=(u:Int):=r8 zo;refine oS (sF [_,_,_] rfl (EZ t.text zo u hp) ?_);refine ja ?_;exact ue (v:=vH t.text) rfl (va rfl) (by rw[EA,h1];rfl) (by rw[hn];exact bf hw) Ma;refine zg ?_;exact Yb (ya.trans rfl) (by rw[EA,h1];rfl) Ma
theorem fZ(sb:Nat)(T:List Tok)(hT:Vn T)(f i op:Nat)(r:vh (List (List UInt8)))(hi:i<=T.length)(hr:kA T f i op=some r) :
  aa (KC B0 w0) 144 [ptr sb 0] [Za sb T i op] (fk sb T CW r):=by
 have hl:=hT.len;rw[kA] at hr;refine cJ Tryz.func144 (n:=15) ?_;refine fg ?_;refine oS (sP [_,_] rfl pH (Qj sb T i op 2 hl zo) (λs i1 ec h1=>?_) λl er i1 ec h1 e' ya=>?_);rw[h1,Bd] at hr
 have Ax:i1<=T.length:=by have:=Au T 2 i op;rw[h1] at this;exact this.2.2.1 hi
 refine oS (S.sD [_] rfl (rc rfl rfl Tf) rfl rfl rfl λb=>?_);refine za ?_
 refine oL (λk ls H=>∃ (v:LV) (l:List (List UInt8)) (i2:Nat) (Ha:Heap),ls=[(0,ptr sb 0),(3,v)]/\H=Za sb T i2 ec::Ha/\Acc 1 v (l.map str) Ha []/\i2<=T.length/\l.length<=i2+1/\Bu T k l i2 ec=some r)
  ⟨f,_,Za sb T i1 ec::[(b,.row 1)],⟨.app b 1 1 [str s],[s],i1,_,rfl,rfl,Acc.row,Ax,by simp,hr⟩,Qa,Ab uc Ma⟩ ?_
 rintro k ls H ⟨v,l,i2,Ha,rfl,rfl,Ta,Cp,vx,hI⟩ j hj;obtain⟨k,rfl⟩:∃ k',k=k'+1:=by
  cases k with
  |zero=>rw[Bu] at hI;cases hI
  |succ k=>exact⟨k,rfl⟩
 rw[Bu] at hI;refine Dc ?_;refine oS (sH [_,_] rfl pH (px sb T i2 ec [44] hl zo) ?_);refine ig ?_;refine sa (λhc=>?_) λhc=>?_;have wa:=Yh hc;rw[zp hc] at hI;simp only[hc,if_true];refine Af ?_;refine eh ?_;refine Dg ?_;refine oS (sP [_,_] rfl pH (Qj sb T (i2+1) ec 2 hl zo) (λs2 i3 Se h3=>?_) λl er i3 Se h3 e' ya=>?_);rw[h3,Bd] at hI;obtain⟨rfl,rfl,t,ht,_,_⟩:=Ry h3;have:=tC ht;refine fh ?_;refine oS (S.Cr rfl Ta rfl (by simp;rfl) rfl (by simp;omega) λv' H' Ra=>?_);refine Wh ?_;refine oa ?_;exact⟨k,_,_,by omega,⟨v',l++[s2],i2+1+1,H',rfl,rfl,by rw[Od];exact Ra,by omega,by simp;omega,hI⟩,Qa,kb _,hj⟩;rw[h3,Hf] at hI;refine Rc ?_;exact Yb (ya.trans hj) (by cases hI;rfl) dc;have uk:ie T i2 [[44]]=false:=hc;rw[zn (by rw[uk];decide)] at hI;simp only[uk,Vh,if_false];refine ia ?_;refine Uu ?_;exact ue (v:=l) hj (rC (rT (v:=v) rfl Ta.sub) rN) (by cases hI;rfl) rfl dc;exact Qx
theorem uQ(sb:Nat)(T:List Tok)(hT:Vn T)(f:Nat)(hE:Fy B0 w0 sb T f)(i op:Nat)(r:vh Ex)(hi:i<=T.length)(ho:op<=100)(hr:vv T (f+1) i op=some r) :
  aa (KC B0 w0) 270 [ptr sb 0] [Za sb T i op] (fk sb T Va r):=by
 have hl:=hT.len;rw[vv] at hr;refine cJ Tryz.func270 (n:=11) ?_;refine Pc ?_;refine oS (yc λb=>?_);refine qg ?_;refine oS (sP [_,_] rfl uc (Xy sb T i op [91] hl zo zo) (λv i1 ec h1=>?_) λl er i1 ec h1 e' ya=>?_);rw[h1,Bd] at hr;obtain⟨rfl,rfl,gr,Ax⟩:=Jq h1;refine qg ?_;obtain⟨r1,xd⟩:=Zh hr;refine oS (sP [_] rfl pH (hE _ _ r1 zo zo xd) (λv i2 Ye h2=>?_) λl er i2 Ye h2 e' ya=>?_);rw[xd,h2,Bd] at hr;obtain⟨g1,_,g3,rfl⟩:=(Xr T f).1 0 _ _ _ (xd.trans (congrArg some h2));have g4:=g3 zo;refine oS (yc λb2=>?_);refine ja ?_;refine oS (sP [_,_] rfl uc (GC sb T i2 (op+1) [93] hl zo zo zo) (λu i3 Se h3=>?_) λl er i3 Se h3 e' ya=>?_);rw[h3,Bd] at hr;refine ja ?_;exact ue rfl (rC (rA rfl yb rfl fc) rN) (by cases hr;rfl) rfl (fe dc);rw[h3,Hf] at hr;refine zg ?_;exact Yb (ya.trans rfl) (by cases hr;rfl) dc;rw[xd,h2,Hf] at hr;refine zg ?_;exact Yb (ya.trans rfl) (by cases hr;rfl) dc;exact Qx
end Go.Proofs.YtjolancjacdeaaaGreatDoor
