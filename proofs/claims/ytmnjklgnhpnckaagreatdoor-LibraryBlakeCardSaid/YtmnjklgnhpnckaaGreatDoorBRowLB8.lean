import Derived.Test.YtmnjklgnhpnckaaGreatDoorProg
import Derived.Test.YtmnjklgnhpnckaaGreatDoorBRowLB7
set_option linter.unusedVariables false
set_option linter.unusedSimpArgs false
set_option maxRecDepth 100000
set_option maxHeartbeats 4000000
open Go.GL (zk)
open List (all_cons mem_append_left mem_append_right)
open Nat (zero_le)
namespace Go.Proofs.YtmnjklgnhpnckaaGreatDoor
open Go.GL
noncomputable abbrev Uj:=Tryz.prog
abbrev Pa:=Gb Uj
abbrev Pd:=Ck Uj
abbrev uj:=Dh Uj
abbrev Dj:=gu Uj
abbrev zS:=Rp Uj
abbrev Zo:=Dl Uj
abbrev Js:=Pn Uj
abbrev lu:=Ea Uj
abbrev Zz:=Kh Uj
instance:Qr Uj:=⟨zk⟩
instance:Dj 3 1:=.of zk
instance:zS 3:=.of zk
instance:ai Uj 3 .i64:=.of zk
instance:uj 3 [.int .i64 0]:=.of (v:=.int .i64 0) (n:=1) zk rfl rfl
instance:Zz 3 1 8:=.of zk
instance:Dj 4 1:=.of zk
instance:zS 4:=.of zk
instance:ai Uj 5 .u8:=.of zk
instance:uj 5 [.int .u8 0]:=.of (v:=.int .u8 0) (n:=1) zk rfl rfl
instance:Zz 5 1 1:=.of zk
instance:Dj 9 1:=.of zk
instance:zS 9:=.of zk
instance:Bm Uj 9:=.of zk
instance:uj 9 [.string ⟨#[]⟩]:=.of (v:=.string ⟨#[]⟩) (n:=1) zk rfl rfl
instance:Zz 9 1 16:=.of zk
instance:Dj 23 1:=.of zk
instance:zS 23:=.of zk
instance:uj 23 [.int .i64 0]:=.of (v:=.int .i64 0) (n:=1) zk rfl rfl
instance:Dj 25 3:=.of zk
instance:Js 25 3:=.of zk
instance:Pd 25 0 0:=.of zk
instance:Pd 25 1 1:=.of zk
instance:Zo 25 [(0,1),(1,1),(2,1)]:=.of zk
instance:uj 25 [.string ⟨#[]⟩,.int .i64 0,.int .i64 0]:=.of (v:=.agg #[.string ⟨#[]⟩,.int .i64 0,.int .i64 0]) (n:=3) zk rfl rfl
instance:Dj 27 1:=.of zk
instance:zS 27:=.of zk
instance:lu 27 54 1:=.of zk
instance:Dj 30 1:=.of zk
instance:zS 30:=.of zk
instance:lu 30 9 1:=.of zk
instance:uj 30 [.slice none 0 0]:=.of (v:=.slice none 0 0) (n:=1) zk rfl rfl
instance:Dj 33 1:=.of zk
instance:zS 33:=.of zk
instance:lu 33 5 1:=.of zk
instance:lu 42 3 1:=.of zk
instance:Dj 48 3:=.of zk
instance:Js 48 3:=.of zk
instance:Pd 48 0 0:=.of zk
instance:Pd 48 1 1:=.of zk
instance:Pd 48 2 2:=.of zk
instance:Zo 48 [(0,1),(1,1),(2,1)]:=.of zk
instance:uj 48 [.int .i64 0,.int .i64 0,.int .i64 0]:=.of (v:=.agg #[.int .i64 0,.int .i64 0,.int .i64 0]) (n:=3) zk rfl rfl
instance:Dj 52 2:=.of zk
instance:Js 52 2:=.of zk
instance:Pd 52 0 0:=.of zk
instance:Pd 52 1 1:=.of zk
instance:Zo 52 [(0,1),(1,1)]:=.of zk
instance:uj 52 [.int .i64 0,.string ⟨#[]⟩]:=.of (v:=.agg #[.int .i64 0,.string ⟨#[]⟩]) (n:=2) zk rfl rfl
instance:lu 53 52 2:=.of zk
instance:Dj 54 1:=.of zk
instance:zS 54:=.of zk
instance:ai Uj 54 .u32:=.of zk
instance:uj 54 [.int .u32 0]:=.of (v:=.int .u32 0) (n:=1) zk rfl rfl
instance:Zz 54 1 4:=.of zk
instance:Dj 65 1:=.of zk
instance:zS 65:=.of zk
instance:lu 65 164 2:=.of zk
instance:Dj 66 1:=.of zk
instance:zS 66:=.of zk
instance:lu 66 168 4:=.of zk
instance:Dj 68 3:=.of zk
instance:Js 68 3:=.of zk
instance:Pd 68 0 0:=.of zk
instance:Pd 68 1 1:=.of zk
instance:Pd 68 2 2:=.of zk
instance:Zo 68 [(0,1),(1,1),(2,1)]:=.of zk
instance:uj 68 [.slice none 0 0,.slice none 0 0,.slice none 0 0]:=.of (v:=.agg #[.slice none 0 0,.slice none 0 0,.slice none 0 0]) (n:=3) zk rfl rfl
instance:lu 73 126 2:=.of zk
instance:zS 77:=.of zk
instance:Pd 80 0 0:=.of zk
instance:Pd 80 1 1:=.of zk
instance:Pd 80 2 2:=.of zk
instance:Pd 80 3 3:=.of zk
instance:Pd 80 4 4:=.of zk
instance:Pd 80 5 5:=.of zk
instance:Pd 80 6 6:=.of zk
instance:Pd 80 7 7:=.of zk
instance:Pd 80 8 8:=.of zk
instance:Pd 80 9 9:=.of zk
instance:Zo 80 [(0,1),(1,1),(2,1),(3,1),(4,1),(5,1),(6,1),(7,1),(8,1),(9,1)]:=.of zk
instance:uj 80 [.slice none 0 0,.int .u32 0,.slice none 0 0,.slice none 0 0,.slice none 0 0,.slice none 0 0,.bool false,.int .i64 0,.bool false,.map none]:=.of (v:=.agg #[.slice none 0 0,.int .u32 0,.slice none 0 0,.slice none 0 0,.slice none 0 0,.slice none 0 0,.bool false,.int .i64 0,.bool false,.map none]) (n:=10) zk rfl rfl
instance:Dj 82 8:=.of zk
instance:Js 82 8:=.of zk
instance:uj 82 [.int .u32 0,.int .u32 0,.int .u32 0,.int .u32 0,.int .u32 0,.int .u32 0,.int .u32 0,.int .u32 0]:=.of (v:=.agg #[.int .u32 0,.int .u32 0,.int .u32 0,.int .u32 0,.int .u32 0,.int .u32 0,.int .u32 0,.int .u32 0]) (n:=8) zk rfl rfl
instance:ai Uj 86 .u64:=.of zk
instance:ai Uj 87 .u64:=.of zk
instance:Pd 92 1 1:=.of zk
instance:uj 92 [.pointer none,.slice none 0 0]:=.of (v:=.agg #[.pointer none,.slice none 0 0]) (n:=2) zk rfl rfl
instance:zS 97:=.of zk
instance:zS 98:=.of zk
instance:lu 98 157 3:=.of zk
instance:Dj 102 2:=.of zk
instance:Ie Uj 102:=.of zk
instance:Pd 102 0 0:=.of zk
instance:Pd 102 1 1:=.of zk
instance:Zo 102 [(0,1),(1,1)]:=.of zk
instance:uj 102 [.int .i64 0,.int .i64 0]:=.of (v:=.agg #[.int .i64 0,.int .i64 0]) (n:=2) zk rfl rfl
instance:zS 104:=.of zk
instance:Pd 106 0 0:=.of zk
instance:Pd 106 1 1:=.of zk
instance:Pd 106 2 2:=.of zk
instance:Zo 106 [(0,1),(1,1),(2,1)]:=.of zk
instance:uj 106 [.slice none 0 0,.int .i64 0,.int .i64 0]:=.of (v:=.agg #[.slice none 0 0,.int .i64 0,.int .i64 0]) (n:=3) zk rfl rfl
instance:Dj 109 2:=.of zk
instance:Ie Uj 109:=.of zk
instance:Pd 109 0 0:=.of zk
instance:Pd 109 1 1:=.of zk
instance:Zo 109 [(0,1),(1,1)]:=.of zk
instance:uj 109 [.string ⟨#[]⟩,.int .i64 0]:=.of (v:=.agg #[.string ⟨#[]⟩,.int .i64 0]) (n:=2) zk rfl rfl
instance:Dj 112 1:=.of zk
instance:zS 112:=.of zk
instance:zS 113:=.of zk
instance:Pd 115 0 0:=.of zk
instance:Pd 115 1 1:=.of zk
instance:Pd 115 2 2:=.of zk
instance:Pd 115 3 3:=.of zk
instance:Pd 115 4 4:=.of zk
instance:Pd 115 5 5:=.of zk
instance:Pd 115 6 6:=.of zk
instance:Zo 115 [(0,1),(1,1),(2,1),(3,1),(4,1),(5,1),(6,1)]:=.of zk
instance:uj 115 [.map none,.map none,.map none,.map none,.string ⟨#[]⟩,.map none,.int .i64 0]:=.of (v:=.agg #[.map none,.map none,.map none,.map none,.string ⟨#[]⟩,.map none,.int .i64 0]) (n:=7) zk rfl rfl
instance:zS 118:=.of zk
instance:zS 119:=.of zk
instance:Pd 121 0 0:=.of zk
instance:Pd 121 1 1:=.of zk
instance:Pd 121 2 2:=.of zk
instance:Pd 121 3 3:=.of zk
instance:Pd 121 4 4:=.of zk
instance:Pd 121 5 5:=.of zk
instance:Zo 121 [(0,1),(1,1),(2,1),(3,1),(4,1),(5,1)]:=.of zk
instance:uj 121 [.slice none 0 0,.int .i64 0,.int .i64 0,.map none,.map none,.string ⟨#[]⟩]:=.of (v:=.agg #[.slice none 0 0,.int .i64 0,.int .i64 0,.map none,.map none,.string ⟨#[]⟩]) (n:=6) zk rfl rfl
instance:Dj 126 2:=.of zk
instance:Js 126 2:=.of zk
instance:Pd 126 0 0:=.of zk
instance:Pd 126 1 1:=.of zk
instance:Zo 126 [(0,1),(1,1)]:=.of zk
instance:uj 126 [.string ⟨#[]⟩,.int .i64 0]:=.of (v:=.agg #[.string ⟨#[]⟩,.int .i64 0]) (n:=2) zk rfl rfl
instance:Zz 126 2 24:=.of zk
instance:lu 130 185 2:=.of zk
instance:Dj 139 0:=.of zk
instance:Ie Uj 139:=.of zk
instance:Zo 139 []:=.of zk
instance:uj 139 []:=.of (v:=.agg #[]) (n:=0) zk rfl rfl
instance:Dj 142 16:=.of zk
instance:Js 142 16:=.of zk
instance:uj 142 [.int .u32 0,.int .u32 0,.int .u32 0,.int .u32 0,.int .u32 0,.int .u32 0,.int .u32 0,.int .u32 0,.int .u32 0,.int .u32 0,.int .u32 0,.int .u32 0,.int .u32 0,.int .u32 0,.int .u32 0,.int .u32 0]:=.of (v:=.agg #[.int .u32 0,.int .u32 0,.int .u32 0,.int .u32 0,.int .u32 0,.int .u32 0,.int .u32 0,.int .u32 0,.int .u32 0,.int .u32 0,.int .u32 0,.int .u32 0,.int .u32 0,.int .u32 0,.int .u32 0,.int .u32 0]) (n:=16) zk rfl rfl
instance:Dj 144 4:=.of zk
instance:Js 144 4:=.of zk
instance:uj 144 [.int .i64 0,.int .i64 0,.int .i64 0,.int .i64 0]:=.of (v:=.agg #[.int .i64 0,.int .i64 0,.int .i64 0,.int .i64 0]) (n:=4) zk rfl rfl
instance:lu 148 152 2:=.of zk
instance:Js 152 2:=.of zk
instance:Pd 152 0 0:=.of zk
instance:Pd 152 1 1:=.of zk
instance:Zo 152 [(0,1),(1,1)]:=.of zk
instance:uj 152 [.string ⟨#[]⟩,.nilFunc]:=.of (v:=.agg #[.string ⟨#[]⟩,.nilFunc]) (n:=2) zk rfl rfl
instance:Dj 157 3:=.of zk
instance:Js 157 3:=.of zk
instance:Pd 157 0 0:=.of zk
instance:Pd 157 1 1:=.of zk
instance:Pd 157 2 2:=.of zk
instance:Zo 157 [(0,1),(1,1),(2,1)]:=.of zk
instance:uj 157 [.int .i64 0,.string ⟨#[]⟩,.int .i64 0]:=.of (v:=.agg #[.int .i64 0,.string ⟨#[]⟩,.int .i64 0]) (n:=3) zk rfl rfl
instance:Zz 157 3 32:=.of zk
instance:Dj 164 2:=.of zk
instance:Js 164 2:=.of zk
instance:Pd 164 0 0:=.of zk
instance:Pd 164 1 1:=.of zk
instance:Zo 164 [(0,1),(1,1)]:=.of zk
instance:uj 164 [.string ⟨#[]⟩,.int .i64 0]:=.of (v:=.agg #[.string ⟨#[]⟩,.int .i64 0]) (n:=2) zk rfl rfl
instance:Zz 164 2 24:=.of zk
instance:Dj 166 1:=.of zk
instance:zS 166:=.of zk
instance:lu 166 217 6:=.of zk
instance:Dj 168 4:=.of zk
instance:Js 168 4:=.of zk
instance:Pd 168 0 0:=.of zk
instance:Pd 168 1 1:=.of zk
instance:Pd 168 2 2:=.of zk
instance:Pd 168 3 3:=.of zk
instance:Zo 168 [(0,1),(1,1),(2,1),(3,1)]:=.of zk
instance:uj 168 [.string ⟨#[]⟩,.slice none 0 0,.slice none 0 0,.slice none 0 0]:=.of (v:=.agg #[.string ⟨#[]⟩,.slice none 0 0,.slice none 0 0,.slice none 0 0]) (n:=4) zk rfl rfl
instance:Zz 168 4 88:=.of zk
instance:Dj 175 3:=.of zk
instance:Pd 175 0 0:=.of zk
instance:Pd 175 1 1:=.of zk
instance:Pd 175 2 2:=.of zk
instance:Zo 175 [(0,1),(1,1),(2,1)]:=.of zk
instance:uj 175 [.int .i64 0,.int .i64 0,.int .i64 0]:=.of (v:=.agg #[.int .i64 0,.int .i64 0,.int .i64 0]) (n:=3) zk rfl rfl
instance:Dj 177 2:=.of zk
instance:Js 177 2:=.of zk
instance:Pd 177 0 0:=.of zk
instance:Pd 177 1 1:=.of zk
instance:Zo 177 [(0,1),(1,1)]:=.of zk
instance:uj 177 [.int .i64 0,.int .i64 0]:=.of (v:=.agg #[.int .i64 0,.int .i64 0]) (n:=2) zk rfl rfl
instance:lu 178 177 2:=.of zk
instance:Dj 185 2:=.of zk
instance:Js 185 2:=.of zk
instance:Pd 185 0 0:=.of zk
instance:Pd 185 1 1:=.of zk
instance:Zo 185 [(0,1),(1,1)]:=.of zk
instance:uj 185 [.string ⟨#[]⟩,.int .i64 0]:=.of (v:=.agg #[.string ⟨#[]⟩,.int .i64 0]) (n:=2) zk rfl rfl
instance:Zz 185 2 24:=.of zk
instance:lu 189 190 1:=.of zk
instance:zS 190:=.of zk
instance:uj 190 [.nilFunc]:=.of (v:=.nilFunc) (n:=1) zk rfl rfl
instance:Js 193 2:=.of zk
instance:Pd 193 0 0:=.of zk
instance:Pd 193 1 1:=.of zk
instance:Zo 193 [(0,1),(1,1)]:=.of zk
instance:uj 193 [.slice none 0 0,.map none]:=.of (v:=.agg #[.slice none 0 0,.map none]) (n:=2) zk rfl rfl
instance:zS 212:=.of zk
instance:lu 212 30 1:=.of zk
instance:Dj 215 1:=.of zk
instance:zS 215:=.of zk
instance:lu 215 220 4:=.of zk
instance:Dj 217 6:=.of zk
instance:Js 217 6:=.of zk
instance:Pd 217 0 0:=.of zk
instance:Pd 217 1 1:=.of zk
instance:Pd 217 2 2:=.of zk
instance:Pd 217 3 3:=.of zk
instance:Pd 217 4 4:=.of zk
instance:Pd 217 5 5:=.of zk
instance:Zo 217 [(0,1),(1,1),(2,1),(3,1),(4,1),(5,1)]:=.of zk
instance:uj 217 [.int .i64 0,.string ⟨#[]⟩,.slice none 0 0,.slice none 0 0,.slice none 0 0,.slice none 0 0]:=.of (v:=.agg #[.int .i64 0,.string ⟨#[]⟩,.slice none 0 0,.slice none 0 0,.slice none 0 0,.slice none 0 0]) (n:=6) zk rfl rfl
instance:Zz 217 6 120:=.of zk
instance:Dj 220 4:=.of zk
instance:Js 220 4:=.of zk
instance:Pd 220 0 0:=.of zk
instance:Pd 220 1 1:=.of zk
instance:Pd 220 2 2:=.of zk
instance:Pd 220 3 3:=.of zk
instance:Zo 220 [(0,1),(1,1),(2,1),(3,1)]:=.of zk
instance:uj 220 [.string ⟨#[]⟩,.int .u32 0,.string ⟨#[]⟩,.slice none 0 0]:=.of (v:=.agg #[.string ⟨#[]⟩,.int .u32 0,.string ⟨#[]⟩,.slice none 0 0]) (n:=4) zk rfl rfl
instance:Zz 220 4 64:=.of zk
instance:Dj 249 1:=.of zk
instance:zS 249:=.of zk
instance:uj 249 [.nilFunc]:=.of (v:=.nilFunc) (n:=1) zk rfl rfl
instance:Pa 5:=.of zk
instance:Pa 6:=.of zk
instance:Pa 7:=.of zk
instance:Pa 8:=.of zk
instance:Pa 16:=.of zk
instance:Pa 17:=.of zk
instance:Pa 18:=.of zk
instance:Pa 19:=.of zk
instance:Pa 25:=.of zk
instance:Pa 26:=.of zk
instance:Pa 27:=.of zk
instance:Pa 28:=.of zk
instance:Pa 29:=.of zk
instance:Pa 30:=.of zk
instance:Pa 31:=.of zk
instance:Pa 32:=.of zk
instance:Pa 33:=.of zk
instance:Pa 34:=.of zk
instance:Pa 37:=.of zk
instance:Pa 38:=.of zk
instance:Pa 39:=.of zk
instance:Pa 40:=.of zk
instance:Pa 41:=.of zk
instance:Pa 42:=.of zk
instance:Pa 43:=.of zk
instance:Pa 44:=.of zk
instance:Pa 45:=.of zk
instance:Pa 46:=.of zk
instance:Pa 47:=.of zk
instance:Pa 48:=.of zk
instance:Pa 49:=.of zk
instance:Pa 50:=.of zk
instance:Pa 51:=.of zk
instance:Pa 52:=.of zk
instance:Pa 53:=.of zk
instance:Pa 54:=.of zk
instance:Pa 55:=.of zk
instance:Pa 56:=.of zk
instance:Pa 57:=.of zk
instance:Pa 58:=.of zk
instance:Pa 59:=.of zk
instance:Pa 60:=.of zk
instance:Pa 61:=.of zk
instance:Pa 62:=.of zk
instance:Pa 63:=.of zk
instance:Pa 64:=.of zk
instance:Pa 65:=.of zk
instance:Pa 66:=.of zk
instance:Pa 67:=.of zk
instance:Pa 68:=.of zk
instance:Pa 69:=.of zk
instance:Pa 70:=.of zk
instance:Pa 71:=.of zk
instance:Pa 72:=.of zk
instance:Pa 73:=.of zk
instance:Pa 74:=.of zk
instance:Pa 75:=.of zk
instance:Pa 76:=.of zk
instance:Pa 77:=.of zk
instance:Pa 78:=.of zk
instance:Pa 79:=.of zk
instance:Pa 80:=.of zk
instance:Pa 81:=.of zk
instance:Pa 82:=.of zk
instance:Pa 83:=.of zk
instance:Pa 84:=.of zk
instance:Pa 85:=.of zk
instance:Pa 86:=.of zk
instance:Pa 87:=.of zk
instance:Pa 88:=.of zk
instance:Pa 89:=.of zk
instance:Pa 90:=.of zk
instance:Pa 91:=.of zk
instance:Pa 92:=.of zk
instance:Pa 94:=.of zk
instance:Pa 95:=.of zk
instance:Pa 96:=.of zk
instance:Pa 97:=.of zk
instance:Pa 98:=.of zk
instance:Pa 99:=.of zk
instance:Pa 100:=.of zk
instance:Pa 101:=.of zk
instance:Pa 102:=.of zk
instance:Pa 103:=.of zk
instance:Pa 104:=.of zk
instance:Pa 105:=.of zk
instance:Pa 106:=.of zk
instance:Pa 107:=.of zk
instance:Pa 108:=.of zk
instance:Pa 109:=.of zk
instance:Pa 110:=.of zk
instance:Pa 111:=.of zk
instance:Pa 112:=.of zk
instance:Pa 113:=.of zk
instance:Pa 114:=.of zk
instance:Pa 115:=.of zk
instance:Pa 116:=.of zk
instance:Pa 117:=.of zk
instance:Pa 118:=.of zk
instance:Pa 119:=.of zk
instance:Pa 120:=.of zk
instance:Pa 121:=.of zk
instance:Pa 122:=.of zk
instance:Pa 123:=.of zk
instance:Pa 124:=.of zk
instance:Pa 125:=.of zk
instance:Pa 126:=.of zk
instance:Pa 127:=.of zk
instance:Pa 128:=.of zk
instance:Pa 129:=.of zk
instance:Pa 130:=.of zk
instance:Pa 131:=.of zk
instance:Pa 133:=.of zk
instance:Pa 134:=.of zk
instance:Pa 135:=.of zk
instance:Pa 136:=.of zk
instance:Pa 137:=.of zk
instance:Pa 138:=.of zk
instance:Pa 139:=.of zk
instance:Pa 140:=.of zk
instance:Pa 141:=.of zk
instance:Pa 142:=.of zk
instance:Pa 146:=.of zk
instance:Pa 147:=.of zk
instance:Pa 148:=.of zk
instance:Pa 149:=.of zk
instance:Pa 150:=.of zk
instance:Pa 151:=.of zk
instance:Pa 152:=.of zk
instance:Pa 153:=.of zk
instance:Pa 154:=.of zk
instance:Pa 155:=.of zk
instance:Pa 156:=.of zk
instance:Pa 157:=.of zk
instance:Pa 158:=.of zk
instance:Pa 159:=.of zk
instance:Pa 160:=.of zk
instance:Pa 162:=.of zk
instance:Pa 163:=.of zk
instance:Pa 164:=.of zk
instance:Pa 165:=.of zk
instance:Pa 166:=.of zk
instance:Pa 167:=.of zk
instance:Pa 168:=.of zk
instance:Pa 169:=.of zk
instance:Pa 172:=.of zk
instance:Pa 173:=.of zk
instance:Pa 174:=.of zk
instance:Pa 175:=.of zk
instance:Pa 176:=.of zk
instance:Pa 177:=.of zk
instance:Pa 178:=.of zk
instance:Pa 179:=.of zk
instance:Pa 180:=.of zk
instance:Pa 181:=.of zk
instance:Pa 182:=.of zk
instance:Pa 183:=.of zk
instance:Pa 184:=.of zk
instance:Pa 185:=.of zk
instance:Pa 186:=.of zk
instance:Pa 187:=.of zk
instance:Pa 188:=.of zk
instance:Pa 189:=.of zk
instance:Pa 190:=.of zk
instance:Pa 191:=.of zk
instance:Pa 192:=.of zk
instance:Pa 194:=.of zk
instance:Pa 195:=.of zk
instance:Pa 196:=.of zk
instance:Pa 197:=.of zk
instance:Pa 199:=.of zk
instance:Pa 200:=.of zk
instance:Pa 201:=.of zk
instance:Pa 203:=.of zk
instance:Pa 204:=.of zk
instance:Pa 205:=.of zk
instance:Pa 208:=.of zk
instance:Pa 220:=.of zk
instance:Pa 225:=.of zk
instance:Pa 226:=.of zk
instance:Pa 227:=.of zk
instance:Pa 228:=.of zk
instance:Pa 229:=.of zk
instance:Pa 230:=.of zk
instance:Pa 231:=.of zk
instance:Pa 233:=.of zk
instance:Pa 234:=.of zk
instance:Pa 252:=.of zk
instance:Pa 253:=.of zk
instance:Pa 254:=.of zk
instance:Pa 255:=.of zk
instance:Pa 256:=.of zk
instance:Pa 257:=.of zk
instance:Pa 258:=.of zk
instance:Pa 259:=.of zk
instance:Pa 270:=.of zk
instance:Pa 271:=.of zk
instance:Pa 272:=.of zk
open Go.GL Go.RowKit Go.ea
noncomputable abbrev KC(B0:Nat)(w0:World):Ctx:=⟨Tryz.prog,B0,w0⟩
attribute [local irreducible] wa Qa Ra ca Go.GL.Pure Ud xe od
variable{B0:Nat}{w0:World}
theorem RP(c:UInt8):ca (KC B0 w0) 137 [int .u8 c.toNat] [] (Hb (bool (Rd c))):=by refine Xa Tryz.func137 rfl (n:=9) rfl rfl rfl ?_;refine ja ?_;refine oB 5 rfl (λht=>?_) λht=>?_;refine Ga ?_;exact Wa rfl (Oa rfl) (by simp[qh,Rd,ht]);refine qa ?_;exact Wa rfl (Oa rfl) (by simp[qh,Rd,ht])
theorem IZ(c:UInt8):ca (KC B0 w0) 139 [int .u8 c.toNat] [] (Hb (bool (Yk c))):=by refine Xa Tryz.func139 rfl (n:=9) rfl rfl rfl ?_;refine ja ?_;refine oB 5 rfl (λht=>?_) λht=>?_;refine Ga ?_;exact Wa rfl (Oa rfl) (by simp[qh,Yk,ht]);refine qa ?_;exact Wa rfl (Oa rfl) (by simp[qh,Yk,ht])
theorem qrt(c:UInt8):ca (KC B0 w0) 135 [int .u8 c.toNat] [] (Hb (bool (CW c))):=by refine Xa Tryz.func135 rfl (n:=5) rfl rfl rfl ?_;refine ja ?_;exact Wa rfl (Oa rfl) rfl
theorem qrJ(c:UInt8):ca (KC B0 w0) 196 [int .u8 c.toNat] [] (Hb (bool (yi c))):=by refine Xa Tryz.func196 rfl (n:=13) rfl rfl rfl ?_;refine Pj ?_;refine oS (sF [_] rfl (IZ c) ?_);refine qa ?_;refine oB 5 rfl (λht=>?_) λht=>?_;refine qa ?_;exact Wa rfl (Oa rfl) (by simp[qh,yi,ht]);refine qa ?_;refine oS (sF [_] rfl (RP c) ?_);refine qa ?_;refine oB 9 rfl (λhd=>?_) λhd=>?_;refine qa ?_;exact Wa rfl (Oa rfl) (by simp[qh,yi,ht,hd]);refine qa ?_;exact Wa rfl (Oa rfl) (by simp[qh,yi,ht,hd])
theorem qr1(c:UInt8):ca (KC B0 w0) 136 [int .u8 c.toNat] [] (Hb (bool (zL c))):=by refine Xa Tryz.func136 rfl (n:=13) rfl rfl rfl ?_;refine oa ?_;refine oB 5 rfl (λht=>?_) λht=>?_;refine qa ?_;exact Wa rfl (Oa rfl) (by simp[qh,zL,ht]);refine qa ?_;refine oB 9 rfl (λhd=>?_) λhd=>?_;refine qa ?_;exact Wa rfl (Oa rfl) (by simp[qh,zL,ht,hd]);refine qa ?_;exact Wa rfl (Oa rfl) (by simp[qh,zL,ht,hd])
end Go.Proofs.YtmnjklgnhpnckaaGreatDoor
namespace Go.Proofs.YtmnjklgnhpnckaaGreatDoor
open Go.GL Go.RowKit Go.ea
mutual
def Ip:Ex->List LV
 |.mk _ _ _ a=>BO a
def BO:List Ex->List LV
 |[]=>[]
 |e::r=>.agg [str (Zh e),int .u32 (Mq e),str (Pq e),.list (Ip e)]::BO r
end
def eb(e:Ex):LV:=.agg [str (Zh e),int .u32 (Mq e),str (Pq e),.list (Ip e)]
theorem qof:∀ l:List Ex,BO l=l.map eb
 |[]=>by simp[BO]
 |e::r=>by rw[BO,qof r];try rfl
theorem qkd(o:List UInt8)(n:Nat)(nm:List UInt8)(a:List Ex):Ip (.mk o n nm a)=a.map eb:=by rw[Ip,qof]
theorem BA(o:List UInt8)(n:Nat)(nm:List UInt8)(a:List Ex):eb (.mk o n nm a)=.agg [str o,int .u32 n,str nm,.list (a.map eb)]:=by rw[eb,qkd];try rfl
mutual
def mX:Sm->List LV
 |.mk _ _ _ _ t _=>WK t
def xX:Sm->List LV
 |.mk _ _ _ _ _ e=>WK e
def WK:List Sm->List LV
 |[]=>[]
 |s::r=>.agg [int .i64 (A9 s),str (R8 s),.list ((qsU s).map eb),.list ((U' s).map eb),.list (mX s),.list (xX s)]::WK r
end
def Yb(s:Sm):LV:=.agg [int .i64 (A9 s),str (R8 s),.list ((qsU s).map eb),.list ((U' s).map eb),.list (mX s),.list (xX s)]
theorem OY:∀ l:List Sm,WK l=l.map Yb
 |[]=>by simp[WK]
 |e::r=>by rw[WK,OY r];try rfl
theorem rv(k:Int)(n:List UInt8)(i v:List Ex)(t e:List Sm):Yb (.mk k n i v t e)=.agg [int .i64 k,str n,.list (i.map eb),.list (v.map eb),.list (t.map Yb),.list (e.map Yb)]:=by rw[Yb,mX,xX,OY,OY];try rfl
def CI(a:Ar):LV:=.agg [str a.name,int .i64 a.size]
def cg(f:ob):LV:=.agg [str f.name,.list (f.params.map str),.list (f.locals.map str),.list (f.body.map Yb)]
def Tu(p:Pr):LV:=.agg [.list (p.vars.map str),.list (p.ba.map CI),.list (p.funcs.map cg)]
end Go.Proofs.YtmnjklgnhpnckaaGreatDoor
namespace Go.ea.Wi.Wc.Q
open Go.Lib
variable{K a b c n num v:Nat}{X Y:List Nm}{name op:Nm}{s s':IS}{vs:List Nat}{x:Ex}
abbrev eN(n:Nat):Ex:=.mk [110,117,109] n [] []
abbrev eV(n:Nm):Ex:=.mk [118,97,114] 0 n []
abbrev eE(n:Nm)(x:Ex):Ex:=.mk [101,108,101,109] 0 n [x]
abbrev eC(n:Nm)(xs:List Ex):Ex:=.mk [99,97,108,108] 0 n xs
abbrev eB(p:Nm)(x y:Ex):Ex:=.mk p 0 [] [x,y]
abbrev sA(n:Nm)(x:Ex):Sm:=.mk 1 n [] [x] [] []
abbrev sE(n:Nm)(y x:Ex):Sm:=.mk 2 n [y] [x] [] []
abbrev sI(x:Ex)(a b:List Sm):Sm:=.mk 3 [] [] [x] a b
abbrev sW(x:Ex)(a:List Sm):Sm:=.mk 4 [] [] [x] a []
abbrev sR(x:Ex):Sm:=.mk 5 [] [] [x] [] []
abbrev sX(x:Ex):Sm:=.mk 6 [] [] [x] [] []
abbrev ky(f x:Nm):Nm:=f++[46]++x
abbrev Eu{A:Type}(c:Bool)(x y:A):A:=match c with
 |true=>x
 |false=>y
theorem qL{A:Type}(c:Prop) [Decidable c](x y:A):Eu (decide c) x y=if c then x else y:=by by_cases h:c;rw[zp h,Vg h];rw[zn h,decide_eq_false h]
def Ta(a b:Nat):Nat:=(a+b) % 4294967296
def Nx(a b:Nat):Nat:=(a+4294967296-b) % 4294967296
def Ac(a b:Nat):Nat:=a * b % 4294967296
def Qb(a b:Nat):Nat:=a ^^^ b
def QK(a b:Nat):Nat:=nf (decide (a=b))
def wne(a b:Nat):Nat:=nf (decide (a≠b))
def YF(a b:Nat):Nat:=nf (decide (a<b))
def wgt(a b:Nat):Nat:=nf (decide (b<a))
def wle(a b:Nat):Nat:=nf (decide (a<=b))
def wge(a b:Nat):Nat:=nf (decide (b<=a))
def qW(a b:Nat):Nat:=nf (decide (a≠0/\b≠0))
def wor(a b:Nat):Nat:=nf (decide (a≠0∨b≠0))
def an(a b:Nat):Nat:=a / b
def RN(a b:Nat):Nat:=a % b
def pW(a:Nat):Nat:=(4294967296-a) % 4294967296
def oW(a:Nat):Nat:=nf (decide (a=0))
def bin(op:Nm)(a b:Nat):Nat:=
 Eu (decide (op=[43])) (Ta a b) (Eu (decide (op=[45])) (Nx a b) (Eu (decide (op=[42])) (Ac a b) (Eu (decide (op=[94])) (Qb a b) (Eu (decide (op=[61,61])) (QK a b) (Eu (decide (op=[33,61])) (wne a b) (Eu (decide (op=[60])) (YF a b) (Eu (decide (op=[62])) (wgt a b) (Eu (decide (op=[60,61])) (wle a b) (Eu (decide (op=[62,61])) (wge a b) (Eu (decide (op=[38,38])) (qW a b) (Eu (decide (op=[124,124])) (wor a b) (Eu (decide (op=[47])) (an a b) (RN a b)))))))))))))
def DF(op:Nm):Bool:=!(op∈[[43],[45],[42],[94],[61,61],[33,61],[60],[62],[60,61],[62,61],[38,38],[124,124]]:Bool)
theorem rp{c:Prop} [Decidable c]{x y:Nat}{o:Option Nat}(h:¬c->o=some y):(if c then some x else o)=some (if c then x else y):=by split;rfl;rename_i hc;exact h hc
theorem qwe(h:DF op=true->b≠0):Qi op a b=some (bin op a b):=by unfold Qi bin;simp only[qL];refine rp λh1=>rp λh2=>rp λh3=>rp λh4=>rp λh5=>rp λh6=>rp λh7=>rp λh8=>rp λh9=>rp λha=>rp λhb=>rp λhc=>?_;rw[zn (h (by simp[DF,h1,h2,h3,h4,h5,h6,h7,h8,h9,ha,hb,hc]))];exact rp λ_=>rfl
def Ux(c a b:Nat):Nat:=if c=0 then b else a
theorem jT(h:c≠0):Ux c a b=a:=zn h
theorem kO:Ux 0 a b=b:=rfl
def look{A:Type}(k:Nm):List (Nm×A)->Option A
 |[]=>none
 |p::l=>if p.1=k then some p.2 else look k l
def Sd{A:Type}(k:Nm)(x:A):List (Nm×A)->List (Nm×A)
 |[]=>[(k,x)]
 |p::l=>if p.1=k then (k,x)::l else p::Sd k x l
theorem wP{A:Type}(j k:Nm)(x:A):∀ l:List (Nm×A),look j (Sd k x l)=if k=j then some x else look j l
 |[]=>by show(if k=j then some x else none)=_;split <;> rfl
 |p::l=>by
  unfold Sd;by_cases h:p.1=k;rw[zp h];show(if k=j then some x else look j l)=(if k=j then some x else if p.1=j then some p.2 else look j l);split;rfl;rw[zn (by rw[h];assumption)];rw[zn h];show(if p.1=j then some p.2 else look j (Sd k x l))=if k=j then some x else if p.1=j then some p.2 else look j l
  rw[wP j k x l];by_cases h2:p.1=j;rw[zp h2,zp h2,zn (λe=>h (h2.trans e.symm))];rw[zn h2,zn h2]
abbrev Nc(g:Nat->Nat)(i x:Nat):Nat->Nat:=λj=>Eu (decide (j=i)) x (g j)
theorem qqg(n:Nat)(g:Nat->Nat)(i x:Nat):((List.range n).map g).set i x=(List.range n).map (Nc g i x):=by apply List.ext_getElem;simp only[List.length_set,ab];intro j h1 h2;simp only[List.getElem_set,List.getElem_map,List.getElem_range,Nc,qL];by_cases e:i=j;rw[zp e,zp e.symm];rw[zn e,zn (λh=>e h.symm)]
abbrev Fa:=Nat×(Nat->Nat)
structure Tt where
 v:List (Nm×Nat)
 a:List (Nm×Fa)
 i:List Nat
 o:List UInt8
def Fu(o:Option Fa)(l:List Nat):List Nat:=match o with
 |some p=>(List.range p.1).map p.2
 |none=>l
def put(s:IS)(t:Tt):IS:=⟨λk=>(look k t.v).getD (s.sc k),λk=>Fu (look k t.a) (s.ar k),t.i,t.o,s.left⟩
theorem yC(h1:∀ k,s.sc k=s'.sc k)(h2:∀ k,s.ar k=s'.ar k)(h3:s.xa=s'.xa)(h4:s.out=s'.out)(h5:s.left=s'.left):s=s':=by obtain⟨a,b,c,d,e⟩:=s;obtain⟨a',b',c',d',e'⟩:=s';simp only at h1 h2 h3 h4 h5;obtain rfl:=funext h1;obtain rfl:=funext h2;rw[h3,h4,h5]
theorem qyk(s:IS)(t:Tt)(k:Nm)(x:Nat):yf (put s t) k x=put s { t with v:=Sd k x t.v }:=by
 refine yC (λj=>?_) (λ_=>rfl) rfl rfl rfl;show(if j=k then x else (look j t.v).getD (s.sc j))=(look j (Sd k x t.v)).getD (s.sc j);rw[wP];by_cases h:j=k
 ·rw[zp h,zp h.symm];try rfl
 rw[zn h,zn (λe=>h e.symm)]
theorem qwz(s:IS)(t:Tt)(k:Nm)(n:Nat)(g:Nat->Nat)(i x:Nat)(h:look k t.a=some (n,g)):BW (put s t) k i x=put s { t with a:=Sd k (n,Nc g i x) t.a }:=by
 refine yC (λ_=>rfl) (λj=>?_) rfl rfl rfl;show(if j=k then (Fu (look k t.a) (s.ar k)).set i x else Fu (look j t.a) (s.ar j))=Fu (look j (Sd k (n,Nc g i x) t.a)) (s.ar j);rw[wP]
 by_cases hj:j=k;rw[zp hj,zp hj.symm,h];exact qqg n g i x;rw[zn hj,zn (λe=>hj e.symm)]
theorem F8{t:Tt}{k:Nm}{g:Nat->Nat}(h:look k t.a=some (n,g)):(put s t).ar k=(List.range n).map g:=by show Fu (look k t.a) (s.ar k)=_;rw[h];try rfl
def Fr(X:List Nm)(s s':IS):Prop:=(∀ k,k ∉ X->s'.sc k=s.sc k)/\s'.ar=s.ar
theorem Fr.refl(X:List Nm)(s:IS):Fr X s s:=⟨λ_ _=>rfl,rfl⟩
theorem Fr.trans{X:List Nm}{s s1 s2:IS}(h:Fr X s s1)(g:Fr X s1 s2):Fr X s s2:=⟨λk hk=>(g.1 k hk).trans (h.1 k hk),g.2.trans h.2⟩
theorem Fr.sub{X:List Nm}(h:Fr X s s')(hs:∀ k∈X,k∈Y):Fr Y s s':=⟨λk hk=>h.1 k λe=>hk (hs k e),h.2⟩
section
variable(P:Pr)(X:List Nm)
def Ox(f:ob)(name:Nm)(vs:List Nat)(t:Tt)(K v:Nat)(t':Tt):Prop:=∀ (num:Nat) (s:IS),∃ s',Op P f Of num name vs (put s t) K v (put s' t')/\Fr X s s'
def Ex'(f:ob)(x:Ex)(t:Tt)(K v:Nat)(t':Tt):Prop:=∀ s,∃ s',Ev P f x (put s t) K v (put s' t')/\Fr X s s'
def Sx(f:ob)(a:Sm)(t:Tt)(K:Nat)(r:Option Nat)(t':Tt):Prop:=∀ s,∃ s',St P f a (put s t) K r (put s' t')/\Fr X s s'
def Bx(f:ob)(b:List Sm)(t:Tt)(K:Nat)(r:Option Nat)(t':Tt):Prop:=∀ s,∃ s',Bl P f b (put s t) K r (put s' t')/\Fr X s s'
def Wx(f:ob)(x:Ex)(b:List Sm)(v:Nat)(t:Tt)(K:Nat)(r:Option Nat)(t':Tt):Prop:=∀ s,∃ s',Wh P f x b v (put s t) K r (put s' t')/\Fr X s s'
end
def oh(X:List Nm)(l:List (Nm×Nat)):Bool:=l.all λp=>!decide (p.1∈X)
theorem lU{X:List Nm}{k:Nm}(hk:k∈X):∀ {l:List (Nm×Nat)},oh X l=true->look k l=none
 |[],_=>rfl
 |p::l,h=>by unfold oh at h;rw[all_cons,Yc] at h;show(if p.1=k then some p.2 else look k l)=none;rw[zn,lU hk h.2];intro e;rw[e] at h;simp only[hk,decide_true,Bool.not_true,gk,false_and] at h
def over{A:Type}(l:List (Nm×A)):List (Nm×A)->List (Nm×A)
 |[]=>l
 |p::m=>Sd p.1 p.2 (over l m)
theorem JY{A:Type}(k:Nm)(l:List (Nm×A)):∀ m:List (Nm×A),look k (over l m)=(look k m).or (look k l)
 |[]=>rfl
 |p::m=>by show look k (Sd p.1 p.2 (over l m))=(if p.1=k then some p.2 else look k m).or (look k l);rw[wP,JY k l m];try split <;> rfl
def pick{A:Type}(l:List (Nm×A)):List Nm->List (Nm×Option A)
 |[]=>[]
 |k::ks=>(k,look k l)::pick l ks
theorem PY{A:Type}{l:List (Nm×A)}:∀ {m:List (Nm×A)},pick l (m.map (·.1))=m.map (λp=>(p.1,some p.2))->∀ k x,look k m=some x->look k l=some x
 |[],_,k,x,h=>by cases h
 |p::m,e,k,x,h=>by rw[jd,jd,pick,List.cons.injEq,Prod.mk.injEq] at e;by_cases hp:p.1=k;rw[look,zp hp] at h;rw[<-hp,e.1.2,h];rw[look,zn hp] at h;exact PY e.2 k x h
theorem Ox.frame{P:Pr}{f:ob}{t0 Vj t:Tt}(h:Ox P X f name vs t0 K v Vj)(hd:oh X t.v=true)(hv:∀ k x,look k t0.v=some x->look k t.v=some x)(ha:∀ k x,look k t0.a=some x->look k t.a=some x)(hi:t.i=t0.i)(ho:t.o=t0.o) :
  Ox P X f name vs t K v ⟨over t.v Vj.v,over t.a Vj.a,Vj.i,Vj.o⟩:=by
 intro num s;have e1:put (put s t) t0=put s t:=by
  refine yC (λk=>?_) (λk=>?_) hi.symm ho.symm rfl
  ·show(look k t0.v).getD ((look k t.v).getD (s.sc k))=(look k t.v).getD (s.sc k)
   cases hk:look k t0.v with
   |none=>rfl
   |some x=>rw[hv k x hk];try rfl
  show Fu (look k t0.a) (Fu (look k t.a) (s.ar k))=Fu (look k t.a) (s.ar k);cases hk:look k t0.a with
  |none=>rfl
  |some x=>rw[ha k x hk];try rfl
 obtain⟨s1,h1,h2⟩:=h num (put s t);rw[e1] at h1;refine⟨⟨λk=>if k∈X then s1.sc k else s.sc k,s.ar,s1.xa,s1.out,s1.left⟩,?_,λk hk=>zn hk,rfl⟩
 have e2:put s1 Vj=put ⟨λk=>if k∈X then s1.sc k else s.sc k,s.ar,s1.xa,s1.out,s1.left⟩ ⟨over t.v Vj.v,over t.a Vj.a,Vj.i,Vj.o⟩:=by
  refine yC (λk=>?_) (λk=>?_) rfl rfl rfl
  ·show(look k Vj.v).getD (s1.sc k)=(look k (over t.v Vj.v)).getD (if k∈X then s1.sc k else s.sc k);rw[JY]
   cases look k Vj.v with
   |some x=>rfl
   |none=>
    show s1.sc k=(look k t.v).getD _;by_cases hk:k∈X
    ·rw[zp hk,lU hk hd];try rfl
    rw[zn hk,h2.1 k hk];try rfl
  show Fu (look k Vj.a) (s1.ar k)=Fu (look k (over t.a Vj.a)) (s.ar k);rw[JY,h2.2];cases look k Vj.a with
  |some x=>rfl
  |none=>rfl
 rw[e2] at h1;exact h1
structure Ph where
 val:List Nat->Tt->Nat
 tr:List Nat->Tt->Tt
 cond:List Nat->Tt->List Prop
 pure:Bool
def Ph.nx(e:Ph)(vs:List Nat)(t:Tt):Tt:=if e.pure=true then t else e.tr vs t
abbrev VF:=List (Nm×Ph)
abbrev Ks:=List (Nm×Nat)
def Si:List Prop->Prop
 |[]=>True
 |p::l=>p/\Si l
theorem ov:∀ {l m:List Prop},Si (l++m)->Si l/\Si m
 |[],m,h=>⟨trivial,h⟩
 |p::l,m,h=>⟨⟨h.1,(ov h.2).1⟩,(ov h.2).2⟩
abbrev Pf:=List { p:Prop // p }
abbrev pb{p:Prop} [Decidable p](h:p):{ p:Prop // p }:=⟨decide p=true,Vg h⟩
abbrev pT:{ p:Prop // p }:=⟨true=true,rfl⟩
theorem FL:∀ l:Pf,Si (l.map Subtype.val)
 |[]=>trivial
 |p::l=>⟨p.2,FL l⟩
def ff(P:Pr)(X:List Nm)(κ:Ks)(Φ:VF):Prop:=∀ name e,look name Φ=some e->name≠[105,110]/\name≠[111,117,116]/\∀ f vs t,oh X t.v=true->Si (e.cond vs t)->Ox P X f name vs t ((look name κ).getD 0) (e.val vs t) (e.nx vs t)/\oh X (e.nx vs t).v=true
section
variable(Φ:VF)(f:ob)
def oV:Ex->Bool
 |.mk o _ _ l=>decide (o=We) && l.isEmpty
def ou:Ex->Nat
 |.mk _ k _ _=>k
def HI(op:Nm)(name:Nm)(args:List Ex)(t:Tt):Bool:=match args with
 |[x]=>decide (op=ij) && oV x && (match look name t.a with
  |some p=>decide (ou x<p.1)
  |none=>false)
 |[_,y]=>decide (op≠We/\op≠Bf/\op≠ij/\op≠tg/\op≠Uf/\op≠Of) && oV y && decide (ou y≠0)
 |_=>false
abbrev h0(l:List Nat):Nat:=match l with
 |[]=>0
 |x::_=>x
abbrev h1(l:List Nat):Nat:=match l with
 |_::y::_=>y
 |_=>0
theorem LR(l:List Nat):h0 l=l.headD 0:=by cases l <;> rfl
theorem KR(l:List Nat):h1 l=l.tail.headD 0:=by
 match l with
 |[]=>rfl
 |[_]=>rfl
 |_::_::_=>rfl
abbrev XR:=Nat×Tt×List Prop
def JD(op:Nm)(num:Nat)(name:Nm)(vs:List Nat)(t:Tt):XR:=
 if op=We then (num,t,[])
 else if op=Bf then (match look (Ub f name) t.v with
  |some x=>(x,t,[])
  |none=>(0,t,[False]))
 else if op=ij then (match look name t.a with
  |some p=>(p.2 (h0 vs),t,[decide (h0 vs<p.1)=true])
  |none=>(0,t,[False]))
 else if op=tg then (pW (h0 vs),t,[])
 else if op=Uf then (oW (h0 vs),t,[])
 else if op=Of then
  if name=[105,110] then (match vs with
   |[]=>(t.i.headD 4294967295,{ t with i:=t.i.tail },[])
   |_=>(0,t,[False]))
  else if name=[111,117,116] then (match vs with
   |[x]=>(0,{ t with o:=t.o++[UInt8.ofNat x] },[])
   |_=>(0,t,[False]))
  else (match look name Φ with
   |some e=>(e.val vs t,e.nx vs t,e.cond vs t)
   |none=>(0,t,[False]))
 else (bin op (h0 vs) (h1 vs),t,if DF op=true then [decide (h1 vs≠0)=true] else [])
mutual
def xE:Ex->Tt->XR
 |.mk op num name args,t=>
  let r:=Sl args t
  let q:=JD Φ f op num name r.1 r.2.1
  (q.1,q.2.1,r.2.2++if HI op name args r.2.1=true then [] else q.2.2)
def Sl:List Ex->Tt->List Nat×Tt×List Prop
 |[],t=>([],t,[])
 |x::l,t=>
  let r:=xE x t
  let q:=Sl l r.2.1
  (r.1::q.1,q.2.1,r.2.2++q.2.2)
end
def rep{A:Type}(k:Nm)(x:A):List (Nm×A)->List (Nm×A)
 |[]=>[]
 |p::l=>if p.1=k then (k,x)::l else p::rep k x l
def sk{A:Type}(se:A->A->A)(ks:List Nm):List (Nm×A)->List (Nm×A)->List (Nm×A)
 |p::l,q::m=>(if p.1∈ks then (p.1,se p.2 q.2) else p)::sk se ks l m
 |l,_=>l
def wo(c:Nat)(p q:Fa):Fa:=(p.1,λj=>Ux c (p.2 j) (q.2 j))
mutual
def Gv:Sm->List Nm×List Nm
 |.mk kind name ix val th el=>if kind=1 then ([Ub f name],[]) else if kind=2 then ([],[name]) else if kind=3 then ((Xe th).1++(Xe el).1,(Xe th).2++(Xe el).2) else ([],[])
def Xe:List Sm->List Nm×List Nm
 |[]=>([],[])
 |a::l=>((Gv a).1++(Xe l).1,(Gv a).2++(Xe l).2)
end
mutual
def wJ:Ex->Bool
 |.mk op num name args=>bG args && (decide (op≠Of) || (decide (name≠[105,110]) && decide (name≠[111,117,116]) && match look name Φ with
  |some e=>e.pure
  |none=>false))
def bG:List Ex->Bool
 |[]=>true
 |x::l=>wJ x && bG l
end
mutual
def xJ:Sm->Bool
 |.mk kind name ix val th el=>bG Φ ix && bG Φ val && (dm th && dm el)
def dm:List Sm->Bool
 |[]=>true
 |a::l=>xJ a && dm l
end
mutual
def xS:Sm->Tt->Tt×List Prop
 |.mk kind name ix val th el,t=>match val with
  |[]=>(t,[False])
  |x::_=>
   let r:=xE Φ f x t
   if kind=1 then ({ r.2.1 with v:=rep (Ub f name) r.1 r.2.1.v },r.2.2++match look (Ub f name) r.2.1.v with
    |some _=>[]
    |none=>[False])
   else if kind=2 then (match ix with
    |[]=>(t,[False])
    |y::_=>
     let q:=xE Φ f y r.2.1
     match look name q.2.1.a with
     |some p=>({ q.2.1 with a:=rep name (p.1,Nc p.2 q.1 r.1) q.2.1.a },r.2.2++q.2.2++if HI ij name [y] q.2.1=true then [] else [decide (q.1<p.1)=true])
     |none=>(t,[False]))
   else if kind=6 then (r.2.1,r.2.2)
   else if kind=3 then
    let p:=xB th r.2.1
    let q:=xB el r.2.1
    (⟨sk (Ux r.1) ((Xe f th).1++(Xe f el).1) p.1.v q.1.v,sk (wo r.1) ((Xe f th).2++(Xe f el).2) p.1.a q.1.a,r.2.1.i,r.2.1.o⟩,r.2.2++(p.2.map λw=>r.1≠0->w)++(q.2.map λw=>r.1=0->w)++if dm Φ th && dm Φ el then [] else [False])
   else (t,[False])
def xB:List Sm->Tt->Tt×List Prop
 |[],t=>(t,[])
 |a::l,t=>
  let r:=xS a t
  let q:=xB l r.1
  (q.1,r.2++q.2)
end
def xW(x:Ex)(th:List Sm):Nat->Tt->Tt×List Prop
 |0,t=>
  let r:=xE Φ f x t
  (r.2.1,r.2.2++if r.1=0 then [] else [False])
 |n+1,t=>
  let r:=xE Φ f x t
  let q:=xB Φ f th r.2.1
  let z:=xW x th n q.1
  (z.1,r.2.2++(if r.1=0 then [False] else [])++q.2++z.2)
end
mutual
def cX(κ:Ks):Ex->Nat
 |.mk op num name args=>wE op num name args.length+bS κ args+(if op=Of then (look name κ).getD 0 else 0)
def bS(κ:Ks):List Ex->Nat
 |[]=>0
 |x::l=>cX κ x+bS κ l
end
mutual
def cS(κ:Ks):Sm->Nat
 |.mk kind name ix val th el=>wS kind el+cX κ (val.headD default)+if kind=2 then cX κ (ix.headD default) else if kind=3 then max (cB κ th) (cB κ el) else 0
def cB(κ:Ks):List Sm->Nat
 |[]=>0
 |a::l=>cS κ a+cB κ l
end
theorem oY{c:Prop}(hc:c):∀ {l:List Prop},Si (l.map λw=>c->w)->Si l
 |[],_=>trivial
 |p::l,h=>⟨h.1 hc,oY hc h.2⟩
theorem nY{A:Type}(j k:Nm)(x:A):∀ l:List (Nm×A),look k l≠none->look j (rep k x l)=if k=j then some x else look j l
 |[],h=>absurd rfl h
 |p::l,h=>by
  unfold rep;by_cases hp:p.1=k;rw[zp hp];show(if k=j then some x else look j l)=(if k=j then some x else if p.1=j then some p.2 else look j l);split;rfl;rw[zn (by rw[hp];assumption)];rw[look,zn hp] at h;rw[zn hp];show(if p.1=j then some p.2 else look j (rep k x l))=if k=j then some x else if p.1=j then some p.2 else look j l
  rw[nY j k x l h];by_cases h2:p.1=j;rw[zp h2,zp h2,zn (λe=>hp (h2.trans e.symm))];rw[zn h2,zn h2]
theorem Y'{X:List Nm}(k:Nm)(x:Nat):∀ {l:List (Nm×Nat)},oh X l=true->oh X (rep k x l)=true
 |[],_=>rfl
 |p::l,h=>by unfold oh at h;rw[all_cons,Yc] at h;unfold rep oh;split;rename_i hp;rw[all_cons,Yc];exact⟨by rw[<-hp];exact h.1,h.2⟩;rw[all_cons,Yc];exact⟨h.1,Y' k x h.2⟩
def xh{A:Type}(R:A->A->Prop)(ks:List Nm):List (Nm×A)->List (Nm×A)->Prop
 |[],[]=>True
 |p::l,q::m=>p.1=q.1/\R p.2 q.2/\(p.1 ∉ ks->p.2=q.2)/\xh R ks l m
 |_,_=>False
section
variable{A:Type}{R:A->A->Prop}{ks oH:List Nm}
theorem xh.refl(hR:∀ a,R a a):∀ l:List (Nm×A),xh R ks l l
 |[]=>trivial
 |p::l=>⟨rfl,hR _,λ_=>rfl,xh.refl hR l⟩
theorem xh.trans(hR:∀ a b c,R a b->R b c->R a c):∀ {l m n:List (Nm×A)},xh R ks l m->xh R ks m n->xh R ks l n
 |[],[],[],_,_=>trivial
 |p::l,q::m,r::n,h,g=>⟨h.1.trans g.1,hR _ _ _ h.2.1 g.2.1,λhk=>(h.2.2.1 hk).trans (g.2.2.1 (h.1▸hk)),xh.trans hR h.2.2.2 g.2.2.2⟩
 |[],_::_,_,h,_=>h.elim
 |_::_,[],_,h,_=>h.elim
 |[],[],_::_,_,g=>g.elim
 |_::_,_::_,[],_,g=>g.elim
theorem xh.symm(hR:∀ a b,R a b->R b a):∀ {l m:List (Nm×A)},xh R ks l m->xh R ks m l
 |[],[],_=>trivial
 |p::l,q::m,h=>⟨h.1.symm,hR _ _ h.2.1,λhk=>(h.2.2.1 (h.1▸hk)).symm,xh.symm hR h.2.2.2⟩
 |[],_::_,h=>h.elim
 |_::_,[],h=>h.elim
theorem xh.sub(hs:∀ k∈ks,k∈oH):∀ {l m:List (Nm×A)},xh R ks l m->xh R oH l m
 |[],[],_=>trivial
 |p::l,q::m,h=>⟨h.1,h.2.1,λhk=>h.2.2.1 λe=>hk (hs _ e),xh.sub hs h.2.2.2⟩
 |[],_::_,h=>h.elim
 |_::_,[],h=>h.elim
theorem xh.rep(hR:∀ a,R a a){k:Nm}(hk:k∈ks)(x:A):∀ {l:List (Nm×A)},(∀ y,look k l=some y->R y x)->xh R ks l (Q.rep k x l)
 |[],_=>trivial
 |p::l,h=>by unfold Q.rep;by_cases hp:p.1=k;rw[zp hp];exact⟨hp,h _ (by rw[look,zp hp]),λe=>absurd (hp▸hk) e,xh.refl hR l⟩;rw[zn hp];exact⟨rfl,hR _,λ_=>rfl,xh.rep hR hk x λy hy=>h y (by rw[look,zn hp];exact hy)⟩
theorem uO{se:A->A->A}(hs:∀ a b,R a b->se a b=a):∀ {l m:List (Nm×A)},xh R ks l m->sk se ks l m=l
 |[],[],_=>rfl
 |p::l,q::m,h=>by rw[sk,uO hs h.2.2.2,hs _ _ h.2.1];try split <;> rfl
 |[],_::_,h=>h.elim
 |_::_,[],h=>h.elim
theorem qO{se:A->A->A}(hs:∀ a b,R a b->se a b=b):∀ {l m:List (Nm×A)},xh R ks l m->sk se ks l m=m
 |[],[],_=>rfl
 |p::l,q::m,h=>by rw[sk,qO hs h.2.2.2,hs _ _ h.2.1];split;rw[h.1];rename_i hk;rw[show p=q from Prod.ext h.1 (h.2.2.1 hk)]
 |[],_::_,h=>h.elim
 |_::_,[],h=>h.elim
end
def RV(_ _:Nat):Prop:=True
def RA(p q:Fa):Prop:=p.1=q.1
theorem RA.refl(p:Fa):RA p p:=rfl
theorem RA.symm(p q:Fa)(h:RA p q):RA q p:=Eq.symm h
theorem RA.trans(p q r:Fa)(h:RA p q)(g:RA q r):RA p r:=Eq.trans h g
theorem RV.refl(p:Nat):RV p p:=trivial
theorem RV.symm(p q:Nat)(h:RV p q):RV q p:=trivial
theorem RV.trans(p q r:Nat)(h:RV p q)(g:RV q r):RV p r:=trivial
theorem qsQ(h:c≠0)(p q:Fa):wo c p q=p:=Prod.ext rfl (funext λj=>jT h)
theorem B9(h:c=0){p q:Fa}(hr:RA p q):wo c p q=q:=by subst h;exact Prod.ext hr rfl
def ku(ks js:List Nm)(t t':Tt):Prop:=xh RV ks t.v t'.v/\xh RA js t.a t'.a/\t'.i=t.i/\t'.o=t.o
theorem ku.refl(ks js:List Nm)(t:Tt):ku ks js t t:=⟨xh.refl RV.refl _,xh.refl RA.refl _,rfl,rfl⟩
theorem ku.trans{ks js:List Nm}{t t1 t2:Tt}(h:ku ks js t t1)(g:ku ks js t1 t2):ku ks js t t2:=⟨xh.trans RV.trans h.1 g.1,xh.trans RA.trans h.2.1 g.2.1,g.2.2.1.trans h.2.2.1,g.2.2.2.trans h.2.2.2⟩
theorem ku.sub{ks js oH js':List Nm}{t t1:Tt}(h:ku ks js t t1)(h1:∀ k∈ks,k∈oH)(h2:∀ k∈js,k∈js'):ku oH js' t t1:=⟨h.1.sub h1,h.2.1.sub h2,h.2.2⟩
section
variable{Φ:VF}{f:ob}
theorem XP{t:Tt}(h:(decide (op≠Of) || (decide (name≠[105,110]) && decide (name≠[111,117,116]) && match look name Φ with
  |some e=>e.pure
  |none=>false))=true):(JD Φ f op num name vs t).2.1=t:=by
 unfold JD;split;rfl;split;split <;> rfl;split;split <;> rfl;split;rfl;split;rfl;split
 rename_i ho;rw[ho] at h;simp only[ne_eq,not_true_eq_false,decide_false,Bool.false_or,Yc,Mf] at h;rw[zn h.1.1,zn h.1.2];have h2:=h.2;split;rename_i e he;rw[he] at h2;show e.nx vs t=t;unfold Ph.nx;exact zp h2;rfl;rfl
mutual
theorem yJ:∀ (x:Ex) (t:Tt),wJ Φ x=true->(xE Φ f x t).2.1=t
 |.mk op num name args,t,h=>by rw[wJ,Yc] at h;rw[xE];have:=r8 args t h.1;simp only[this];exact XP h.2
theorem r8:∀ (l:List Ex) (t:Tt),bG Φ l=true->(Sl Φ f l t).2.1=t
 |[],t,_=>by rw[Sl]
 |x::l,t,h=>by rw[bG,Yc] at h;rw[Sl];have h1:=yJ x t h.1;have h2:=r8 l t h.2;simp only[h1,h2]
end
mutual
theorem agS:∀ (a:Sm) (t:Tt),xJ Φ a=true->ku (Gv f a).1 (Gv f a).2 t (xS Φ f a t).1
 |.mk kind name ix val th el,t,h=>by
  rw[xJ,Yc,Yc,Yc] at h;rw[xS.eq_def];simp only;cases val with
  |nil=>exact ku.refl _ _ _
  |cons x vr=>
   have hx:=h.1.2;rw[bG,Yc] at hx;have e1:=yJ (f:=f) x t hx.1;simp only[e1];by_cases k1:kind=1;subst k1;rw[Gv,zp rfl,zp rfl];exact⟨xh.rep RV.refl (List.mem_singleton.mpr rfl) _ λ_ _=>trivial,xh.refl RA.refl _,rfl,rfl⟩
   by_cases k2:kind=2;subst k2;rw[Gv,zn da,zp rfl,zn da,zp rfl];cases ix with
   |nil=>exact ku.refl _ _ _
   |cons y yr=>
    have hy:=h.1.1;rw[bG,Yc] at hy;have e2:=yJ (f:=f) y t hy.1;simp only[e2];cases hp:look name t.a with
    |none=>exact ku.refl _ _ _
    |some p=>exact⟨xh.refl RV.refl _,xh.rep RA.refl (List.mem_singleton.mpr rfl) _ λz hz=>by rw[hp] at hz;cases hz;rfl,rfl,rfl⟩
   rw[zn k1,zn k2];by_cases k6:kind=6;rw[zp k6];exact ku.refl _ _ _;rw[zn k6];by_cases k3:kind=3
   ·subst k3;rw[Gv,zn da,zn da,zp rfl,zp rfl];have a1:=(iS th t h.2.1).sub (λk hk=>mem_append_left (Xe f el).1 hk) λk hk=>mem_append_left (Xe f el).2 hk;have a2:=(iS el t h.2.2).sub (λk hk=>mem_append_right (Xe f th).1 hk) λk hk=>mem_append_right (Xe f th).2 hk;have b1:=xh.trans RV.trans (xh.symm RV.symm a1.1) a2.1;have b2:=xh.trans RA.trans (xh.symm RA.symm a1.2.1) a2.2.1
    by_cases hc:(xE Φ f x t).1=0
    ·refine⟨?_,?_,rfl,rfl⟩
     ·show xh RV _ t.v (sk (Ux (xE Φ f x t).1) _ _ _);rw[qO (se:=Ux _) (λa b _=>by rw[hc];try rfl) b1];exact a2.1
     show xh RA _ t.a (sk (wo (xE Φ f x t).1) _ _ _);rw[qO (se:=wo _) (λa b hr=>B9 hc hr) b2];exact a2.2.1
    refine⟨?_,?_,rfl,rfl⟩;show xh RV _ t.v (sk (Ux (xE Φ f x t).1) _ _ _);rw[uO (se:=Ux _) (λa b _=>jT hc) b1];exact a1.1;show xh RA _ t.a (sk (wo (xE Φ f x t).1) _ _ _);rw[uO (se:=wo _) (λa b _=>qsQ hc a b) b2];exact a1.2.1
   rw[zn k3];exact ku.refl _ _ _
theorem iS:∀ (b:List Sm) (t:Tt),dm Φ b=true->ku (Xe f b).1 (Xe f b).2 t (xB Φ f b t).1
 |[],t,_=>by rw[xB];exact ku.refl _ _ _
 |a::l,t,h=>by rw[dm,Yc] at h;rw[xB,Xe];exact((agS a t h.1).sub (λk hk=>mem_append_left _ hk) λk hk=>mem_append_left _ hk).trans ((iS l _ h.2).sub (λk hk=>mem_append_right _ hk) λk hk=>mem_append_right _ hk)
end
end
theorem _root_.Go.ea.Wi.Wc.Op.mono{P:Pr}{f:ob}{K1:Nat}(h:Op P f op num name vs s K v s')(hk:K<=K1):Op P f op num name vs s K1 v s':=by obtain⟨k,h1,h2⟩:=h;exact⟨k,by omega,h2⟩
section
variable{P:Pr}{X:List Nm}{κ:Ks}{Φ:VF}{f:ob}
theorem qAp(hΦ:ff P X κ Φ){t:Tt}(hd:oh X t.v=true):∀ q,JD Φ f op num name vs t=q->Si q.2.2 ->
  (∀ s,∃ s',Op P f op num name vs (put s t) (if op=Of then (look name κ).getD 0 else 0) q.1 (put s' q.2.1)/\Fr X s s')/\oh X q.2.1.v=true:=by
 intro q hq h;unfold JD at hq;simp only[LR,KR] at hq;by_cases h1:op=We;rw[zp h1] at hq;subst hq h1;exact⟨λs=>⟨s,(Op.pure rfl).mono (zero_le _),Fr.refl _ _⟩,hd⟩;rw[zn h1] at hq
 by_cases h2:op=Bf
 ·rw[zp h2] at hq;subst h2
  cases hl:look (Ub f name) t.v with
  |none=>rw[hl] at hq;subst hq;exact h.1.elim
  |some x=>rw[hl] at hq;subst hq;refine⟨λs=>⟨s,?_,Fr.refl _ _⟩,hd⟩;have hp:Op P f Bf num name vs (put s t) 0 ((put s t).sc (Ub f name)) (put s t):=Op.pure rfl;rw[show(put s t).sc (Ub f name)=x by show(look (Ub f name) t.v).getD _=x;rw[hl];try rfl] at hp;exact hp.mono (zero_le _)
 rw[zn h2] at hq;by_cases h3:op=ij
 ·rw[zp h3] at hq;subst h3
  cases hl:look name t.a with
  |none=>rw[hl] at hq;subst hq;exact h.1.elim
  |some p=>
   rw[hl] at hq;subst hq;refine⟨λs=>⟨s,?_,Fr.refl _ _⟩,hd⟩;have za:vs.headD 0<p.1:=Hg h.1;have ha:=F8 (s:=s) hl
   have hp:Op P f ij num name vs (put s t) 0 (((put s t).ar name).getD (vs.headD 0) 0) (put s t):=Op.pure (by
    show decide (vs.headD 0<((put s t).ar name).length)=true;rw[ha,ab,List.length_range];exact Vg za)
   rw[show((put s t).ar name).getD (vs.headD 0) 0=p.2 (vs.headD 0) by
    rw[ha,List.getD_eq_getElem?_getD,List.getElem?_map,List.getElem?_range za];try rfl] at hp
   exact hp.mono (zero_le _)
 rw[zn h3] at hq;by_cases h4:op=tg;rw[zp h4] at hq;subst hq h4;exact⟨λs=>⟨s,(Op.pure rfl).mono (zero_le _),Fr.refl _ _⟩,hd⟩;rw[zn h4] at hq
 by_cases h5:op=Uf;rw[zp h5] at hq;subst hq h5;exact⟨λs=>⟨s,(Op.pure rfl).mono (zero_le _),Fr.refl _ _⟩,hd⟩;rw[zn h5] at hq
 by_cases h6:op=Of;rw[zp h6] at hq;subst h6;by_cases n1:name=[105,110];rw[zp n1] at hq;subst n1;cases vs with
 |nil=>subst hq;exact⟨λs=>⟨s,Op.xa.mono (zero_le _),Fr.refl _ _⟩,hd⟩
 |cons a l=>subst hq;exact h.1.elim
 rw[zn n1] at hq;by_cases n2:name=[111,117,116];rw[zp n2] at hq;subst n2;cases vs with
 |nil=>subst hq;exact h.1.elim
 |cons a l=>
  cases l with
  |nil=>subst hq;exact⟨λs=>⟨s,Op.out.mono (zero_le _),Fr.refl _ _⟩,hd⟩
  |cons b l=>subst hq;exact h.1.elim
 rw[zn n2] at hq;cases hl:look name Φ with
 |none=>rw[hl] at hq;subst hq;exact h.1.elim
 |some e=>rw[hl] at hq;subst hq;obtain⟨_,_,g⟩:=hΦ name e hl;obtain⟨g1,g2⟩:=g f vs t hd h;refine⟨λs=>?_,g2⟩;rw[zp rfl];exact g1 num s
 rw[zn h6] at hq;subst hq;refine⟨λs=>⟨s,?_,Fr.refl _ _⟩,hd⟩
 have hb:Qi op (vs.headD 0) (vs.tail.headD 0)=some (bin op (vs.headD 0) (vs.tail.headD 0)):=qwe λhdv=>by simp only at h;rw[zp hdv] at h;exact Hg h.1
 have hp:Op P f op num name vs (put s t) 0 (XN f (put s t) op num name vs) (put s t):=Op.pure (by
  unfold FE;rw[zn h1,zn h2,zn h3,zn h4,zn h5,zn h6,hb];rfl)
 unfold XN at hp;rw[zn h1,zn h2,zn h3,zn h4,zn h5,hb] at hp;exact hp.mono (zero_le _)
theorem XW(k:Nat)(n:Nm)(t:Tt):(xE Φ f (.mk We k n []) t).1=k/\(xE Φ f (.mk We k n []) t).2.1=t:=by rw[xE,Sl];exact⟨rfl,rfl⟩
theorem KX(h:oV x=true):∃ n,x=.mk We (ou x) n []:=by obtain⟨o,k,n,l⟩:=x;have h':(decide (o=We) && l.isEmpty)=true:=h;rw[Yc,List.isEmpty_iff] at h';exact⟨n,by rw[Hg h'.1,h'.2];try rfl⟩
theorem qvV{args:List Ex}{t:Tt}(h:HI op name args (Sl Φ f args t).2.1=true):Si (JD Φ f op num name (Sl Φ f args t).1 (Sl Φ f args t).2.1).2.2:=by
 unfold HI at h;split at h
 ·rename_i x
  rw[Yc,Yc] at h;have ho:=Hg h.1.1;obtain⟨n,hx⟩:=KX h.1.2;have h3:=h.2;subst ho;have e1:(Sl Φ f [x] t).1=[ou x]:=by rw[Sl];simp only;rw[Sl,hx,(XW _ n t).1];try rfl
  revert h3;generalize (Sl Φ f [x] t).2.1=t1;intro h3;rw[e1]
  cases hl:look name t1.a with
  |none=>rw[hl] at h3;cases h3
  |some p=>
   rw[hl] at h3;have:JD Φ f ij num name [ou x] t1=(match look name t1.a with
    |some p=>(p.2 (ou x),t1,[decide (ou x<p.1)=true])
    |none=>(0,t1,[False])):=rfl
   rw[this,hl];exact⟨h3,trivial⟩
 ·rename_i x y
  rw[Yc,Yc] at h;have ho:=Hg h.1.1;obtain⟨n,hy⟩:=KX h.1.2;have h3:=h.2;have e1:(Sl Φ f [x,y] t).1=[(xE Φ f x t).1,ou y]:=by rw[Sl];simp only;rw[Sl];simp only;rw[Sl,hy,(XW _ n _).1];try rfl
  generalize (Sl Φ f [x,y] t).2.1=t1;rw[e1];unfold JD;rw[zn ho.1,zn ho.2.1,zn ho.2.2.1,zn ho.2.2.2.1,zn ho.2.2.2.2.1,zn ho.2.2.2.2.2];show Si (if DF op=true then [decide (ou y≠0)=true] else []);split;exact⟨h3,trivial⟩;trivial
 cases h
mutual
theorem bL(hΦ:ff P X κ Φ):∀ (x:Ex) (t:Tt),oh X t.v=true->Si (xE Φ f x t).2.2->(∀ s,∃ s',Ev P f x (put s t) (cX κ x) (xE Φ f x t).1 (put s' (xE Φ f x t).2.1)/\Fr X s s')/\oh X (xE Φ f x t).2.1.v=true
 |.mk op num name args,t,hd,h=>by
  rw[xE] at h ⊢;simp only at h ⊢;obtain⟨ha,hb⟩:=ov h;obtain⟨h1,h2⟩:=J8 hΦ args t hd ha;have hc:Si (JD Φ f op num name (Sl Φ f args t).1 (Sl Φ f args t).2.1).2.2:=by by_cases hl:HI op name args (Sl Φ f args t).2.1=true;exact qvV hl;rw[zn hl] at hb;exact hb
  obtain⟨g1,g2⟩:=qAp (f:=f) hΦ h2 _ rfl hc;refine⟨λs=>?_,g2⟩;obtain⟨s1,a1,a2⟩:=h1 s;obtain⟨s2,b1,b2⟩:=g1 s1;refine⟨s2,?_,a2.trans b2⟩;rw[cX];exact Ev.mk a1 b1
theorem J8(hΦ:ff P X κ Φ):∀ (l:List Ex) (t:Tt),oh X t.v=true->Si (Sl Φ f l t).2.2->(∀ s,∃ s',Yo P f l (put s t) (bS κ l) (Sl Φ f l t).1 (put s' (Sl Φ f l t).2.1)/\Fr X s s')/\oh X (Sl Φ f l t).2.1.v=true
 |[],t,hd,_=>by rw[Sl,bS];exact⟨λs=>⟨s,Yo.nil,Fr.refl _ _⟩,hd⟩
 |x::l,t,hd,h=>by rw[Sl] at h ⊢;simp only at h ⊢;obtain⟨ha,hb⟩:=ov h;obtain⟨h1,h2⟩:=bL hΦ x t hd ha;obtain⟨g1,g2⟩:=J8 hΦ l _ h2 hb;refine⟨λs=>?_,g2⟩;obtain⟨s1,a1,a2⟩:=h1 s;obtain⟨s2,b1,b2⟩:=g1 s1;refine⟨s2,?_,a2.trans b2⟩;rw[bS];exact Yo.cons a1 b1
end
mutual
theorem PN(hΦ:ff P X κ Φ):∀ (a:Sm) (t:Tt),oh X t.v=true->Si (xS Φ f a t).2->Sx P X f a t (cS κ a) none (xS Φ f a t).1/\oh X (xS Φ f a t).1.v=true
 |.mk kind name ix val th el,t,hd,h=>by
  rw[xS.eq_def] at h ⊢;simp only at h ⊢;rw[cS];cases val with
  |nil=>exact h.1.elim
  |cons x vr=>
   simp only at h ⊢;have hx:=bL (f:=f) hΦ x t hd;generalize xE Φ f x t=r at h hx ⊢;rw[show(x::vr).headD default=x from rfl];by_cases k1:kind=1
   ·subst k1;rw[zp rfl] at h ⊢;obtain⟨ha,hb⟩:=ov h;obtain⟨h1,h2⟩:=hx ha;refine⟨λs=>?_,Y' _ _ h2⟩;obtain⟨s1,a1,a2⟩:=h1 s;refine⟨s1,?_,a2⟩
    have ub:look (Ub f name) r.2.1.v≠none:=by intro e;rw[e] at hb;exact hb.1
    have q:=St.Cx (P:=P) (f:=f) (name:=name) (ix:=ix) (vr:=vr) (th:=th) (el:=el) a1;have e:yf (put s1 r.2.1) (Ub f name) r.1=put s1 { r.2.1 with v:=rep (Ub f name) r.1 r.2.1.v }:=by
     refine yC (λj=>?_) (λ_=>rfl) rfl rfl rfl;show(if j=Ub f name then r.1 else (look j r.2.1.v).getD (s1.sc j))=(look j (rep (Ub f name) r.1 r.2.1.v)).getD (s1.sc j);rw[nY _ _ _ _ ub];by_cases hj:j=Ub f name
     ·rw[zp hj,zp hj.symm];try rfl
     rw[zn hj,zn (λe=>hj e.symm)]
    rw[e] at q;exact q.mono (by show 8+cX κ x<=8+cX κ x+_;omega)
   rw[zn k1] at h ⊢;by_cases k2:kind=2;subst k2;rw[zp rfl] at h ⊢;rw[zp rfl];cases ix with
   |nil=>exact h.1.elim
   |cons y yr=>
    simp only at h ⊢;have hy:=bL (f:=f) hΦ y r.2.1;have VQ:HI ij name [y] (xE Φ f y r.2.1).2.1=true->∀ p,look name (xE Φ f y r.2.1).2.1.a=some p->(xE Φ f y r.2.1).1<p.1:=by
     intro e p hp;have e':(decide (ij=ij) && oV y && (match look name (xE Φ f y r.2.1).2.1.a with
      |some p=>decide (ou y<p.1)
      |none=>false))=true:=e
     rw[Yc,Yc,hp] at e';obtain⟨n,hn⟩:=KX e'.1.2;rw[hn,(XW _ n _).1];exact Hg e'.2
    generalize xE Φ f y r.2.1=q at h hy VQ ⊢;cases hl:look name q.2.1.a with
    |none=>rw[hl] at h;exact h.1.elim
    |some p=>
     rw[hl] at h;simp only at h ⊢;obtain⟨uF,hc⟩:=ov h;obtain⟨ha,hb⟩:=ov uF;obtain⟨h1,h2⟩:=hx ha;obtain⟨g1,g2⟩:=hy h2 hb;refine⟨λs=>?_,g2⟩;obtain⟨s1,a1,a2⟩:=h1 s;obtain⟨s2,b1,b2⟩:=g1 s1;refine⟨s2,?_,a2.trans b2⟩
     have za:q.1<p.1:=by by_cases za:HI ij name [y] q.2.1=true;exact VQ za p hl;rw[zn za] at hc;exact Hg hc.1
     have z:=St.elem (P:=P) (f:=f) (name:=name) (yr:=yr) (xr:=vr) (th:=th) (el:=el) a1 b1 (by rw[F8 hl,ab,List.length_range];exact za);have e:BW (put s2 q.2.1) name q.1 r.1=put s2 { q.2.1 with a:=rep name (p.1,Nc p.2 q.1 r.1) q.2.1.a }:=by rw[qwz s2 q.2.1 name p.1 p.2 q.1 r.1 hl];refine yC (λ_=>rfl) (λj=>?_) rfl rfl rfl;show Fu (look j (Sd name _ q.2.1.a)) _=Fu (look j (rep name _ q.2.1.a)) _;rw[wP,nY _ _ _ _ (by rw[hl];exact λe=>by cases e)]
     rw[e] at z;exact z.mono (by show 9+cX κ x+cX κ y<=9+cX κ x+cX κ y;omega)
   rw[zn k2] at h ⊢;rw[zn k2];by_cases k6:kind=6;subst k6;rw[zp rfl] at h ⊢;obtain⟨h1,h2⟩:=hx h;refine⟨λs=>?_,h2⟩;obtain⟨s1,a1,a2⟩:=h1 s;exact⟨s1,(St.exp a1).mono (by show 8+cX κ x<=8+cX κ x+_;omega),a2⟩;rw[zn k6] at h ⊢
   by_cases k3:kind=3
   ·subst k3;rw[zp rfl] at h ⊢;rw[zp rfl];obtain⟨tK,hp⟩:=ov h;obtain⟨uF,hc⟩:=ov tK;obtain⟨ha,hb⟩:=ov uF;obtain⟨h1,h2⟩:=hx ha
    have IQ:dm Φ th=true/\dm Φ el=true:=by by_cases e:(dm Φ th && dm Φ el)=true;exact(Yc _ _▸e:dm Φ th=true/\dm Φ el=true);rw[zn e] at hp;exact hp.1.elim
    have a1:=(iS (f:=f) th r.2.1 IQ.1).sub (λk hk=>mem_append_left (Xe f el).1 hk) λk hk=>mem_append_left (Xe f el).2 hk;have a2:=(iS (f:=f) el r.2.1 IQ.2).sub (λk hk=>mem_append_right (Xe f th).1 hk) λk hk=>mem_append_right (Xe f th).2 hk;have b1:=xh.trans RV.trans (xh.symm RV.symm a1.1) a2.1;have b2:=xh.trans RA.trans (xh.symm RA.symm a1.2.1) a2.2.1
    by_cases hz:r.1=0
    ·obtain⟨g1,g2⟩:=BI hΦ el r.2.1 h2 (oY hz hc)
     have e:(⟨sk (Ux r.1) ((Xe f th).1++(Xe f el).1) (xB Φ f th r.2.1).1.v (xB Φ f el r.2.1).1.v,sk (wo r.1) ((Xe f th).2++(Xe f el).2) (xB Φ f th r.2.1).1.a (xB Φ f el r.2.1).1.a,r.2.1.i,r.2.1.o⟩:Tt)=(xB Φ f el r.2.1).1:=by rw[qO (se:=Ux _) (λa b _=>by rw[hz];try rfl) b1,qO (se:=wo _) (λa b hr=>B9 hz hr) b2,<-a2.2.2.1,<-a2.2.2.2]
     rw[e];refine⟨λs=>?_,g2⟩;obtain⟨s1,c1,c2⟩:=h1 s;obtain⟨s2,d1,d2⟩:=g1 s1;rw[hz] at c1;exact⟨s2,(St.iff c1 d1).mono (by omega),c2.trans d2⟩
    obtain⟨g1,g2⟩:=BI hΦ th r.2.1 h2 (oY hz hb);have e:(⟨sk (Ux r.1) ((Xe f th).1++(Xe f el).1) (xB Φ f th r.2.1).1.v (xB Φ f el r.2.1).1.v,sk (wo r.1) ((Xe f th).2++(Xe f el).2) (xB Φ f th r.2.1).1.a (xB Φ f el r.2.1).1.a,r.2.1.i,r.2.1.o⟩:Tt)=(xB Φ f th r.2.1).1:=by rw[uO (se:=Ux _) (λa b _=>jT hz) b1,uO (se:=wo _) (λa b _=>qsQ hz a b) b2,<-a1.2.2.1,<-a1.2.2.2]
    rw[e];refine⟨λs=>?_,g2⟩;obtain⟨s1,c1,c2⟩:=h1 s;obtain⟨s2,d1,d2⟩:=g1 s1;exact⟨s2,(St.oQ c1 hz d1).mono (by omega),c2.trans d2⟩
   rw[zn k3] at h;exact h.1.elim
theorem BI(hΦ:ff P X κ Φ):∀ (b:List Sm) (t:Tt),oh X t.v=true->Si (xB Φ f b t).2->Bx P X f b t (cB κ b) none (xB Φ f b t).1/\oh X (xB Φ f b t).1.v=true
 |[],t,hd,_=>by rw[xB,cB];exact⟨λs=>⟨s,Bl.nil,Fr.refl _ _⟩,hd⟩
 |a::l,t,hd,h=>by rw[xB] at h ⊢;simp only at h ⊢;obtain⟨ha,hb⟩:=ov h;obtain⟨h1,h2⟩:=PN hΦ a t hd ha;obtain⟨g1,g2⟩:=BI hΦ l _ h2 hb;refine⟨λs=>?_,g2⟩;obtain⟨s1,a1,a2⟩:=h1 s;obtain⟨s2,b1,b2⟩:=g1 s1;refine⟨s2,?_,a2.trans b2⟩;rw[cB];exact Bl.cons a1 b1
end
def uK(k:Int)(b:List Sm):Bool:=match b with
 |.mk k' _ _ (_::_) _ _::_=>decide (k'=k)
 |_=>false
def Mi(b:List Sm):Ex:=match b with
 |.mk _ _ _ (x::_) _ _::_=>x
 |_=>default
def Dr(b:List Sm):List Sm:=match b with
 |.mk _ _ _ _ th _::_=>th
 |_=>[]
def hEl(b:List Sm):List Sm:=match b with
 |.mk _ _ _ _ _ el::_=>el
 |_=>[]
variable{b:List Sm}{t t1 t2 t':Tt}{K K1 K2:Nat}{r:Option Nat}
theorem Bx.mono(h:Bx P X f b t K r t')(hk:K<=K1):Bx P X f b t K1 r t':=λs=>by obtain⟨s',h1,h2⟩:=h s;exact⟨s',h1.mono hk,h2⟩
theorem Bx.sub{Y:List Nm}(h:Bx P X f b t K r t')(hs:∀ k∈X,k∈Y):Bx P Y f b t K r t':=λs=>by obtain⟨s',h1,h2⟩:=h s;exact⟨s',h1,h2.sub hs⟩
theorem Bx.nil:Bx P X f [] t 0 none t:=λs=>⟨s,Bl.nil,Fr.refl _ _⟩
theorem Bx.app{c:List Sm}(h:Bx P X f b t K none t1)(g:Bx P X f c t1 K1 r t'):Bx P X f (b++c) t (K+K1) r t':=λs=>by obtain⟨s1,h1,h2⟩:=h s;obtain⟨s2,g1,g2⟩:=g s1;exact⟨s2,Bl.app h1 g1,h2.trans g2⟩
theorem Bx.cut(n:Nat)(h:Bx P X f (b.take n) t K none t1)(k:Bx P X f (b.drop n) t1 K1 r t'):Bx P X f b t (K+K1) r t':=by have:=Bx.app h k;rwa [List.take_append_drop] at this
theorem Bx.run(hΦ:ff P X κ Φ)(n:Nat)(t1:Tt)(l:Pf)(e:(oh X t.v,xB Φ f (b.take n) t)=(true,t1,l.map Subtype.val))(k:Bx P X f (b.drop n) t1 K r t'):Bx P X f b t (cB κ (b.take n)+K) r t':=by rw[Prod.mk.injEq,Prod.ext_iff] at e;obtain⟨e1,e2,e3⟩:=e;have h:=(BI (f:=f) hΦ (b.take n) t e1 (by rw[e3];exact FL l)).1;rw[e2] at h;have:=Bx.app h k;rwa [List.take_append_drop] at this
theorem Bx.fin(hΦ:ff P X κ Φ)(l:Pf)(e:(oh X t.v,xB Φ f b t)=(true,t',l.map Subtype.val)):Bx P X f b t (cB κ b) none t':=by rw[Prod.mk.injEq,Prod.ext_iff] at e;obtain⟨e1,e2,e3⟩:=e;have h:=(BI (f:=f) hΦ b t e1 (by rw[e3];exact FL l)).1;rwa [e2] at h
theorem Bx.CF(hΦ:ff P X κ Φ)(l:Pf)(e:(oh X t.v,(xB Φ f b t).2)=(true,l.map Subtype.val)):Bx P X f b t (cB κ b) none (xB Φ f b t).1:=by rw[Prod.mk.injEq] at e;exact(BI (f:=f) hΦ b t e.1 (by rw[e.2];exact FL l)).1
def KF(l:List (Nm×Fa)):List (Nm×List Nat):=l.map λp=>(p.1,(List.range p.2.1).map p.2.2)
theorem qqT(k:Nm)(z:List Nat):∀ {l m:List (Nm×Fa)},KF l=KF m->Fu (look k l) z=Fu (look k m) z
 |[],[],_=>rfl
 |[],q::m,h=>by cases h
 |p::l,[],h=>by cases h
 |p::l,q::m,h=>by unfold KF at h;rw[jd,jd,List.cons.injEq,Prod.mk.injEq] at h;unfold look;rw[h.1.1];split;exact h.1.2;exact qqT k z h.2
theorem qou{t t1:Tt}(s:IS)(h:(t.v,KF t.a,t.i,t.o)=(t1.v,KF t1.a,t1.i,t1.o)):put s t=put s t1:=by rw[Prod.mk.injEq,Prod.mk.injEq,Prod.mk.injEq] at h;exact yC (λk=>by show(look k t.v).getD _=(look k t1.v).getD _;rw[h.1]) (λk=>qqT k _ h.2.1) h.2.2.1 h.2.2.2 rfl
theorem Bx.conv(h:(t.v,KF t.a,t.i,t.o)=(t1.v,KF t1.a,t1.i,t1.o))(k:Bx P X f b t1 K r t'):Bx P X f b t K r t':=λs=>by rw[qou s h];exact k s
theorem Bx.to(h:Bx P X f b t K r t1)(e:(t1.v,KF t1.a,t1.i,t1.o)=(t'.v,KF t'.a,t'.i,t'.o)):Bx P X f b t K r t':=λs=>by obtain⟨s',h1,h2⟩:=h s;rw[qou s' e] at h1;exact⟨s',h1,h2⟩
theorem RS(hΦ:ff P X κ Φ)(l:Pf)(e:(oh X t.v,xE Φ f x t)=(true,v,t',l.map Subtype.val)):Ex' P X f x t (cX κ x) v t':=by rw[Prod.mk.injEq,Prod.ext_iff,Prod.ext_iff] at e;obtain⟨e1,e2,e3,e4⟩:=e;have h:=(bL (f:=f) hΦ x t e1 (by rw[e4];exact FL l)).1;rw[e2,e3] at h;exact h
theorem Bx.ret(hΦ:ff P X κ Φ){v:Nat}(l:Pf)(hb:uK 5 b=true)(e:(oh X t.v,xE Φ f (Mi b) t)=(true,v,t',l.map Subtype.val)):Bx P X f b t (1+cX κ (Mi b)) (some v) t':=λs=>by
 obtain⟨s',h1,h2⟩:=RS hΦ l e s;refine⟨s',?_,h2⟩;match b,hb with
 |.mk k' _ _ (x::_) _ _::_,hb=>have hk:=Hg hb;subst hk;exact Bl.ret (St.ret h1)
theorem E7(el:List Sm):wS 3 el<=18:=by
 cases el with
 |nil=>decide
 |cons _ _=>exact Nb 18
theorem Bx.oQ(hΦ:ff P X κ Φ){v:Nat}(l:Pf)(hb:uK 3 b=true)(e:(oh X t.v,xE Φ f (Mi b) t)=(true,v,t1,l.map Subtype.val))(hv:v≠0)(g:Bx P X f (Dr b) t1 K1 none t2)(k:Bx P X f (b.drop 1) t2 K r t'):Bx P X f b t (18+cX κ (Mi b)+K1+K) r t':=λs=>by
 obtain⟨s1,h1,h2⟩:=RS hΦ l e s;obtain⟨s2,g1,g2⟩:=g s1;obtain⟨s3,k1,k2⟩:=k s2;refine⟨s3,?_,(h2.trans g2).trans k2⟩;match b,hb with
 |.mk k' _ _ (x::_) _ el::_,hb=>have hk:=Hg hb;subst hk;refine(Bl.cons (St.oQ h1 hv g1) k1).mono ?_;have:=E7 el;show wS 3 el+cX κ x+K1+K<=_;show wS 3 el+cX κ x+K1+K<=18+cX κ x+K1+K;omega
theorem Bx.iff(hΦ:ff P X κ Φ)(l:Pf)(hb:uK 3 b=true){v:Nat}(e:(oh X t.v,xE Φ f (Mi b) t)=(true,v,t1,l.map Subtype.val))(hv:v=0)(g:Bx P X f (hEl b) t1 K1 none t2)(k:Bx P X f (b.drop 1) t2 K r t'):Bx P X f b t (18+cX κ (Mi b)+K1+K) r t':=λs=>by
 subst hv;obtain⟨s1,h1,h2⟩:=RS hΦ l e s;obtain⟨s2,g1,g2⟩:=g s1;obtain⟨s3,k1,k2⟩:=k s2;refine⟨s3,?_,(h2.trans g2).trans k2⟩;match b,hb with
 |.mk k' _ _ (x::_) _ el::_,hb=>have hk:=Hg hb;subst hk;refine(Bl.cons (St.iff h1 g1) k1).mono ?_;have:=E7 el;show wS 3 el+cX κ x+K1+K<=18+cX κ x+K1+K;omega
def Cd(P:Pr)(X:List Nm)(f:ob)(x:Ex)(t:Tt)(c v:Nat):Prop:=Ex' P X f x t c v t
theorem Cd.of(hΦ:ff P X κ Φ)(l:Pf)(e:(oh X t.v,xE Φ f x t)=(true,v,t,l.map Subtype.val)):Cd P X f x t (cX κ x) v:=RS hΦ l e
theorem Wx.loop{x:Ex}{th:List Sm}{c:Nat}(S:Nat->Tt)(n:Nat)(c0 d D:Nat->Nat)(hx:∀ i,i<=n->Cd P X f x (S i) c (c0 i))(h1:∀ i,i<n->c0 i≠0)(hs:∀ i,i<n->Bx P X f th (S i) (d i) none (S (i+1)))(hD:∀ i,i<n->d i+18+c+D (i+1)<=D i)(hw:Wx P X f x th (c0 n) (S n) (D n) r t') :
  ∀ j i,i+j=n->Wx P X f x th (c0 i) (S i) (D i) r t'
 |0,i,e=>by
  obtain rfl:i=n:=by omega
  exact hw
 |j+1,i,e=>λs=>by obtain⟨s1,g1,g2⟩:=hs i (by omega) s;obtain⟨s2,k1,k2⟩:=hx (i+1) (by omega) s1;obtain⟨s3,w1,w2⟩:=Wx.loop S n c0 d D hx h1 hs hD hw j (i+1) (by omega) s2;exact⟨s3,(Wh.next (h1 i (by omega)) g1 k1 w1).mono (hD i (by omega)),(g2.trans k2).trans w2⟩
theorem Wx.done{x:Ex}{th:List Sm}{v:Nat}(h:v=0):Wx P X f x th v t 0 none t:=λs=>⟨s,by rw[h];exact Wh.done,Fr.refl _ _⟩
theorem Wx.mono{x:Ex}{th:List Sm}{v:Nat}(h:Wx P X f x th v t K r t')(hk:K<=K1):Wx P X f x th v t K1 r t':=λs=>by obtain⟨s',g1,g2⟩:=h s;exact⟨s',g1.mono hk,g2⟩
theorem Bx.jH(S:Nat->Tt)(n:Nat)(c0 d D:Nat->Nat)(hb:uK 4 b=true)(hx:∀ i,i<=n->Cd P X f (Mi b) (S i) c (c0 i))(h1:∀ i,i<n->c0 i≠0)(h0:c0 n=0)(hs:∀ i,i<n->Bx P X f (Dr b) (S i) (d i) none (S (i+1)))(hD:∀ i,i<n->d i+18+c+D (i+1)<=D i)(k:Bx P X f (b.drop 1) (S n) K r t') :
  Bx P X f b (S 0) (8+c+D 0+K) r t':=λs=>by
 obtain⟨s1,a1,a2⟩:=hx 0 (zero_le _) s;obtain⟨s2,g1,g2⟩:=Wx.loop S n c0 d D hx h1 hs hD ((Wx.done h0).mono (zero_le _)) n 0 (Nat.zero_add _) s1;obtain⟨s3,k1,k2⟩:=k s2;refine⟨s3,?_,(a2.trans g2).trans k2⟩;match b,hb with
 |.mk k' _ _ (x::_) _ _::_,hb=>have hk:=Hg hb;subst hk;exact(Bl.cons (St.ES a1 g1) k1).mono (by omega)
theorem qyu{i e:Nat}(h:i<n):e+(n-(i+1)) * e<=(n-i) * e:=by
 have:n-i=(n-(i+1))+1:=by omega
 rw[this,Nat.succ_mul];omega
theorem Bx.loop{d:Nat}(S:Nat->Tt)(n:Nat)(c0:Nat->Nat)(hb:uK 4 b=true)(hx:∀ i,i<=n->Cd P X f (Mi b) (S i) c (c0 i))(h1:∀ i,i<n->c0 i≠0)(h0:c0 n=0)(hs:∀ i,i<n->Bx P X f (Dr b) (S i) d none (S (i+1)))(k:Bx P X f (b.drop 1) (S n) K r t') :
  Bx P X f b (S 0) (8+c+n * (d+18+c)+K) r t':=
 Bx.jH S n c0 (λ_=>d) (λi=>(n-i) * (d+18+c)) hb hx h1 h0 hs (λi hi=>qyu hi) k
theorem eU{i:Nat}(hn:n<4294967296)(hi:i<n):Ta i 1=i+1:=Nat.mod_eq_of_lt (by omega)
theorem G8{b:Nat}(h:a<b):YF a b=1:=by unfold YF;rw[Vg h];try rfl
theorem qym{b:Nat}(h:¬a<b):YF a b=0:=by unfold YF;rw[decide_eq_false h];try rfl
theorem qAt(hΦ:ff P X κ Φ){x:Ex}{th:List Sm}:∀ (n:Nat) (t:Tt),oh X t.v=true->Si (xW Φ f x th n t).2->∃ v,∀ s,∃ s1 s',Ev P f x (put s t) (cX κ x) v (put s1 (xE Φ f x t).2.1)/\Wh P f x th v (put s1 (xE Φ f x t).2.1) (n * (cB κ th+18+cX κ x)) none (put s' (xW Φ f x th n t).1)/\Fr X s s'
 |0,t,hd,h=>by
  rw[xW] at h ⊢;simp only at h ⊢;obtain⟨ha,hb⟩:=ov h;obtain⟨h1,h2⟩:=bL (f:=f) hΦ x t hd ha;have hz:(xE Φ f x t).1=0:=by by_cases e:(xE Φ f x t).1=0;exact e;rw[zn e] at hb;exact hb.1.elim
  refine⟨0,λs=>?_⟩;obtain⟨s1,a1,a2⟩:=h1 s;rw[hz] at a1
  exact⟨s1,s1,a1,by rw[Nat.zero_mul];exact Wh.done,a2⟩
 |n+1,t,hd,h=>by
  rw[xW] at h ⊢;simp only at h ⊢;obtain⟨tK,hz⟩:=ov h;obtain⟨hac,hb⟩:=ov tK;obtain⟨ha,hc⟩:=ov hac;obtain⟨h1,h2⟩:=bL (f:=f) hΦ x t hd ha;obtain⟨g1,g2⟩:=BI (f:=f) hΦ th _ h2 hb;obtain⟨v,k⟩:=qAt hΦ n _ g2 hz;have ub:(xE Φ f x t).1≠0:=λe=>by rw[zp e] at hc;exact hc.1
  refine⟨(xE Φ f x t).1,λs=>?_⟩;obtain⟨s1,a1,a2⟩:=h1 s;obtain⟨s2,b1,b2⟩:=g1 s1;obtain⟨s3,s4,c1,c2,c3⟩:=k s2;exact⟨s1,s4,a1,(Wh.next ub b1 c1 c2).mono (by rw[Nat.succ_mul];omega),(a2.trans b2).trans c3⟩
theorem Bx.TK(hΦ:ff P X κ Φ)(n:Nat)(t1:Tt)(l:Pf)(hb:uK 4 b=true)(e:(oh X t.v,xW Φ f (Mi b) (Dr b) n t)=(true,t1,l.map Subtype.val))(k:Bx P X f (b.drop 1) t1 K r t'):Bx P X f b t (8+cX κ (Mi b)+n * (cB κ (Dr b)+18+cX κ (Mi b))+K) r t':=λs=>by
 rw[Prod.mk.injEq,Prod.ext_iff] at e;obtain⟨e1,e2,e3⟩:=e;obtain⟨v,h⟩:=qAt (f:=f) hΦ n t e1 (by rw[e3];exact FL l);obtain⟨s1,s2,a1,a2,a3⟩:=h s;rw[e2] at a2;obtain⟨s3,k1,k2⟩:=k s2;refine⟨s3,?_,a3.trans k2⟩;match b,hb with
 |.mk k' _ _ (x::_) _ _::_,hb=>have hk:=Hg hb;subst hk;exact(Bl.cons (St.ES a1 a2) k1).mono (by omega)
theorem Bx.YN(hΦ:ff P X κ Φ)(n:Nat)(l:Pf)(hb:uK 4 b=true)(e:(oh X t.v,(xW Φ f (Mi b) (Dr b) n t).2)=(true,l.map Subtype.val))(k:Bx P X f (b.drop 1) (xW Φ f (Mi b) (Dr b) n t).1 K r t'):Bx P X f b t (8+cX κ (Mi b)+n * (cB κ (Dr b)+18+cX κ (Mi b))+K) r t':=by rw[Prod.mk.injEq] at e;exact Bx.TK hΦ n _ l hb (Prod.ext e.1 (Prod.ext rfl e.2)) k
theorem Bx.run'(hΦ:ff P X κ Φ)(n:Nat)(l:Pf)(e:(oh X t.v,(xB Φ f (b.take n) t).2)=(true,l.map Subtype.val))(k:Bx P X f (b.drop n) (xB Φ f (b.take n) t).1 K r t'):Bx P X f b t (cB κ (b.take n)+K) r t':=by rw[Prod.mk.injEq] at e;exact Bx.run hΦ n _ l (Prod.ext e.1 (Prod.ext rfl e.2)) k
theorem Fk:ff P X [] []:=λname e h=>by cases h
def Bn(g:ob):List Nm:=(g.params++g.locals).map (Ub g)
def kC(g:ob)(z:Nm->Nat):List (Nm×Nat):=(g.params++g.locals).map λl=>(Ub g l,z (Ub g l))
def AJ(g:ob):List Nm->List Nat->List (Nm×Nat)->List (Nm×Nat)
 |p::ps,v::vs,l=>AJ g ps vs (Sd (Ub g p) v l)
 |_,_,l=>l
theorem qnG(g:ob)(s:IS):∀ (ps:List Nm) (vs:List Nat) (t:Tt),Fp g ps vs (put s t)=put s { t with v:=AJ g ps vs t.v }
 |[],vs,t=>by cases vs <;> rfl
 |p::ps,[],t=>rfl
 |p::ps,v::vs,t=>by rw[Fp,qyk];exact qnG g s ps vs _
theorem bY{A:Type}(k:Nm):∀ (l m:List (Nm×A)),look k (l++m)=(look k l).or (look k m)
 |[],m=>rfl
 |p::l,m=>by show(if p.1=k then some p.2 else look k (l++m))=(if p.1=k then some p.2 else look k l).or (look k m);rw[bY k l m];try split <;> rfl
theorem YT{A:Type}{k:Nm}{x:A}:∀ {l:List (Nm×A)},look k l=some x->(k,x)∈l
 |p::l,h=>by unfold look at h;by_cases e:p.1=k;rw[zp e] at h;cases h;rw[<-e];exact List.mem_cons_self ..;rw[zn e] at h;exact Gc _ (YT h)
def sub(Y X:List Nm):Bool:=Y.all λk=>decide (k∈X)
theorem tL{Y:List Nm}(h:sub Y X=true):∀ k∈Y,k∈X:=λk hk=>Hg (List.all_eq_true.mp h k hk)
theorem Ox.of{g:ob}(hg:aj P name=g)(hn:(decide (name=[105,110]) || decide (name=[111,117,116]) || !sub (Bn g) X || !sub Y X || !oh X t.v || !oh X t'.v)=false)
  (h:∀ z:Nm->Nat,∃ t1,Bx P Y g g.body ⟨AJ g g.params vs (kC g z++t.v),t.a,t.i,t.o⟩ K r t1/\(sub ((t1.v.take (Bn g).length).map (·.1)) X,t1.v.drop (Bn g).length,t1.a,t1.i,t1.o)=(true,t'.v,t'.a,t'.i,t'.o)):Ox P X f name vs t K (r.getD 0) t':=λnum s=>by
 simp only[Bool.or_eq_false_iff,Bool.not_eq_false',decide_eq_false_iff_not] at hn;obtain⟨⟨⟨⟨⟨n1,n2⟩,n3⟩,n4⟩,n5⟩,n6⟩:=hn;obtain⟨t1,hB,hE⟩:=h s.sc;rw[Prod.mk.injEq,Prod.mk.injEq,Prod.mk.injEq,Prod.mk.injEq] at hE;obtain⟨hW,DR,Er,hE3,hE4⟩:=hE;have xK:t1=⟨t1.v.take (Bn g).length++t'.v,t'.a,t'.i,t'.o⟩:=by obtain⟨a,b,c,d⟩:=t1;simp only at DR Er hE3 hE4 ⊢;rw[<-DR,List.take_append_drop,Er,hE3,hE4]
 generalize t1.v.take (Bn g).length=W at hW xK;subst xK;have e1:put s t=put s ⟨kC g s.sc++t.v,t.a,t.i,t.o⟩:=by
  refine yC (λk=>?_) (λ_=>rfl) rfl rfl rfl;show(look k t.v).getD (s.sc k)=(look k (kC g s.sc++t.v)).getD (s.sc k);rw[bY];cases hk:look k (kC g s.sc) with
  |none=>rfl
  |some x=>
   have hm:=YT hk;unfold kC at hm;rw[List.mem_map] at hm;obtain⟨l,hl,he⟩:=hm;rw[Prod.mk.injEq] at he;have Q3:k∈X:=by refine tL n3 k ?_;rw[<-he.1];exact List.mem_map.mpr ⟨l,hl,rfl⟩
   rw[lU Q3 n5,<-he.2,he.1];try rfl
 obtain⟨s',h1,h2⟩:=hB s;refine⟨put s' ⟨W,[],[],[]⟩,?_,?_⟩
 ·have e2:put s' ⟨W++t'.v,t'.a,t'.i,t'.o⟩=put (put s' ⟨W,[],[],[]⟩) t':=by
   refine yC (λk=>?_) (λ_=>rfl) rfl rfl rfl;show(look k (W++t'.v)).getD (s'.sc k)=(look k t'.v).getD ((look k W).getD (s'.sc k));rw[bY];cases hk:look k W with
   |none=>rfl
   |some x=>have Q3:k∈X:=tL hW k (List.mem_map.mpr ⟨_,YT hk,rfl⟩);rw[lU Q3 n6];try rfl
  rw[<-e2];refine Op.call n1 n2 ?_;rw[hg,e1,qnG];exact h1
 refine⟨λk hk=>?_,h2.2⟩;show(look k W).getD (s'.sc k)=s.sc k
 have:look k W=none:=by
  cases hl:look k W with
  |none=>rfl
  |some x=>exact absurd (tL hW k (List.mem_map.mpr ⟨_,YT hl,rfl⟩)) hk
 rw[this];exact h2.1 k λe=>hk (tL n4 k e)
end
theorem NJ(h:Nat.ble a b=true):a<=b:=Nat.le_of_ble_eq_true h
theorem nT{P:Pr}{n:Nm}{e:Ph}(K:Nat)(hn:n≠[105,110]/\n≠[111,117,116])(h:∀ f vs t,oh X t.v=true->Si (e.cond vs t)->Ox P X f n vs t K (e.val vs t) (e.nx vs t)/\oh X (e.nx vs t).v=true){κ:Ks}{Φ:VF}(k:ff P X κ Φ):ff P X ((n,K)::κ) ((n,e)::Φ):=λname e' he=>by unfold look at he;by_cases hh:n=name;rw[zp hh] at he;cases he;subst hh;refine⟨hn.1,hn.2,?_⟩;rw[look,zp rfl];exact h;rw[zn hh] at he;rw[look,zn hh];exact k name e' he
theorem TX{A:Type}{k:Nm}{x:A}{l:List (Nm×A)}(h:look k l=some x):∀ j y,look j [(k,x)]=some y->look j l=some y:=λj y e=>by unfold look at e;by_cases hh:k=j;rw[zp hh] at e;cases e;rw[<-hh];exact h;rw[zn hh] at e;cases e
theorem O9{X:List Nm}{k:Nm}(hk:k ∉ X)(x:Nat):∀ {l:List (Nm×Nat)},oh X l=true->oh X (Sd k x l)=true
 |[],_=>by unfold Sd oh;rw[all_cons,Yc];exact⟨by rw[decide_eq_false hk];try rfl,rfl⟩
 |p::l,h=>by unfold oh at h;rw[all_cons,Yc] at h;unfold Sd oh;split;rename_i hp;rw[all_cons,Yc];exact⟨by rw[<-hp];exact h.1,h.2⟩;rw[all_cons,Yc];exact⟨h.1,O9 hk x h.2⟩
theorem qqF{X:List Nm}{l:List (Nm×Nat)}(h:oh X l=true):∀ {m:List (Nm×Nat)},oh X m=true->oh X (over l m)=true
 |[],_=>h
 |p::m,g=>by unfold oh at g;rw[all_cons,Yc] at g;exact O9 (λe=>by rw[Vg e] at g;cases g.1) _ (qqF h g.2)
theorem qq1{A:Type}{k:Nm}{x:A}:∀ {l:List (Nm×A)},look k l=some x->Sd k x l=l
 |[],h=>by cases h
 |p::l,h=>by unfold look at h;unfold Sd;by_cases e:p.1=k;rw[zp e] at h ⊢;cases h;rw[<-e];rw[zn e] at h ⊢;rw[qq1 h]
def ZZ(vs:List Nat)(t0:Tt):=(vs,t0.v.map λp=>(p.1,some p.2),t0.a.map λp=>(p.1,some p.2),t0.i,t0.o)
def zJ(vs:List Nat)(t0 Vj:Tt)(v:Nat):Ph:=⟨λ_ _=>v,λ_ t=>⟨over t.v Vj.v,over t.a Vj.a,Vj.i,Vj.o⟩,λus t=>[(us,pick t.v (t0.v.map (·.1)),pick t.a (t0.a.map (·.1)),t.i,t.o)=ZZ vs t0],false⟩
abbrev pE(vs:List Nat)(t0:Tt):{ p:Prop // p }:=⟨ZZ vs t0=ZZ vs t0,rfl⟩
theorem M'{P:Pr}{n:Nm}{t0 Vj:Tt}(ho:∀ f,Ox P X f n vs t0 K v Vj)(hn:(n≠[105,110]/\n≠[111,117,116])/\oh X Vj.v=true){κ:Ks}{Φ:VF}(k:ff P X κ Φ):ff P X ((n,K)::κ) ((n,zJ vs t0 Vj v)::Φ):=
 nT K hn.1 (λf us t hd h=>by
  have h1:(us,pick t.v (t0.v.map (·.1)),pick t.a (t0.a.map (·.1)),t.i,t.o)=ZZ vs t0:=h.1;unfold ZZ at h1;rw[Prod.mk.injEq,Prod.mk.injEq,Prod.mk.injEq,Prod.mk.injEq] at h1;obtain⟨h1,h2,h3,h4,h5⟩:=h1;subst h1;exact⟨(ho f).frame hd (PY h2) (PY h3) h4 h5,qqF hd hn.2⟩) k
theorem Ox.sub{P:Pr}{X Y:List Nm}{f:ob}{n:Nm}{vs:List Nat}{t0 Vj:Tt}{K v:Nat}(h:Ox P X f n vs t0 K v Vj)(hs:sub X Y=true):Ox P Y f n vs t0 K v Vj:=λnum s=>by obtain⟨s',h1,h2⟩:=h num s;exact⟨s',h1,h2.sub (tL hs)⟩
theorem qhW{A:Type}(k:Nm)(c:A):∀ l:List Nm,look k (l.map λx=>(x,c))=if k∈l then some c else none
 |[]=>rfl
 |x::l=>by
  show(if x=k then some c else look k (l.map λx=>(x,c)))=_;rw[qhW k c l]
  by_cases h:x=k;rw[zp h,zp (by rw[h];exact List.mem_cons_self ..)];rw[zn h];by_cases hm:k∈l;rw[zp hm,zp (Gc _ hm)];rw[zn hm,zn (λe=>(lc.mp e).elim (λe=>h e.symm) hm)]
theorem quU(P:Pr)(xa:List Nat)(ks:List Nm):aq P xa 0=put (aq P xa 0) ⟨ks.map λx=>(x,0),P.ba.map λa=>(a.name,(a.size,λ_=>0)),xa,[]⟩:=by
 refine yC (λk=>?_) (λk=>?_) rfl rfl rfl
 ·show 0=(look k (ks.map λx=>(x,0))).getD 0;rw[qhW]
  try split <;> rfl
 have key:∀ (l:List Ar) (z:List Nat),(match l.find? λa=>decide (a.name=k) with
  |some a=>List.replicate a.size 0
  |none=>z)=Fu (look k (l.map λa=>(a.name,((a.size,λ_=>0):Fa)))) z:=by
  intro l z;induction l with
  |nil=>rfl
  |cons a l ih=>rw[List.find?_cons,jd,look];by_cases h:a.name=k;rw[Vg h,zp h];show List.replicate a.size 0=(List.range a.size).map λ_=>0;rw[List.map_const',List.length_range];rw[decide_eq_false h,zn h];exact ih
 have e:=key P.ba [];show(match P.ba.find? λa=>decide (a.name=k) with
  |some a=>List.replicate a.size 0
  |none=>[])=Fu _ (match P.ba.find? λa=>decide (a.name=k) with
  |some a=>List.replicate a.size 0
  |none=>[])
 rw[e];try cases look k (P.ba.map λa=>(a.name,((a.size,λ_=>0):Fa))) <;> rfl
theorem mO{P:Pr}{xa:List Nat}{ra:Nat}{r:Option Nat}{t':Tt}(ks:List Nm)(h:Bx P X (Bg P) (Bg P).body ⟨ks.map λx=>(x,0),P.ba.map λa=>(a.name,(a.size,λ_=>0)),xa,[]⟩ K r t')(hk:K<=ra):∃ ua s2,bg (Ag P ua (Bg P)) (Bg P).body (aq P xa ra)=.ok r s2/\s2.out=t'.o:=by obtain⟨s',h1,_⟩:=h (aq P xa 0);rw[<-quU] at h1;obtain⟨ua,s2,e1,e2⟩:=N8 (h1.mono hk);exact⟨ua,s2,e1,e2⟩
mutual
def D0:Ex->Bool
 |.mk op num name args=>decide (num<4294967296) && Iy args
def Iy:List Ex->Bool
 |[]=>true
 |x::l=>D0 x && Iy l
end
mutual
def C0:Sm->Bool
 |.mk kind name index value Ka fb=>Iy index && (Iy value && (Hy Ka && Hy fb))
def Hy:List Sm->Bool
 |[]=>true
 |x::l=>C0 x && Hy l
end
mutual
theorem qxM:∀ x:Ex,D0 x=true->vi x
 |.mk op num name args,h=>by rw[D0,Yc] at h;rw[vi];exact⟨(Hg h.1:num<4294967296),pU args h.2⟩
theorem pU:∀ l:List Ex,Iy l=true->lk l
 |[],_=>by rw[lk];trivial
 |x::l,h=>by rw[Iy,Yc] at h;rw[lk];exact⟨qxM x h.1,pU l h.2⟩
end
mutual
theorem qyv:∀ x:Sm,C0 x=true->Io x
 |.mk kind name index value Ka fb,h=>by rw[C0,Yc,Yc,Yc] at h;rw[Io];exact⟨pU index h.1,pU value h.2.1,kU Ka h.2.2.1,kU fb h.2.2.2⟩
theorem kU:∀ l:List Sm,Hy l=true->Hi l
 |[],_=>by rw[Hi];trivial
 |x::l,h=>by rw[Hy,Yc] at h;rw[Hi];exact⟨qyv x h.1,kU l h.2⟩
end
def O0:fk:=⟨10000,0,100000⟩
def BF(P:Pr)(n:Nat):Bool:=decide (P.vars.length<=n) && decide (P.ba.length<=n) && (P.ba.all λa=>decide (a.size<4294967296)) && decide (Qd P.funcs<=n) && (P.funcs.all λf=>Hy f.body) && decide (qp P=0) && Jq P.vars (Ue P) P.funcs O0 && decide (Sb false (Mg P O0)<=40000) && decide (n<=3100)
theorem AF{P:Pr}(h:BF P n=true):QF P n/\n<=3100/\qp P=0/\∃ x,Tj P.vars (Ue P) P.funcs O0=.ok x:=by unfold BF at h;simp only[Yc] at h;obtain⟨⟨⟨⟨⟨⟨⟨⟨h1,h2⟩,h3⟩,h4⟩,h5⟩,h6⟩,h7⟩,h8⟩,h9⟩:=h;have h1:=Hg h1;have h2:=Hg h2;have h4:=Hg h4;have Wy:=Hg h6;have h8:=Hg h8;have h9:=Hg h9;have gd:QF P n:=⟨h1,h2,λa ha=>Hg (List.all_eq_true.1 h3 a ha),h4,λf hf=>kU _ (List.all_eq_true.1 h5 f hf)⟩;refine⟨gd,h9,Wy,join (Mg P O0) [32],?_⟩;have hc:Uq P.vars (Ue P) P.funcs=0:=Wy;have Oj:Ts (Mg P O0):=qxS Wy gd.Ey h7 (by omega);have oe:∀ w∈Mg P O0,Hj w:=TY Wy h7;have e3:join (JA P.vars (Ue P) P.funcs O0) [32]=join (Mg P O0) [32]:=rfl;have e:=(S8 Oj oe (og:=O0.code) da da h8).1;unfold Tj;rw[zn λh=>h hc,zn (by rw[h7];decide),e3,e]
theorem qyh{P:Pr}{l:List Nat}{ra:Nat}{r:Option Nat}{o:List UInt8}(h:∃ ua s2,bg (Ag P ua (Bg P)) (Bg P).body (aq P l ra)=.ok r s2/\s2.out=o):∃ ua,(Zd P ua l ra).1=0/\(Zd P ua l ra).2.out=o:=by obtain⟨ua,s2,h1,h2⟩:=h;refine⟨ua,?_⟩;unfold Zd;rw[h1];exact⟨rfl,h2⟩
end Go.ea.Wi.Wc.Q
namespace Go.ea.Wi.Wc.Q.Bk
open Go.Lib
def dq:Nm:=[104,102,105,108,108]
def Xr:Nm:=[104,99,111,117,110,116]
def Rq:Nm:=[104,105,110,105,116]
def Hp:Nm:=[104,115,116,97,116,101]
def Sh:Nm:=[104,119,111,114,107]
def Sq:Nm:=[104,119,111,114,100]
def pk:Nm:=[104,115,105,103,109,97]
def LG:Nm:=[104,98,108,111,99,107]
def Zr:Nm:=[115,105,103,109,97,114,111,119]
def Dv:Nm:=[114]
def Jy:Nm:=[97]
def xn:Nm:=[98]
def Jf:Nm:=[105]
def GU:Nm:=[104,116,97,98,108,101,115]
def lp:Nm:=[104,109,105,120]
def iH:Nm:=[99]
def gH:Nm:=[100]
def F0:Nm:=[120]
def E0:Nm:=[121]
def Cv:Nm:=[116]
def iq:Nm:=[104,99,111,109,112,114,101,115,115]
def G0:Nm:=[102]
def Ik:Nm:=[115]
def oU:Nm:=[104,98,101,103,105,110]
def UI:Nm:=[104,98,121,116,101]
def DT:Nm:=[104,101,110,100]
def SG:Nm:=[104,100,105,103,101,115,116]
def xM:Nm:=[107]
def QO:Nm:=[109,97,105,110]
def eQ:Nm:=[105,110]
def dQ:Nm:=[111,117,116]
def qrQ:List Sm:=[sA Jf (eN 0),sW (eB [60] (eV Jf) (eN 8)) [sE pk (eB [43] (eB [42] (eN 16) (eV Dv)) (eV Jf)) (eB [47] (eV Jy) (eN 268435456)),sE pk (eB [43] (eB [43] (eB [42] (eN 16) (eV Dv)) (eN 8)) (eV Jf)) (eB [47] (eV xn) (eN 268435456)),sA Jy (eB [42] (eV Jy) (eN 16)),sA xn (eB [42] (eV xn) (eN 16)),sA Jf (eB [43] (eV Jf) (eN 1))]]
def ZG:ob:=⟨Zr,[Dv,Jy,xn],[Jf],qrQ⟩
def qtL:List Sm:=[sE Rq (eN 0) (eN 1779033703),sE Rq (eN 1) (eN 3144134277),sE Rq (eN 2) (eN 1013904242),sE Rq (eN 3) (eN 2773480762),sE Rq (eN 4) (eN 1359893119),sE Rq (eN 5) (eN 2600822924),sE Rq (eN 6) (eN 528734635),sE Rq (eN 7) (eN 1541459225),sX (eC Zr [eN 0,eN 19088743,eN 2309737967]),sX (eC Zr [eN 1,eN 3930628054,eN 469940051]),sX (eC Zr [eN 2,eN 3099611901,eN 2922803604]),sX (eC Zr [eN 3,eN 2033310910,eN 643449080]),sX (eC Zr [eN 4,eN 2421630127,eN 3787221053]),sX (eC Zr [eN 5,eN 745147267,eN 1299578393]),sX (eC Zr [eN 6,eN 3307203914,eN 123966091]),sX (eC Zr [eN 7,eN 3682517305,eN 1358202410]),sX (eC Zr [eN 8,eN 1877586696,eN 3268875429]),sX (eC Zr [eN 9,eN 2726589973,eN 4221451472])]
def qnq:ob:=⟨GU,[],[],qtL⟩
def Yu:List Sm:=[sE Sh (eV Jy) (eB [43] (eB [43] (eE Sh (eV Jy)) (eE Sh (eV xn))) (eV F0)),sA Cv (eB [94] (eE Sh (eV gH)) (eE Sh (eV Jy))),sE Sh (eV gH) (eB [43] (eB [47] (eV Cv) (eN 65536)) (eB [42] (eV Cv) (eN 65536))),sE Sh (eV iH) (eB [43] (eE Sh (eV iH)) (eE Sh (eV gH))),sA Cv (eB [94] (eE Sh (eV xn)) (eE Sh (eV iH))),sE Sh (eV xn) (eB [43] (eB [47] (eV Cv) (eN 4096)) (eB [42] (eV Cv) (eN 1048576))),sE Sh (eV Jy) (eB [43] (eB [43] (eE Sh (eV Jy)) (eE Sh (eV xn))) (eV E0)),sA Cv (eB [94] (eE Sh (eV gH)) (eE Sh (eV Jy))),sE Sh (eV gH) (eB [43] (eB [47] (eV Cv) (eN 256)) (eB [42] (eV Cv) (eN 16777216))),sE Sh (eV iH) (eB [43] (eE Sh (eV iH)) (eE Sh (eV gH))),sA Cv (eB [94] (eE Sh (eV xn)) (eE Sh (eV iH))),sE Sh (eV xn) (eB [43] (eB [47] (eV Cv) (eN 128)) (eB [42] (eV Cv) (eN 33554432)))]
def Xu:ob:=⟨lp,[Jy,xn,iH,gH,F0,E0],[Cv],Yu⟩
def qpJ:List Sm:=[sA Jf (eN 0),sW (eB [60] (eV Jf) (eN 16)) [sE Sq (eV Jf) (eB [43] (eB [43] (eB [43] (eE LG (eB [42] (eN 4) (eV Jf))) (eB [42] (eE LG (eB [43] (eB [42] (eN 4) (eV Jf)) (eN 1))) (eN 256))) (eB [42] (eE LG (eB [43] (eB [42] (eN 4) (eV Jf)) (eN 2))) (eN 65536))) (eB [42] (eE LG (eB [43] (eB [42] (eN 4) (eV Jf)) (eN 3))) (eN 16777216))),sA Jf (eB [43] (eV Jf) (eN 1))],sA Jf (eN 0),sW (eB [60] (eV Jf) (eN 8)) [sE Sh (eV Jf) (eE Hp (eV Jf)),sE Sh (eB [43] (eV Jf) (eN 8)) (eE Rq (eV Jf)),sA Jf (eB [43] (eV Jf) (eN 1))],sE Sh (eN 12) (eB [94] (eE Sh (eN 12)) (eV Xr)),sI (eV G0) [sE Sh (eN 14) (eB [94] (eE Sh (eN 14)) (eN 4294967295))] [],sA Dv (eN 0),sW (eB [60] (eV Dv) (eN 10)) [sA Ik (eB [42] (eN 16) (eV Dv)),sX (eC lp [eN 0,eN 4,eN 8,eN 12,eE Sq (eE pk (eV Ik)),eE Sq (eE pk (eB [43] (eV Ik) (eN 1)))]),sX (eC lp [eN 1,eN 5,eN 9,eN 13,eE Sq (eE pk (eB [43] (eV Ik) (eN 2))),eE Sq (eE pk (eB [43] (eV Ik) (eN 3)))]),sX (eC lp [eN 2,eN 6,eN 10,eN 14,eE Sq (eE pk (eB [43] (eV Ik) (eN 4))),eE Sq (eE pk (eB [43] (eV Ik) (eN 5)))]),sX (eC lp [eN 3,eN 7,eN 11,eN 15,eE Sq (eE pk (eB [43] (eV Ik) (eN 6))),eE Sq (eE pk (eB [43] (eV Ik) (eN 7)))]),sX (eC lp [eN 0,eN 5,eN 10,eN 15,eE Sq (eE pk (eB [43] (eV Ik) (eN 8))),eE Sq (eE pk (eB [43] (eV Ik) (eN 9)))]),sX (eC lp [eN 1,eN 6,eN 11,eN 12,eE Sq (eE pk (eB [43] (eV Ik) (eN 10))),eE Sq (eE pk (eB [43] (eV Ik) (eN 11)))]),sX (eC lp [eN 2,eN 7,eN 8,eN 13,eE Sq (eE pk (eB [43] (eV Ik) (eN 12))),eE Sq (eE pk (eB [43] (eV Ik) (eN 13)))]),sX (eC lp [eN 3,eN 4,eN 9,eN 14,eE Sq (eE pk (eB [43] (eV Ik) (eN 14))),eE Sq (eE pk (eB [43] (eV Ik) (eN 15)))]),sA Dv (eB [43] (eV Dv) (eN 1))],sA Jf (eN 0),sW (eB [60] (eV Jf) (eN 8)) [sE Hp (eV Jf) (eB [94] (eB [94] (eE Hp (eV Jf)) (eE Sh (eV Jf))) (eE Sh (eB [43] (eV Jf) (eN 8)))),sA Jf (eB [43] (eV Jf) (eN 1))]]
def LZ:ob:=⟨iq,[G0],[Jf,Dv,Ik],qpJ⟩
def qvl:List Sm:=[sA Jf (eN 0),sW (eB [60] (eV Jf) (eN 8)) [sE Hp (eV Jf) (eE Rq (eV Jf)),sA Jf (eB [43] (eV Jf) (eN 1))],sE Hp (eN 0) (eB [94] (eE Hp (eN 0)) (eN 16842784)),sA dq (eN 0),sA Xr (eN 0)]
def cP:ob:=⟨oU,[],[Jf],qvl⟩
def I9:List Sm:=[sI (eB [61,61] (eV dq) (eN 64)) [sX (eC iq [eN 0]),sA dq (eN 0)] [],sE LG (eV dq) (eV xn),sA dq (eB [43] (eV dq) (eN 1)),sA Xr (eB [43] (eV Xr) (eN 1))]
def FT:ob:=⟨UI,[xn],[],I9⟩
def mL:List Sm:=[sW (eB [60] (eV dq) (eN 64)) [sE LG (eV dq) (eN 0),sA dq (eB [43] (eV dq) (eN 1))],sX (eC iq [eN 1])]
def qT:ob:=⟨DT,[],[],mL⟩
def jJ:List Sm:=[sA Ik (eN 1),sA xM (eB [37] (eV Jf) (eN 4)),sW (eV xM) [sA Ik (eB [42] (eV Ik) (eN 256)),sA xM (eB [45] (eV xM) (eN 1))],sR (eB [37] (eB [47] (eE Hp (eB [47] (eV Jf) (eN 4))) (eV Ik)) (eN 256))]
def gJ:ob:=⟨SG,[Jf],[xM,Ik],jJ⟩
def lL:List Sm:=[sX (eC GU []),sX (eC oU []),sA xn (eC eQ []),sW (eB [60] (eV xn) (eN 256)) [sX (eC UI [eV xn]),sA xn (eC eQ [])],sX (eC DT []),sA Jf (eN 0),sW (eB [60] (eV Jf) (eN 32)) [sX (eC dQ [eC SG [eV Jf]]),sA Jf (eB [43] (eV Jf) (eN 1))]]
def iG:ob:=⟨QO,[],[xn,Jf],lL⟩
def P:Pr:=⟨[dq,Xr],[⟨Rq,8⟩,⟨Hp,8⟩,⟨Sh,16⟩,⟨Sq,16⟩,⟨pk,160⟩,⟨LG,64⟩],[ZG,qnq,Xu,LZ,cP,FT,qT,gJ,iG]⟩
def nO(r a b:Nat)(g:Nat->Nat):Nat->Nat:=((List.range 8).foldl (λ(q:(Nat->Nat)×Nat×Nat) i=>(Nc (Nc q.1 (Ta (Ac 16 r) i) (an q.2.1 268435456)) (Ta (Ta (Ac 16 r) 8) i) (an q.2.2 268435456),Ac q.2.1 16,Ac q.2.2 16)) (g,a,b)).1
theorem qwI(f:ob)(r a b:Nat)(hr:r<10)(g:Nat->Nat)(ip:List Nat)(op:List UInt8):Ox P (Bn ZG) f Zr [r,a,b] ⟨[],[(pk,(160,g))],ip,op⟩ 2400 0 ⟨[],[(pk,(160,nO r a b g))],ip,op⟩:=by
 have c0:∀ i,i<8->Ta (Ac 16 r) i<160:=λi hi=>by unfold Ta Ac;omega
 have c1:∀ i,i<8->Ta (Ta (Ac 16 r) 8) i<160:=λi hi=>by unfold Ta Ac;omega
 refine Ox.of (r:=none) (Y:=[]) (g:=ZG) zk zk λz=>⟨_,Bx.mono (Bx.run Fk 1 ⟨[(ky Zr Dv,r),(ky Zr Jy,a),(ky Zr xn,b),(ky Zr Jf,0)],[(pk,(160,g))],ip,op⟩ [] zk (Bx.YN Fk 8 [pb (c0 0 da),pb (c1 0 da),pb (c0 1 da),pb (c1 1 da),pb (c0 2 da),pb (c1 2 da),pb (c0 3 da),pb (c1 3 da),pb (c0 4 da),pb (c1 4 da),pb (c0 5 da),pb (c1 5 da),pb (c0 6 da),pb (c1 6 da),pb (c0 7 da),pb (c1 7 da)] zk zk Bx.nil)) da,zk⟩
def Jg(t a b:Nat):Nat:=Ta (an t a) (Ac t b)
def jm(w:Nat->Nat)(a b c d x y:Nat):Nat->Nat:=
 let w1:=Nc w a (Ta (Ta (w a) (w b)) x)
 let w2:=Nc w1 d (Jg (Qb (w1 d) (w1 a)) 65536 65536)
 let w3:=Nc w2 c (Ta (w2 c) (w2 d))
 let w4:=Nc w3 b (Jg (Qb (w3 b) (w3 c)) 4096 1048576)
 let w5:=Nc w4 a (Ta (Ta (w4 a) (w4 b)) y)
 let w6:=Nc w5 d (Jg (Qb (w5 d) (w5 a)) 256 16777216)
 let w7:=Nc w6 c (Ta (w6 c) (w6 d))
 Nc w7 b (Jg (Qb (w7 b) (w7 c)) 128 33554432)
def Tm(a b c d x y t:Nat)(w:Nat->Nat)(ip:List Nat)(op:List UInt8):Tt:=⟨[(ky lp Jy,a),(ky lp xn,b),(ky lp iH,c),(ky lp gH,d),(ky lp F0,x),(ky lp E0,y),(ky lp Cv,t)],[(Sh,(16,w))],ip,op⟩
section
variable{a b c d:Nat}(x y t:Nat)(w:Nat->Nat)(ip:List Nat)(op:List UInt8)(ha:a<16)(hb:b<16)(hc:c<16)(hd:d<16)
include ha hb in
theorem m1:Bx P [] Xu (Yu.take 1) (Tm a b c d x y t w ip op) (cB [] (Yu.take 1)) none (Tm a b c d x y t (Nc w a (Ta (Ta (w a) (w b)) x)) ip op):=Bx.fin Fk [pb ha,pb hb,pb ha] zk
include ha hb in
theorem m7:Bx P [] Xu ((Yu.drop 6).take 1) (Tm a b c d x y t w ip op) (cB [] ((Yu.drop 6).take 1)) none (Tm a b c d x y t (Nc w a (Ta (Ta (w a) (w b)) y)) ip op):=Bx.fin Fk [pb ha,pb hb,pb ha] zk
include ha hd in
theorem m2:Bx P [] Xu ((Yu.drop 1).take 2) (Tm a b c d x y t w ip op) (cB [] ((Yu.drop 1).take 2)) none (Tm a b c d x y (Qb (w d) (w a)) (Nc w d (Jg (Qb (w d) (w a)) 65536 65536)) ip op):=Bx.fin Fk [pb hd,pb ha,pb hd] zk
include ha hd in
theorem m8:Bx P [] Xu ((Yu.drop 7).take 2) (Tm a b c d x y t w ip op) (cB [] ((Yu.drop 7).take 2)) none (Tm a b c d x y (Qb (w d) (w a)) (Nc w d (Jg (Qb (w d) (w a)) 256 16777216)) ip op):=Bx.fin Fk [pb hd,pb ha,pb hd] zk
include hc hd in
theorem m4:Bx P [] Xu ((Yu.drop 3).take 1) (Tm a b c d x y t w ip op) (cB [] ((Yu.drop 3).take 1)) none (Tm a b c d x y t (Nc w c (Ta (w c) (w d))) ip op):=Bx.fin Fk [pb hc,pb hd,pb hc] zk
include hb hc in
theorem m5:Bx P [] Xu ((Yu.drop 4).take 2) (Tm a b c d x y t w ip op) (cB [] ((Yu.drop 4).take 2)) none (Tm a b c d x y (Qb (w b) (w c)) (Nc w b (Jg (Qb (w b) (w c)) 4096 1048576)) ip op):=Bx.fin Fk [pb hb,pb hc,pb hb] zk
include hb hc in
theorem m11:Bx P [] Xu (Yu.drop 10) (Tm a b c d x y t w ip op) (cB [] (Yu.drop 10)) none (Tm a b c d x y (Qb (w b) (w c)) (Nc w b (Jg (Qb (w b) (w c)) 128 33554432)) ip op):=Bx.fin Fk [pb hb,pb hc,pb hb] zk
theorem YX(f:ob)(ha:a<16)(hb:b<16)(hc:c<16)(hd:d<16) :
  Ox P (Bn Xu) f lp [a,b,c,d,x,y] ⟨[],[(Sh,(16,w))],ip,op⟩ 1500 0 ⟨[],[(Sh,(16,jm w a b c d x y))],ip,op⟩:=
 Ox.of (r:=none) (Y:=[]) (g:=Xu) zk zk λz=>⟨_,Bx.mono (Bx.cut (t:=Tm a b c d x y (z (ky lp Cv)) w ip op) 1 (m1 _ _ _ _ _ _ ha hb) (Bx.cut 2 (m2 _ _ _ _ _ _ ha hd) (Bx.cut 1 (m4 _ _ _ _ _ _ hc hd) (Bx.cut 2 (m5 _ _ _ _ _ _ hb hc) (Bx.cut 1 (m7 _ _ _ _ _ _ ha hb) (Bx.cut 2 (m8 _ _ _ _ _ _ ha hd) (Bx.cut 1 (m4 _ _ _ _ _ _ hc hd) (m11 _ _ _ _ _ _ hb hc)))))))) da,zk⟩
end
def HW:Ph:=⟨λ_ _=>0,λvs t=>match vs,look Sh t.a with
 |[a,b,c,d,x,y],some p=>{ t with a:=Sd Sh (16,jm p.2 a b c d x y) t.a }
 |_,_=>t,λvs t=>match vs,look Sh t.a with
 |[a,b,c,d,x,y],some p=>[(decide (p.1=16) && decide (a<16) && decide (b<16) && decide (c<16) && decide (d<16))=true]
 |_,_=>[False],false⟩
theorem qwi{κ:Ks}{Φ:VF}(k:ff P (Bn Xu) κ Φ):ff P (Bn Xu) ((lp,1500)::κ) ((lp,HW)::Φ):=nT 1500 da (λf vs t hd h=>by
 match vs with
 |[a,b,c,d,x,y]=>
  unfold HW at h ⊢;unfold Ph.nx;simp only[gk,if_false] at h ⊢;cases hl:look Sh t.a with
  |none=>rw[hl] at h;exact h.1.elim
  |some p=>rw[hl] at h;have h1:=h.1;simp only[Yc,Mf] at h1;obtain⟨n,w⟩:=p;obtain⟨⟨⟨⟨rfl,h2⟩,h3⟩,h4⟩,h5⟩:=h1;exact⟨(YX x y w t.i t.o f h2 h3 h4 h5).frame hd (λk x e=>by cases e) (TX hl) rfl rfl,hd⟩
 |[]=>exact h.1.elim
 |[_]=>exact h.1.elim
 |[_,_]=>exact h.1.elim
 |[_,_,_]=>exact h.1.elim
 |[_,_,_,_]=>exact h.1.elim
 |[_,_,_,_,_]=>exact h.1.elim
 |_::_::_::_::_::_::_::_=>exact h.1.elim) k
def wW:List Nat:=[0,1,2,3,4,5,6,7,8,9,10,11,12,13,14,15,14,10,4,8,9,15,13,6,1,12,0,2,11,7,5,3,11,8,12,0,5,2,15,13,10,14,3,6,7,1,9,4,7,9,3,1,13,12,11,14,2,6,5,10,4,0,15,8,9,0,5,7,2,4,10,15,14,1,11,12,6,8,3,13,2,12,6,10,0,11,8,3,4,13,7,5,15,14,1,9,12,5,1,15,14,13,4,10,0,7,6,3,9,2,8,11,13,11,7,14,12,1,3,9,5,0,15,4,8,6,2,10,6,15,14,9,11,3,0,8,12,2,13,7,1,4,10,5,10,2,8,4,7,6,1,5,15,11,9,14,3,12,13,0]
def td(j:Nat):Nat:=wW.getD j 0
def Gp(bl m:Nat->Nat):Nat->Nat:=(List.range 16).foldl (λg i=>Nc g i (Ta (Ta (Ta (bl (Ac 4 i)) (Ac (bl (Ta (Ac 4 i) 1)) 256)) (Ac (bl (Ta (Ac 4 i) 2)) 65536)) (Ac (bl (Ta (Ac 4 i) 3)) 16777216))) m
def Us(iv h w:Nat->Nat):Nat->Nat:=(List.range 8).foldl (λg i=>Nc (Nc g i (h i)) (Ta i 8) (iv i)) w
def Yx(w:Nat->Nat)(c f:Nat):Nat->Nat:=λj=>Ux f (Nc (Nc w 12 (Qb (w 12) c)) 14 (Qb (Nc w 12 (Qb (w 12) c) 14) 4294967295) j) (Nc w 12 (Qb (w 12) c) j)
def fT(m w:Nat->Nat)(s:Nat):Nat->Nat:=(jm (jm (jm (jm (jm (jm (jm (jm w 0 4 8 12 (m (td s)) (m (td (Ta s 1)))) 1 5 9 13 (m (td (Ta s 2))) (m (td (Ta s 3)))) 2 6 10 14 (m (td (Ta s 4))) (m (td (Ta s 5)))) 3 7 11 15 (m (td (Ta s 6))) (m (td (Ta s 7)))) 0 5 10 15 (m (td (Ta s 8))) (m (td (Ta s 9)))) 1 6 11 12 (m (td (Ta s 10))) (m (td (Ta s 11)))) 2 7 8 13 (m (td (Ta s 12))) (m (td (Ta s 13)))) 3 4 9 14 (m (td (Ta s 14))) (m (td (Ta s 15))))
def iE(m w:Nat->Nat):Nat->Nat:=(List.range 10).foldl (λg r=>fT m g (Ac 16 r)) w
def MA(h w:Nat->Nat):Nat->Nat:=(List.range 8).foldl (λg i=>Nc g i (Qb (Qb (g i) (w i)) (w (Ta i 8)))) h
def du(iv h w m bl:Nat->Nat):List (Nm×Fa):=[(Rq,(8,iv)),(Hp,(8,h)),(Sh,(16,w)),(Sq,(16,m)),(pk,(160,td)),(LG,(64,bl))]
def TC(f i r s c:Nat)(iv h w m bl:Nat->Nat)(ip:List Nat)(op:List UInt8):Tt:=⟨[(ky iq G0,f),(ky iq Jf,i),(ky iq Dv,r),(ky iq Ik,s),(Xr,c)],du iv h w m bl,ip,op⟩
abbrev xC:List Nm:=Bn Xu++Bn LZ
abbrev phC:VF:=[(lp,HW)]
theorem qG:ff P (Bn Xu) [(lp,1500)] phC:=qwi Fk
theorem qs7(g:ob)(f c:Nat)(iv h w m bl:Nat->Nat)(ip:List Nat)(op:List UInt8) :
  Ox P xC g iq [f] ⟨[(Xr,c)],du iv h w m bl,ip,op⟩ 200000 0 ⟨[(Xr,c)],du iv (MA h (iE (Gp bl m) (Yx (Us iv h w) c f))) (iE (Gp bl m) (Yx (Us iv h w) c f)) (Gp bl m) bl,ip,op⟩:=
 Ox.of (r:=none) (Y:=Bn Xu) (g:=LZ) zk zk λz=>⟨_,Bx.mono
  (Bx.run qG 1 (TC f 0 (z (ky iq Dv)) (z (ky iq Ik)) c iv h w m bl ip op) [] zk
  (Bx.TK qG 16 (TC f 16 (z (ky iq Dv)) (z (ky iq Ik)) c iv h w (Gp bl m) bl ip op) (List.replicate 80 pT) zk zk
  (Bx.run qG 1 (TC f 0 (z (ky iq Dv)) (z (ky iq Ik)) c iv h w (Gp bl m) bl ip op) [] zk
  (Bx.TK qG 8 (TC f 8 (z (ky iq Dv)) (z (ky iq Ik)) c iv h (Us iv h w) (Gp bl m) bl ip op) (List.replicate 32 pT) zk zk
  (Bx.run qG 3 (TC f 8 0 (z (ky iq Ik)) c iv h (Yx (Us iv h w) c f) (Gp bl m) bl ip op) [] zk
  (Bx.TK qG 10 (TC f 8 10 144 c iv h (iE (Gp bl m) (Yx (Us iv h w) c f)) (Gp bl m) bl ip op) (List.replicate 400 pT) zk zk
  (Bx.run qG 1 (TC f 0 10 144 c iv h (iE (Gp bl m) (Yx (Us iv h w) c f)) (Gp bl m) bl ip op) [] zk
  (Bx.TK qG 8 (TC f 8 10 144 c iv (MA h (iE (Gp bl m) (Yx (Us iv h w) c f))) (iE (Gp bl m) (Yx (Us iv h w) c f)) (Gp bl m) bl ip op) (List.replicate 32 pT) zk zk Bx.nil)))))))) da,zk⟩
structure Mk where
 h:Nat->Nat
 w:Nat->Nat
 m:Nat->Nat
 bl:Nat->Nat
 fill:Nat
 Fg:Nat
def TB(iv:Nat->Nat)(q:Mk)(ip:List Nat)(op:List UInt8):Tt:=⟨[(dq,q.fill),(Xr,q.Fg)],du iv q.h q.w q.m q.bl,ip,op⟩
def XV(iv:Nat->Nat)(q:Mk)(ip:List Nat)(op:List UInt8):Tt:=⟨[(Xr,q.Fg)],du iv q.h q.w q.m q.bl,ip,op⟩
def eG(iv:Nat->Nat)(f:Nat)(q:Mk):Mk:=
 { q with h:=MA q.h (iE (Gp q.bl q.m) (Yx (Us iv q.h q.w) q.Fg f)),w:=iE (Gp q.bl q.m) (Yx (Us iv q.h q.w) q.Fg f),m:=Gp q.bl q.m }
def CE(q:Mk)(b:Nat):Mk:={ q with bl:=Nc q.bl q.fill b,fill:=Ta q.fill 1,Fg:=Ta q.Fg 1 }
def Nq(iv:Nat->Nat)(q:Mk)(b:Nat):Mk:=CE (if q.fill=64 then { eG iv 0 q with fill:=0 } else q) b
def ZP(iv:Nat->Nat)(f:Nat)(q:Mk)(ip:List Nat)(op:List UInt8):VF:=[(iq,zJ [f] (XV iv q ip op) (XV iv (eG iv f q) ip op) 0)]
theorem qp1(iv:Nat->Nat)(f:Nat)(q:Mk)(ip:List Nat)(op:List UInt8):ff P xC [(iq,200000)] (ZP iv f q ip op):=M' (λg=>qs7 g f q.Fg iv q.h q.w q.m q.bl ip op) ⟨by decide,zk⟩ Fk
abbrev xY:List Nm:=xC++Bn FT
def kY(q:Mk):Nat:=if q.fill=64 then 200300 else 300
theorem quv(g:ob)(iv:Nat->Nat)(q:Mk)(b:Nat)(hq:q.fill<=64)(ip:List Nat)(op:List UInt8):Ox P xY g UI [b] (TB iv q ip op) (kY q) 0 (TB iv (Nq iv q b) ip op):=by
 obtain⟨h,w,m,bl,fill,Fg⟩:=q;by_cases hf:fill=64;have hv:QK fill 64≠0:=by rw[hf];decide
 have e1:Nq iv ⟨h,w,m,bl,fill,Fg⟩ b=CE { eG iv 0 ⟨h,w,m,bl,fill,Fg⟩ with fill:=0 } b:=by unfold Nq;rw[zp hf]
 have e2:kY ⟨h,w,m,bl,fill,Fg⟩=200300:=zp hf;rw[e1,e2];exact Ox.of (r:=none) (Y:=xC) (g:=FT) zk zk λz=>⟨_,Bx.mono
  (Bx.oQ (K1:=cB [(iq,200000)] (Dr I9)) Fk [] zk (t1:=⟨[(ky UI xn,b),(dq,fill),(Xr,Fg)],du iv h w m bl,ip,op⟩) (v:=QK fill 64) zk hv
   (t2:=⟨[(ky UI xn,b),(dq,0),(Xr,Fg)],(TB iv (eG iv 0 ⟨h,w,m,bl,fill,Fg⟩) ip op).a,ip,op⟩)
   (Bx.fin (qp1 iv 0 ⟨h,w,m,bl,fill,Fg⟩ ip op) [pE [0] (XV iv ⟨h,w,m,bl,fill,Fg⟩ ip op)] zk)
   (Bx.CF Fk [pT] zk)) (NJ zk),zk⟩
 have hv:QK fill 64=0:=by unfold QK;rw[decide_eq_false hf];try rfl
 have e1:Nq iv ⟨h,w,m,bl,fill,Fg⟩ b=CE ⟨h,w,m,bl,fill,Fg⟩ b:=by unfold Nq;rw[zn hf]
 have e2:kY ⟨h,w,m,bl,fill,Fg⟩=300:=zn hf;have za:fill<64:=by simp only at hq;omega
 rw[e1,e2];exact Ox.of (r:=none) (Y:=xC) (g:=FT) zk zk λz=>⟨_,Bx.mono
  (Bx.iff Fk [] zk (t1:=⟨[(ky UI xn,b),(dq,fill),(Xr,Fg)],du iv h w m bl,ip,op⟩) (v:=QK fill 64) zk hv Bx.nil
   (Bx.CF Fk [pb za] zk)) da,zk⟩
def Dy(bl:Nat->Nat)(a:Nat):Nat->Nat->Nat
 |0=>bl
 |j+1=>Nc (Dy bl a j) (a+j) 0
def Fo(q:Mk)(j:Nat):Mk:={ q with bl:=Dy q.bl q.fill j,fill:=q.fill+j }
def YB(iv:Nat->Nat)(q:Mk):Mk:=eG iv 1 (Fo q (64-q.fill))
theorem qti(iv:Nat->Nat)(q:Mk)(j:Nat)(hj:q.fill+j<64)(ip:List Nat)(op:List UInt8):Bx P xC qT (Dr mL) (TB iv (Fo q j) ip op) (cB [] (Dr mL)) none (TB iv (Fo q (j+1)) ip op):=by
 have h:=Bx.fin (P:=P) (X:=xC) (f:=qT) (b:=Dr mL) (t:=TB iv (Fo q j) ip op) (t':=TB iv { Fo q (j+1) with fill:=Ta (q.fill+j) 1 } ip op) Fk [pb hj] zk;have e:({ Fo q (j+1) with fill:=Ta (q.fill+j) 1 }:Mk)=Fo q (j+1):=by rw[eU (n:=64) da hj];try rfl
 rw[e] at h;exact h
theorem uE(g:ob)(iv:Nat->Nat)(q:Mk)(hq:q.fill<=64)(ip:List Nat)(op:List UInt8):Ox P xC g DT [] (TB iv q ip op) 220000 0 (TB iv (YB iv q) ip op):=by refine Ox.of (r:=none) (Y:=xC) (g:=qT) zk zk λz=>⟨TB iv (YB iv q) ip op,Bx.mono (Bx.loop (c:=cX [] (Mi mL)) (d:=cB [] (Dr mL)) (λj=>TB iv (Fo q j) ip op) (64-q.fill) (λj=>YF (q.fill+j) 64) zk (λi hi=>Cd.of Fk [] zk) (λi hi=>by rw[G8 (by omega)];decide) (qym (by omega)) (λi hi=>qti iv q i (by omega) ip op) (Bx.fin (qp1 iv 1 (Fo q (64-q.fill)) ip op) [pE [1] (XV iv (Fo q (64-q.fill)) ip op)] zk)) ?_,zk⟩;refine Se (Nat.add_le_add_right (Nat.add_le_add_left (Nat.mul_le_mul_right _ (show 64-q.fill<=64 by omega)) _) _) (NJ zk)
def EF(h:Nat->Nat)(i:Nat):Nat:=RN (an (h (an i 4)) (256 ^ (i % 4))) 256
def TD(i k s:Nat)(h:Nat->Nat)(ip:List Nat)(op:List UInt8):Tt:=⟨[(ky SG Jf,i),(ky SG xM,k),(ky SG Ik,s)],[(Hp,(8,h))],ip,op⟩
theorem qub(i j:Nat)(hj:j<i % 4)(h:Nat->Nat)(ip:List Nat)(op:List UInt8):Bx P [] gJ (Dr (jJ.drop 2)) (TD i (i % 4-j) (256 ^ j) h ip op) (cB [] (Dr (jJ.drop 2))) none (TD i (i % 4-(j+1)) (256 ^ (j+1)) h ip op):=by
 have q:=Bx.fin (P:=P) (X:=[]) (f:=gJ) (b:=Dr (jJ.drop 2)) (t:=TD i (i % 4-j) (256 ^ j) h ip op) (t':=TD i (Nx (i % 4-j) 1) (Ac (256 ^ j) 256) h ip op) Fk [] zk;have h4:i % 4<4:=Nat.mod_lt _ da;have e1:Nx (i % 4-j) 1=i % 4-(j+1):=by unfold Nx;omega
 have e2:Ac (256 ^ j) 256=256 ^ (j+1):=by rcases(show j=0∨j=1∨j=2 by omega) with e|e|e <;> rw[e] <;> decide
 rwa [e1,e2] at q
theorem qwb(g:ob)(i:Nat)(hi:i<32)(h:Nat->Nat)(ip:List Nat)(op:List UInt8):Ox P (Bn gJ) g SG [i] ⟨[],[(Hp,(8,h))],ip,op⟩ 500 (EF h i) ⟨[],[(Hp,(8,h))],ip,op⟩:=by
 have h4:i % 4<4:=Nat.mod_lt _ da;have hp:(256 ^ (i % 4))≠0:=Nat.pos_iff_ne_zero.mp (Nat.pow_pos da);have h8:an i 4<8:=by unfold an;omega
 refine Ox.of (r:=some (EF h i)) (Y:=[]) (g:=gJ) zk zk λz=>⟨TD i (i % 4-i % 4) (256 ^ (i % 4)) h ip op,Bx.mono (Bx.run Fk 2 (TD i (i % 4-0) (256 ^ 0) h ip op) [] zk (Bx.loop (b:=jJ.drop 2) (c:=cX [] (Mi (jJ.drop 2))) (d:=cB [] (Dr (jJ.drop 2))) (λj=>TD i (i % 4-j) (256 ^ j) h ip op) (i % 4) (λj=>i % 4-j) zk (λj hj=>Cd.of Fk [] zk) (λj hj=>by omega) (Nat.sub_self _) (λj hj=>qub i j hj h ip op) (Bx.ret Fk [pb h8,pb hp] zk zk))) ?_,zk⟩;refine Se (Nat.add_le_add_left (Nat.add_le_add_right (Nat.add_le_add_left (Nat.mul_le_mul_right _ (show i % 4<=3 by omega)) _) _) _) (NJ zk)
end Go.ea.Wi.Wc.Q.Bk
