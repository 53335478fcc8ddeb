/- Closed facts of this seat's program, written by a program of this seat: which functions have a body; cells, bytes and zero values of types. -/
import Derived.Test.YtkfpiadgjbhcpaaGreatDoorProg
import Derived.Test.YtkfpiadgjbhcpaaGreatDoorT14
import Derived.Test.YtkfpiadgjbhcpaaGreatDoorT18
set_option maxRecDepth 100000
set_option linter.unusedVariables false
namespace Go.Proofs.YtkfpiadgjbhcpaaGreatDoor
open Go Go.Av Go.RowKit
theorem mixed : Tryz.prog.follows .mixedOrders = true := by kernel_rfl
theorem hB2 : hasBody Tryz.prog 2 = true := by kernel_rfl
theorem hB3 : hasBody Tryz.prog 3 = true := by kernel_rfl
theorem hB4 : hasBody Tryz.prog 4 = true := by kernel_rfl
theorem hB7 : hasBody Tryz.prog 7 = true := by kernel_rfl
theorem hB14 : hasBody Tryz.prog 14 = true := by kernel_rfl
theorem hB15 : hasBody Tryz.prog 15 = true := by kernel_rfl
theorem hB16 : hasBody Tryz.prog 16 = true := by kernel_rfl
theorem hB17 : hasBody Tryz.prog 17 = true := by kernel_rfl
theorem hB18 : hasBody Tryz.prog 18 = true := by kernel_rfl
theorem hB19 : hasBody Tryz.prog 19 = true := by kernel_rfl
theorem hB25 : hasBody Tryz.prog 25 = true := by kernel_rfl
theorem hB29 : hasBody Tryz.prog 29 = true := by kernel_rfl
theorem hB34 : hasBody Tryz.prog 34 = true := by kernel_rfl
theorem hB35 : hasBody Tryz.prog 35 = true := by kernel_rfl
theorem hB36 : hasBody Tryz.prog 36 = true := by kernel_rfl
theorem hB37 : hasBody Tryz.prog 37 = true := by kernel_rfl
theorem hB38 : hasBody Tryz.prog 38 = true := by kernel_rfl
theorem hB39 : hasBody Tryz.prog 39 = true := by kernel_rfl
theorem hB40 : hasBody Tryz.prog 40 = true := by kernel_rfl
theorem hB47 : hasBody Tryz.prog 47 = true := by kernel_rfl
theorem hB48 : hasBody Tryz.prog 48 = true := by kernel_rfl
theorem hB49 : hasBody Tryz.prog 49 = true := by kernel_rfl
theorem hB50 : hasBody Tryz.prog 50 = true := by kernel_rfl
theorem hB51 : hasBody Tryz.prog 51 = true := by kernel_rfl
theorem hB52 : hasBody Tryz.prog 52 = true := by kernel_rfl
theorem hB53 : hasBody Tryz.prog 53 = true := by kernel_rfl
theorem hB54 : hasBody Tryz.prog 54 = true := by kernel_rfl
theorem hB55 : hasBody Tryz.prog 55 = true := by kernel_rfl
theorem hB56 : hasBody Tryz.prog 56 = true := by kernel_rfl
theorem hB57 : hasBody Tryz.prog 57 = true := by kernel_rfl
theorem hB58 : hasBody Tryz.prog 58 = true := by kernel_rfl
theorem hB61 : hasBody Tryz.prog 61 = true := by kernel_rfl
theorem hB63 : hasBody Tryz.prog 63 = true := by kernel_rfl
theorem hB67 : hasBody Tryz.prog 67 = true := by kernel_rfl
theorem hB68 : hasBody Tryz.prog 68 = true := by kernel_rfl
theorem hB69 : hasBody Tryz.prog 69 = true := by kernel_rfl
theorem hB70 : hasBody Tryz.prog 70 = true := by kernel_rfl
theorem hB71 : hasBody Tryz.prog 71 = true := by kernel_rfl
theorem hB72 : hasBody Tryz.prog 72 = true := by kernel_rfl
theorem hB76 : hasBody Tryz.prog 76 = true := by kernel_rfl
theorem hB80 : hasBody Tryz.prog 80 = true := by kernel_rfl
theorem hB83 : hasBody Tryz.prog 83 = true := by kernel_rfl
theorem hB84 : hasBody Tryz.prog 84 = true := by kernel_rfl
theorem hB85 : hasBody Tryz.prog 85 = true := by kernel_rfl
theorem hB88 : hasBody Tryz.prog 88 = true := by kernel_rfl
theorem hB89 : hasBody Tryz.prog 89 = true := by kernel_rfl
theorem hB90 : hasBody Tryz.prog 90 = true := by kernel_rfl
theorem hB91 : hasBody Tryz.prog 91 = true := by kernel_rfl
theorem hB92 : hasBody Tryz.prog 92 = true := by kernel_rfl
theorem hB93 : hasBody Tryz.prog 93 = true := by kernel_rfl
theorem hB94 : hasBody Tryz.prog 94 = true := by kernel_rfl
theorem hB95 : hasBody Tryz.prog 95 = true := by kernel_rfl
theorem hB96 : hasBody Tryz.prog 96 = true := by kernel_rfl
theorem hB97 : hasBody Tryz.prog 97 = true := by kernel_rfl
theorem hB98 : hasBody Tryz.prog 98 = true := by kernel_rfl
theorem hB99 : hasBody Tryz.prog 99 = true := by kernel_rfl
theorem hB100 : hasBody Tryz.prog 100 = true := by kernel_rfl
theorem hB103 : hasBody Tryz.prog 103 = true := by kernel_rfl
theorem hB104 : hasBody Tryz.prog 104 = true := by kernel_rfl
theorem hB105 : hasBody Tryz.prog 105 = true := by kernel_rfl
theorem hB106 : hasBody Tryz.prog 106 = true := by kernel_rfl
theorem hB107 : hasBody Tryz.prog 107 = true := by kernel_rfl
theorem hB108 : hasBody Tryz.prog 108 = true := by kernel_rfl
theorem hB109 : hasBody Tryz.prog 109 = true := by kernel_rfl
theorem hB110 : hasBody Tryz.prog 110 = true := by kernel_rfl
theorem hB111 : hasBody Tryz.prog 111 = true := by kernel_rfl
theorem hB115 : hasBody Tryz.prog 115 = true := by kernel_rfl
theorem hB116 : hasBody Tryz.prog 116 = true := by kernel_rfl
theorem hB119 : hasBody Tryz.prog 119 = true := by kernel_rfl
theorem hB120 : hasBody Tryz.prog 120 = true := by kernel_rfl
theorem hB121 : hasBody Tryz.prog 121 = true := by kernel_rfl
theorem hB123 : hasBody Tryz.prog 123 = true := by kernel_rfl
theorem hB124 : hasBody Tryz.prog 124 = true := by kernel_rfl
theorem hB125 : hasBody Tryz.prog 125 = true := by kernel_rfl
theorem hB126 : hasBody Tryz.prog 126 = true := by kernel_rfl
theorem hB136 : hasBody Tryz.prog 136 = true := by kernel_rfl
theorem hB140 : hasBody Tryz.prog 140 = true := by kernel_rfl
theorem hB141 : hasBody Tryz.prog 141 = true := by kernel_rfl
theorem hB142 : hasBody Tryz.prog 142 = true := by kernel_rfl
theorem hB143 : hasBody Tryz.prog 143 = true := by kernel_rfl
theorem hB144 : hasBody Tryz.prog 144 = true := by kernel_rfl
theorem hB145 : hasBody Tryz.prog 145 = true := by kernel_rfl
theorem hB146 : hasBody Tryz.prog 146 = true := by kernel_rfl
theorem hB149 : hasBody Tryz.prog 149 = true := by kernel_rfl
theorem hB150 : hasBody Tryz.prog 150 = true := by kernel_rfl
theorem hB151 : hasBody Tryz.prog 151 = true := by kernel_rfl
theorem hB152 : hasBody Tryz.prog 152 = true := by kernel_rfl
theorem hB153 : hasBody Tryz.prog 153 = true := by kernel_rfl
theorem hB154 : hasBody Tryz.prog 154 = true := by kernel_rfl
theorem hB155 : hasBody Tryz.prog 155 = true := by kernel_rfl
theorem hB156 : hasBody Tryz.prog 156 = true := by kernel_rfl
theorem hB157 : hasBody Tryz.prog 157 = true := by kernel_rfl
theorem hB158 : hasBody Tryz.prog 158 = true := by kernel_rfl
theorem hB159 : hasBody Tryz.prog 159 = true := by kernel_rfl
theorem hB160 : hasBody Tryz.prog 160 = true := by kernel_rfl
theorem hB161 : hasBody Tryz.prog 161 = true := by kernel_rfl
theorem hB162 : hasBody Tryz.prog 162 = true := by kernel_rfl
theorem hB163 : hasBody Tryz.prog 163 = true := by kernel_rfl
theorem hB164 : hasBody Tryz.prog 164 = true := by kernel_rfl
theorem hB165 : hasBody Tryz.prog 165 = true := by kernel_rfl
theorem hB166 : hasBody Tryz.prog 166 = true := by kernel_rfl
theorem hB167 : hasBody Tryz.prog 167 = true := by kernel_rfl
theorem hB168 : hasBody Tryz.prog 168 = true := by kernel_rfl
theorem hB169 : hasBody Tryz.prog 169 = true := by kernel_rfl
theorem hB170 : hasBody Tryz.prog 170 = true := by kernel_rfl
theorem hB171 : hasBody Tryz.prog 171 = true := by kernel_rfl
theorem hB172 : hasBody Tryz.prog 172 = true := by kernel_rfl
theorem hB173 : hasBody Tryz.prog 173 = true := by kernel_rfl
theorem hB174 : hasBody Tryz.prog 174 = true := by kernel_rfl
theorem hB178 : hasBody Tryz.prog 178 = true := by kernel_rfl
theorem hB183 : hasBody Tryz.prog 183 = true := by kernel_rfl
theorem hB186 : hasBody Tryz.prog 186 = true := by kernel_rfl
theorem hB187 : hasBody Tryz.prog 187 = true := by kernel_rfl
theorem hB188 : hasBody Tryz.prog 188 = true := by kernel_rfl
theorem hB189 : hasBody Tryz.prog 189 = true := by kernel_rfl
theorem hB190 : hasBody Tryz.prog 190 = true := by kernel_rfl
theorem hB191 : hasBody Tryz.prog 191 = true := by kernel_rfl
theorem hB200 : hasBody Tryz.prog 200 = true := by kernel_rfl
theorem hB210 : hasBody Tryz.prog 210 = true := by kernel_rfl
theorem hB211 : hasBody Tryz.prog 211 = true := by kernel_rfl
theorem hB212 : hasBody Tryz.prog 212 = true := by kernel_rfl
theorem hB215 : hasBody Tryz.prog 215 = true := by kernel_rfl
theorem hB216 : hasBody Tryz.prog 216 = true := by kernel_rfl
theorem hB217 : hasBody Tryz.prog 217 = true := by kernel_rfl
theorem hB218 : hasBody Tryz.prog 218 = true := by kernel_rfl
theorem hB219 : hasBody Tryz.prog 219 = true := by kernel_rfl
theorem hB220 : hasBody Tryz.prog 220 = true := by kernel_rfl
theorem hB221 : hasBody Tryz.prog 221 = true := by kernel_rfl
theorem hB222 : hasBody Tryz.prog 222 = true := by kernel_rfl
theorem hB223 : hasBody Tryz.prog 223 = true := by kernel_rfl
theorem hB241 : hasBody Tryz.prog 241 = true := by kernel_rfl
theorem hB245 : hasBody Tryz.prog 245 = true := by kernel_rfl
theorem hB246 : hasBody Tryz.prog 246 = true := by kernel_rfl
theorem hB247 : hasBody Tryz.prog 247 = true := by kernel_rfl
theorem hB271 : hasBody Tryz.prog 271 = true := by kernel_rfl
theorem hB272 : hasBody Tryz.prog 272 = true := by kernel_rfl
theorem hB273 : hasBody Tryz.prog 273 = true := by kernel_rfl
theorem hB274 : hasBody Tryz.prog 274 = true := by kernel_rfl
theorem hB299 : hasBody Tryz.prog 299 = true := by kernel_rfl
theorem ts2 : tsize Tryz.prog 2 = 1 := by kernel_rfl
theorem tb2 : tbytes Tryz.prog 2 = 8 := by kernel_rfl
theorem zv2 : zval Tryz.prog 2 = .int .i64 0 := by kernel_rfl
theorem zk2 : zok Tryz.prog 2 = true := by kernel_rfl
theorem za2 : zav Tryz.prog 2 = [.int .i64 0] := by kernel_rfl
theorem ts3 : tsize Tryz.prog 3 = 1 := by kernel_rfl
theorem tb3 : tbytes Tryz.prog 3 = 8 := by kernel_rfl
theorem zv3 : zval Tryz.prog 3 = .int .i64 0 := by kernel_rfl
theorem zk3 : zok Tryz.prog 3 = true := by kernel_rfl
theorem za3 : zav Tryz.prog 3 = [.int .i64 0] := by kernel_rfl
theorem ts4 : tsize Tryz.prog 4 = 1 := by kernel_rfl
theorem tb4 : tbytes Tryz.prog 4 = 1 := by kernel_rfl
theorem zv4 : zval Tryz.prog 4 = .bool false := by kernel_rfl
theorem zk4 : zok Tryz.prog 4 = true := by kernel_rfl
theorem za4 : zav Tryz.prog 4 = [.bool false] := by kernel_rfl
theorem ts5 : tsize Tryz.prog 5 = 1 := by kernel_rfl
theorem tb5 : tbytes Tryz.prog 5 = 1 := by kernel_rfl
theorem zv5 : zval Tryz.prog 5 = .int .u8 0 := by kernel_rfl
theorem zk5 : zok Tryz.prog 5 = true := by kernel_rfl
theorem za5 : zav Tryz.prog 5 = [.int .u8 0] := by kernel_rfl
theorem ts9 : tsize Tryz.prog 9 = 1 := by kernel_rfl
theorem tb9 : tbytes Tryz.prog 9 = 16 := by kernel_rfl
theorem zv9 : zval Tryz.prog 9 = .str [] := by kernel_rfl
theorem zk9 : zok Tryz.prog 9 = true := by kernel_rfl
theorem za9 : zav Tryz.prog 9 = [.str []] := by kernel_rfl
theorem ts10 : tsize Tryz.prog 10 = 1 := by kernel_rfl
theorem tb10 : tbytes Tryz.prog 10 = 16 := by kernel_rfl
theorem zv10 : zval Tryz.prog 10 = .str [] := by kernel_rfl
theorem zk10 : zok Tryz.prog 10 = true := by kernel_rfl
theorem za10 : zav Tryz.prog 10 = [.str []] := by kernel_rfl
theorem ts21 : tsize Tryz.prog 21 = 1 := by kernel_rfl
theorem tb21 : tbytes Tryz.prog 21 = 4 := by kernel_rfl
theorem zv21 : zval Tryz.prog 21 = .int .i32 0 := by kernel_rfl
theorem zk21 : zok Tryz.prog 21 = true := by kernel_rfl
theorem za21 : zav Tryz.prog 21 = [.int .i32 0] := by kernel_rfl
theorem ts22 : tsize Tryz.prog 22 = 1 := by kernel_rfl
theorem tb22 : tbytes Tryz.prog 22 = 24 := by kernel_rfl
theorem zv22 : zval Tryz.prog 22 = .raw (.slice none 0 0) := by kernel_rfl
theorem zk22 : zok Tryz.prog 22 = true := by kernel_rfl
theorem za22 : zav Tryz.prog 22 = [.raw (.slice none 0 0)] := by kernel_rfl
theorem ts24 : tsize Tryz.prog 24 = 2 := by kernel_rfl
theorem tb24 : tbytes Tryz.prog 24 = 32 := by kernel_rfl
theorem zv24 : zval Tryz.prog 24 = .agg [.raw (.slice none 0 0), .int .i64 0] := by kernel_rfl
theorem zk24 : zok Tryz.prog 24 = true := by kernel_rfl
theorem za24 : zav Tryz.prog 24 = [.raw (.slice none 0 0), .int .i64 0] := by kernel_rfl
theorem ts25 : tsize Tryz.prog 25 = 2 := by kernel_rfl
theorem tb25 : tbytes Tryz.prog 25 = 32 := by kernel_rfl
theorem zv25 : zval Tryz.prog 25 = .agg [.raw (.slice none 0 0), .int .i64 0] := by kernel_rfl
theorem zk25 : zok Tryz.prog 25 = true := by kernel_rfl
theorem za25 : zav Tryz.prog 25 = [.raw (.slice none 0 0), .int .i64 0] := by kernel_rfl
theorem ts26 : tsize Tryz.prog 26 = 1 := by kernel_rfl
theorem tb26 : tbytes Tryz.prog 26 = 24 := by kernel_rfl
theorem zv26 : zval Tryz.prog 26 = .raw (.slice none 0 0) := by kernel_rfl
theorem zk26 : zok Tryz.prog 26 = true := by kernel_rfl
theorem za26 : zav Tryz.prog 26 = [.raw (.slice none 0 0)] := by kernel_rfl
theorem ts27 : tsize Tryz.prog 27 = 2 := by kernel_rfl
theorem tb27 : tbytes Tryz.prog 27 = 40 := by kernel_rfl
theorem zv27 : zval Tryz.prog 27 = .agg [.str [], .raw (.slice none 0 0)] := by kernel_rfl
theorem zk27 : zok Tryz.prog 27 = true := by kernel_rfl
theorem za27 : zav Tryz.prog 27 = [.str [], .raw (.slice none 0 0)] := by kernel_rfl
theorem ts28 : tsize Tryz.prog 28 = 2 := by kernel_rfl
theorem tb28 : tbytes Tryz.prog 28 = 40 := by kernel_rfl
theorem zv28 : zval Tryz.prog 28 = .agg [.str [], .raw (.slice none 0 0)] := by kernel_rfl
theorem zk28 : zok Tryz.prog 28 = true := by kernel_rfl
theorem za28 : zav Tryz.prog 28 = [.str [], .raw (.slice none 0 0)] := by kernel_rfl
theorem ts29 : tsize Tryz.prog 29 = 1 := by kernel_rfl
theorem tb29 : tbytes Tryz.prog 29 = 24 := by kernel_rfl
theorem zv29 : zval Tryz.prog 29 = .raw (.slice none 0 0) := by kernel_rfl
theorem zk29 : zok Tryz.prog 29 = true := by kernel_rfl
theorem za29 : zav Tryz.prog 29 = [.raw (.slice none 0 0)] := by kernel_rfl
theorem ts30 : tsize Tryz.prog 30 = 1 := by kernel_rfl
theorem tb30 : tbytes Tryz.prog 30 = 24 := by kernel_rfl
theorem zv30 : zval Tryz.prog 30 = .raw (.slice none 0 0) := by kernel_rfl
theorem zk30 : zok Tryz.prog 30 = true := by kernel_rfl
theorem za30 : zav Tryz.prog 30 = [.raw (.slice none 0 0)] := by kernel_rfl
theorem ts33 : tsize Tryz.prog 33 = 1 := by kernel_rfl
theorem tb33 : tbytes Tryz.prog 33 = 24 := by kernel_rfl
theorem zv33 : zval Tryz.prog 33 = .raw (.slice none 0 0) := by kernel_rfl
theorem zk33 : zok Tryz.prog 33 = true := by kernel_rfl
theorem za33 : zav Tryz.prog 33 = [.raw (.slice none 0 0)] := by kernel_rfl
theorem ts34 : tsize Tryz.prog 34 = 5 := by kernel_rfl
theorem tb34 : tbytes Tryz.prog 34 = 72 := by kernel_rfl
theorem zv34 : zval Tryz.prog 34 = .agg [.str [], .int .i64 0, .str [], .int .i64 0, .raw (.slice none 0 0)] := by kernel_rfl
theorem zk34 : zok Tryz.prog 34 = true := by kernel_rfl
theorem za34 : zav Tryz.prog 34 = [.str [], .int .i64 0, .str [], .int .i64 0, .raw (.slice none 0 0)] := by kernel_rfl
theorem ts35 : tsize Tryz.prog 35 = 5 := by kernel_rfl
theorem tb35 : tbytes Tryz.prog 35 = 72 := by kernel_rfl
theorem zv35 : zval Tryz.prog 35 = .agg [.str [], .int .i64 0, .str [], .int .i64 0, .raw (.slice none 0 0)] := by kernel_rfl
theorem zk35 : zok Tryz.prog 35 = true := by kernel_rfl
theorem za35 : zav Tryz.prog 35 = [.str [], .int .i64 0, .str [], .int .i64 0, .raw (.slice none 0 0)] := by kernel_rfl
theorem ts36 : tsize Tryz.prog 36 = 1 := by kernel_rfl
theorem tb36 : tbytes Tryz.prog 36 = 24 := by kernel_rfl
theorem zv36 : zval Tryz.prog 36 = .raw (.slice none 0 0) := by kernel_rfl
theorem zk36 : zok Tryz.prog 36 = true := by kernel_rfl
theorem za36 : zav Tryz.prog 36 = [.raw (.slice none 0 0)] := by kernel_rfl
theorem ts37 : tsize Tryz.prog 37 = 1 := by kernel_rfl
theorem tb37 : tbytes Tryz.prog 37 = 8 := by kernel_rfl
theorem zv37 : zval Tryz.prog 37 = .int .i64 0 := by kernel_rfl
theorem zk37 : zok Tryz.prog 37 = true := by kernel_rfl
theorem za37 : zav Tryz.prog 37 = [.int .i64 0] := by kernel_rfl
theorem ts40 : tsize Tryz.prog 40 = 2 := by kernel_rfl
theorem tb40 : tbytes Tryz.prog 40 = 24 := by kernel_rfl
theorem zv40 : zval Tryz.prog 40 = .agg [.int .i64 0, .str []] := by kernel_rfl
theorem zk40 : zok Tryz.prog 40 = true := by kernel_rfl
theorem za40 : zav Tryz.prog 40 = [.int .i64 0, .str []] := by kernel_rfl
theorem ts41 : tsize Tryz.prog 41 = 2 := by kernel_rfl
theorem tb41 : tbytes Tryz.prog 41 = 24 := by kernel_rfl
theorem zv41 : zval Tryz.prog 41 = .agg [.int .i64 0, .str []] := by kernel_rfl
theorem zk41 : zok Tryz.prog 41 = true := by kernel_rfl
theorem za41 : zav Tryz.prog 41 = [.int .i64 0, .str []] := by kernel_rfl
theorem ts54 : tsize Tryz.prog 54 = 1 := by kernel_rfl
theorem tb54 : tbytes Tryz.prog 54 = 24 := by kernel_rfl
theorem zv54 : zval Tryz.prog 54 = .raw (.slice none 0 0) := by kernel_rfl
theorem zk54 : zok Tryz.prog 54 = true := by kernel_rfl
theorem za54 : zav Tryz.prog 54 = [.raw (.slice none 0 0)] := by kernel_rfl
theorem ts57 : tsize Tryz.prog 57 = 1 := by kernel_rfl
theorem tb57 : tbytes Tryz.prog 57 = 24 := by kernel_rfl
theorem zv57 : zval Tryz.prog 57 = .raw (.slice none 0 0) := by kernel_rfl
theorem zk57 : zok Tryz.prog 57 = true := by kernel_rfl
theorem za57 : zav Tryz.prog 57 = [.raw (.slice none 0 0)] := by kernel_rfl
theorem ts58 : tsize Tryz.prog 58 = 9 := by kernel_rfl
theorem tb58 : tbytes Tryz.prog 58 = 120 := by kernel_rfl
theorem zv58 : zval Tryz.prog 58 = .agg [.str [], .str [], .int .i64 0, .str [], .str [], .int .i64 0, .int .i64 0, .bool false, .raw (.slice none 0 0)] := by kernel_rfl
theorem zk58 : zok Tryz.prog 58 = true := by kernel_rfl
theorem za58 : zav Tryz.prog 58 = [.str [], .str [], .int .i64 0, .str [], .str [], .int .i64 0, .int .i64 0, .bool false, .raw (.slice none 0 0)] := by kernel_rfl
theorem ts59 : tsize Tryz.prog 59 = 9 := by kernel_rfl
theorem tb59 : tbytes Tryz.prog 59 = 120 := by kernel_rfl
theorem zv59 : zval Tryz.prog 59 = .agg [.str [], .str [], .int .i64 0, .str [], .str [], .int .i64 0, .int .i64 0, .bool false, .raw (.slice none 0 0)] := by kernel_rfl
theorem zk59 : zok Tryz.prog 59 = true := by kernel_rfl
theorem za59 : zav Tryz.prog 59 = [.str [], .str [], .int .i64 0, .str [], .str [], .int .i64 0, .int .i64 0, .bool false, .raw (.slice none 0 0)] := by kernel_rfl
theorem ts60 : tsize Tryz.prog 60 = 4 := by kernel_rfl
theorem tb60 : tbytes Tryz.prog 60 = 32 := by kernel_rfl
theorem zv60 : zval Tryz.prog 60 = .agg [.int .i64 0, .int .i64 0, .int .i64 0, .bool false] := by kernel_rfl
theorem zk60 : zok Tryz.prog 60 = true := by kernel_rfl
theorem za60 : zav Tryz.prog 60 = [.int .i64 0, .int .i64 0, .int .i64 0, .bool false] := by kernel_rfl
theorem ts61 : tsize Tryz.prog 61 = 4 := by kernel_rfl
theorem tb61 : tbytes Tryz.prog 61 = 32 := by kernel_rfl
theorem zv61 : zval Tryz.prog 61 = .agg [.int .i64 0, .int .i64 0, .int .i64 0, .bool false] := by kernel_rfl
theorem zk61 : zok Tryz.prog 61 = true := by kernel_rfl
theorem za61 : zav Tryz.prog 61 = [.int .i64 0, .int .i64 0, .int .i64 0, .bool false] := by kernel_rfl
theorem ts62 : tsize Tryz.prog 62 = 3 := by kernel_rfl
theorem tb62 : tbytes Tryz.prog 62 = 24 := by kernel_rfl
theorem zv62 : zval Tryz.prog 62 = .agg [.int .i64 0, .int .i64 0, .int .i64 0] := by kernel_rfl
theorem zk62 : zok Tryz.prog 62 = true := by kernel_rfl
theorem za62 : zav Tryz.prog 62 = [.int .i64 0, .int .i64 0, .int .i64 0] := by kernel_rfl
theorem ts63 : tsize Tryz.prog 63 = 3 := by kernel_rfl
theorem tb63 : tbytes Tryz.prog 63 = 24 := by kernel_rfl
theorem zv63 : zval Tryz.prog 63 = .agg [.int .i64 0, .int .i64 0, .int .i64 0] := by kernel_rfl
theorem zk63 : zok Tryz.prog 63 = true := by kernel_rfl
theorem za63 : zav Tryz.prog 63 = [.int .i64 0, .int .i64 0, .int .i64 0] := by kernel_rfl
theorem ts66 : tsize Tryz.prog 66 = 5 := by kernel_rfl
theorem tb66 : tbytes Tryz.prog 66 = 48 := by kernel_rfl
theorem zv66 : zval Tryz.prog 66 = .agg [.str [], .int .i64 0, .int .i64 0, .int .i64 0, .int .i64 0] := by kernel_rfl
theorem zk66 : zok Tryz.prog 66 = true := by kernel_rfl
theorem za66 : zav Tryz.prog 66 = [.str [], .int .i64 0, .int .i64 0, .int .i64 0, .int .i64 0] := by kernel_rfl
theorem ts67 : tsize Tryz.prog 67 = 5 := by kernel_rfl
theorem tb67 : tbytes Tryz.prog 67 = 48 := by kernel_rfl
theorem zv67 : zval Tryz.prog 67 = .agg [.str [], .int .i64 0, .int .i64 0, .int .i64 0, .int .i64 0] := by kernel_rfl
theorem zk67 : zok Tryz.prog 67 = true := by kernel_rfl
theorem za67 : zav Tryz.prog 67 = [.str [], .int .i64 0, .int .i64 0, .int .i64 0, .int .i64 0] := by kernel_rfl
theorem ts97 : tsize Tryz.prog 97 = 1 := by kernel_rfl
theorem tb97 : tbytes Tryz.prog 97 = 8 := by kernel_rfl
theorem zv97 : zval Tryz.prog 97 = .raw (.map none) := by kernel_rfl
theorem zk97 : zok Tryz.prog 97 = true := by kernel_rfl
theorem za97 : zav Tryz.prog 97 = [.raw (.map none)] := by kernel_rfl
theorem ts101 : tsize Tryz.prog 101 = 1 := by kernel_rfl
theorem tb101 : tbytes Tryz.prog 101 = 8 := by kernel_rfl
theorem zv101 : zval Tryz.prog 101 = .raw (.map none) := by kernel_rfl
theorem zk101 : zok Tryz.prog 101 = true := by kernel_rfl
theorem za101 : zav Tryz.prog 101 = [.raw (.map none)] := by kernel_rfl
theorem ts102 : tsize Tryz.prog 102 = 1 := by kernel_rfl
theorem tb102 : tbytes Tryz.prog 102 = 24 := by kernel_rfl
theorem zv102 : zval Tryz.prog 102 = .raw (.slice none 0 0) := by kernel_rfl
theorem zk102 : zok Tryz.prog 102 = true := by kernel_rfl
theorem za102 : zav Tryz.prog 102 = [.raw (.slice none 0 0)] := by kernel_rfl
theorem ts112 : tsize Tryz.prog 112 = 1 := by kernel_rfl
theorem tb112 : tbytes Tryz.prog 112 = 8 := by kernel_rfl
theorem zv112 : zval Tryz.prog 112 = .raw (.map none) := by kernel_rfl
theorem zk112 : zok Tryz.prog 112 = true := by kernel_rfl
theorem za112 : zav Tryz.prog 112 = [.raw (.map none)] := by kernel_rfl
theorem ts113 : tsize Tryz.prog 113 = 1 := by kernel_rfl
theorem tb113 : tbytes Tryz.prog 113 = 8 := by kernel_rfl
theorem zv113 : zval Tryz.prog 113 = .raw (.map none) := by kernel_rfl
theorem zk113 : zok Tryz.prog 113 = true := by kernel_rfl
theorem za113 : zav Tryz.prog 113 = [.raw (.map none)] := by kernel_rfl
theorem ts114 : tsize Tryz.prog 114 = 1 := by kernel_rfl
theorem tb114 : tbytes Tryz.prog 114 = 24 := by kernel_rfl
theorem zv114 : zval Tryz.prog 114 = .raw (.slice none 0 0) := by kernel_rfl
theorem zk114 : zok Tryz.prog 114 = true := by kernel_rfl
theorem za114 : zav Tryz.prog 114 = [.raw (.slice none 0 0)] := by kernel_rfl
theorem ts118 : tsize Tryz.prog 118 = 2 := by kernel_rfl
theorem tb118 : tbytes Tryz.prog 118 = 16 := by kernel_rfl
theorem zv118 : zval Tryz.prog 118 = .agg [.int .i64 0, .int .i64 0] := by kernel_rfl
theorem zk118 : zok Tryz.prog 118 = true := by kernel_rfl
theorem za118 : zav Tryz.prog 118 = [.int .i64 0, .int .i64 0] := by kernel_rfl
theorem ts130 : tsize Tryz.prog 130 = 1 := by kernel_rfl
theorem tb130 : tbytes Tryz.prog 130 = 24 := by kernel_rfl
theorem zv130 : zval Tryz.prog 130 = .raw (.slice none 0 0) := by kernel_rfl
theorem zk130 : zok Tryz.prog 130 = true := by kernel_rfl
theorem za130 : zav Tryz.prog 130 = [.raw (.slice none 0 0)] := by kernel_rfl
theorem ts131 : tsize Tryz.prog 131 = 2 := by kernel_rfl
theorem tb131 : tbytes Tryz.prog 131 = 32 := by kernel_rfl
theorem zv131 : zval Tryz.prog 131 = .agg [.raw (.pointer none), .raw (.slice none 0 0)] := by kernel_rfl
theorem zk131 : zok Tryz.prog 131 = true := by kernel_rfl
theorem za131 : zav Tryz.prog 131 = [.raw (.pointer none), .raw (.slice none 0 0)] := by kernel_rfl
theorem ts132 : tsize Tryz.prog 132 = 2 := by kernel_rfl
theorem tb132 : tbytes Tryz.prog 132 = 32 := by kernel_rfl
theorem zv132 : zval Tryz.prog 132 = .agg [.raw (.pointer none), .raw (.slice none 0 0)] := by kernel_rfl
theorem zk132 : zok Tryz.prog 132 = true := by kernel_rfl
theorem za132 : zav Tryz.prog 132 = [.raw (.pointer none), .raw (.slice none 0 0)] := by kernel_rfl
theorem ts134 : tsize Tryz.prog 134 = 1 := by kernel_rfl
theorem tb134 : tbytes Tryz.prog 134 = 16 := by kernel_rfl
theorem zv134 : zval Tryz.prog 134 = .raw .nilIface := by kernel_rfl
theorem zk134 : zok Tryz.prog 134 = true := by kernel_rfl
theorem za134 : zav Tryz.prog 134 = [.raw .nilIface] := by kernel_rfl
theorem ts174 : tsize Tryz.prog 174 = 1 := by kernel_rfl
theorem tb174 : tbytes Tryz.prog 174 = 8 := by kernel_rfl
theorem zv174 : zval Tryz.prog 174 = .raw (.map none) := by kernel_rfl
theorem zk174 : zok Tryz.prog 174 = true := by kernel_rfl
theorem za174 : zav Tryz.prog 174 = [.raw (.map none)] := by kernel_rfl
theorem ts175 : tsize Tryz.prog 175 = 1 := by kernel_rfl
theorem tb175 : tbytes Tryz.prog 175 = 8 := by kernel_rfl
theorem zv175 : zval Tryz.prog 175 = .raw (.map none) := by kernel_rfl
theorem zk175 : zok Tryz.prog 175 = true := by kernel_rfl
theorem za175 : zav Tryz.prog 175 = [.raw (.map none)] := by kernel_rfl
theorem ts176 : tsize Tryz.prog 176 = 3 := by kernel_rfl
theorem tb176 : tbytes Tryz.prog 176 = 40 := by kernel_rfl
theorem zv176 : zval Tryz.prog 176 = .agg [.str [], .str [], .int .i64 0] := by kernel_rfl
theorem zk176 : zok Tryz.prog 176 = true := by kernel_rfl
theorem za176 : zav Tryz.prog 176 = [.str [], .str [], .int .i64 0] := by kernel_rfl
theorem ts177 : tsize Tryz.prog 177 = 3 := by kernel_rfl
theorem tb177 : tbytes Tryz.prog 177 = 40 := by kernel_rfl
theorem zv177 : zval Tryz.prog 177 = .agg [.str [], .str [], .int .i64 0] := by kernel_rfl
theorem zk177 : zok Tryz.prog 177 = true := by kernel_rfl
theorem za177 : zav Tryz.prog 177 = [.str [], .str [], .int .i64 0] := by kernel_rfl
theorem ts181 : tsize Tryz.prog 181 = 1 := by kernel_rfl
theorem tb181 : tbytes Tryz.prog 181 = 24 := by kernel_rfl
theorem zv181 : zval Tryz.prog 181 = .raw (.slice none 0 0) := by kernel_rfl
theorem zk181 : zok Tryz.prog 181 = true := by kernel_rfl
theorem za181 : zav Tryz.prog 181 = [.raw (.slice none 0 0)] := by kernel_rfl
theorem ts182 : tsize Tryz.prog 182 = 2 := by kernel_rfl
theorem tb182 : tbytes Tryz.prog 182 = 16 := by kernel_rfl
theorem zv182 : zval Tryz.prog 182 = .agg [.int .i64 0, .int .i64 0] := by kernel_rfl
theorem zk182 : zok Tryz.prog 182 = true := by kernel_rfl
theorem za182 : zav Tryz.prog 182 = [.int .i64 0, .int .i64 0] := by kernel_rfl
theorem ts183 : tsize Tryz.prog 183 = 2 := by kernel_rfl
theorem tb183 : tbytes Tryz.prog 183 = 16 := by kernel_rfl
theorem zv183 : zval Tryz.prog 183 = .agg [.int .i64 0, .int .i64 0] := by kernel_rfl
theorem zk183 : zok Tryz.prog 183 = true := by kernel_rfl
theorem za183 : zav Tryz.prog 183 = [.int .i64 0, .int .i64 0] := by kernel_rfl
theorem ts186 : tsize Tryz.prog 186 = 1 := by kernel_rfl
theorem tb186 : tbytes Tryz.prog 186 = 24 := by kernel_rfl
theorem zv186 : zval Tryz.prog 186 = .raw (.slice none 0 0) := by kernel_rfl
theorem zk186 : zok Tryz.prog 186 = true := by kernel_rfl
theorem za186 : zav Tryz.prog 186 = [.raw (.slice none 0 0)] := by kernel_rfl
theorem ts189 : tsize Tryz.prog 189 = 1 := by kernel_rfl
theorem tb189 : tbytes Tryz.prog 189 = 24 := by kernel_rfl
theorem zv189 : zval Tryz.prog 189 = .raw (.slice none 0 0) := by kernel_rfl
theorem zk189 : zok Tryz.prog 189 = true := by kernel_rfl
theorem za189 : zav Tryz.prog 189 = [.raw (.slice none 0 0)] := by kernel_rfl
theorem ts191 : tsize Tryz.prog 191 = 5 := by kernel_rfl
theorem tb191 : tbytes Tryz.prog 191 = 40 := by kernel_rfl
theorem zv191 : zval Tryz.prog 191 = .agg [.int .i64 0, .int .i64 0, .int .i64 0, .int .i64 0, .bool false] := by kernel_rfl
theorem zk191 : zok Tryz.prog 191 = true := by kernel_rfl
theorem za191 : zav Tryz.prog 191 = [.int .i64 0, .int .i64 0, .int .i64 0, .int .i64 0, .bool false] := by kernel_rfl
theorem ts192 : tsize Tryz.prog 192 = 5 := by kernel_rfl
theorem tb192 : tbytes Tryz.prog 192 = 40 := by kernel_rfl
theorem zv192 : zval Tryz.prog 192 = .agg [.int .i64 0, .int .i64 0, .int .i64 0, .int .i64 0, .bool false] := by kernel_rfl
theorem zk192 : zok Tryz.prog 192 = true := by kernel_rfl
theorem za192 : zav Tryz.prog 192 = [.int .i64 0, .int .i64 0, .int .i64 0, .int .i64 0, .bool false] := by kernel_rfl
theorem ts198 : tsize Tryz.prog 198 = 1 := by kernel_rfl
theorem tb198 : tbytes Tryz.prog 198 = 8 := by kernel_rfl
theorem zv198 : zval Tryz.prog 198 = .raw (.map none) := by kernel_rfl
theorem zk198 : zok Tryz.prog 198 = true := by kernel_rfl
theorem za198 : zav Tryz.prog 198 = [.raw (.map none)] := by kernel_rfl
theorem ts203 : tsize Tryz.prog 203 = 1 := by kernel_rfl
theorem tb203 : tbytes Tryz.prog 203 = 8 := by kernel_rfl
theorem zv203 : zval Tryz.prog 203 = .raw (.pointer none) := by kernel_rfl
theorem zk203 : zok Tryz.prog 203 = true := by kernel_rfl
theorem za203 : zav Tryz.prog 203 = [.raw (.pointer none)] := by kernel_rfl
theorem ts238 : tsize Tryz.prog 238 = 1 := by kernel_rfl
theorem tb238 : tbytes Tryz.prog 238 = 24 := by kernel_rfl
theorem zv238 : zval Tryz.prog 238 = .raw (.slice none 0 0) := by kernel_rfl
theorem zk238 : zok Tryz.prog 238 = true := by kernel_rfl
theorem za238 : zav Tryz.prog 238 = [.raw (.slice none 0 0)] := by kernel_rfl
theorem ts247 : tsize Tryz.prog 247 = 1 := by kernel_rfl
theorem tb247 : tbytes Tryz.prog 247 = 24 := by kernel_rfl
theorem zv247 : zval Tryz.prog 247 = .raw (.slice none 0 0) := by kernel_rfl
theorem zk247 : zok Tryz.prog 247 = true := by kernel_rfl
theorem za247 : zav Tryz.prog 247 = [.raw (.slice none 0 0)] := by kernel_rfl
theorem ts248 : tsize Tryz.prog 248 = 2 := by kernel_rfl
theorem tb248 : tbytes Tryz.prog 248 = 16 := by kernel_rfl
theorem zv248 : zval Tryz.prog 248 = .agg [.int .i64 0, .int .i64 0] := by kernel_rfl
theorem zk248 : zok Tryz.prog 248 = true := by kernel_rfl
theorem za248 : zav Tryz.prog 248 = [.int .i64 0, .int .i64 0] := by kernel_rfl
theorem ts249 : tsize Tryz.prog 249 = 2 := by kernel_rfl
theorem tb249 : tbytes Tryz.prog 249 = 16 := by kernel_rfl
theorem zv249 : zval Tryz.prog 249 = .agg [.int .i64 0, .int .i64 0] := by kernel_rfl
theorem zk249 : zok Tryz.prog 249 = true := by kernel_rfl
theorem za249 : zav Tryz.prog 249 = [.int .i64 0, .int .i64 0] := by kernel_rfl
theorem ts250 : tsize Tryz.prog 250 = 4 := by kernel_rfl
theorem tb250 : tbytes Tryz.prog 250 = 64 := by kernel_rfl
theorem zv250 : zval Tryz.prog 250 = .agg [.raw (.slice none 0 0), .raw (.slice none 0 0), .int .i64 0, .int .i64 0] := by kernel_rfl
theorem zk250 : zok Tryz.prog 250 = true := by kernel_rfl
theorem za250 : zav Tryz.prog 250 = [.raw (.slice none 0 0), .raw (.slice none 0 0), .int .i64 0, .int .i64 0] := by kernel_rfl
theorem ts251 : tsize Tryz.prog 251 = 4 := by kernel_rfl
theorem tb251 : tbytes Tryz.prog 251 = 64 := by kernel_rfl
theorem zv251 : zval Tryz.prog 251 = .agg [.raw (.slice none 0 0), .raw (.slice none 0 0), .int .i64 0, .int .i64 0] := by kernel_rfl
theorem zk251 : zok Tryz.prog 251 = true := by kernel_rfl
theorem za251 : zav Tryz.prog 251 = [.raw (.slice none 0 0), .raw (.slice none 0 0), .int .i64 0, .int .i64 0] := by kernel_rfl
theorem ts258 : tsize Tryz.prog 258 = 1 := by kernel_rfl
theorem tb258 : tbytes Tryz.prog 258 = 8 := by kernel_rfl
theorem zv258 : zval Tryz.prog 258 = .raw (.pointer none) := by kernel_rfl
theorem zk258 : zok Tryz.prog 258 = true := by kernel_rfl
theorem za258 : zav Tryz.prog 258 = [.raw (.pointer none)] := by kernel_rfl
theorem ts260 : tsize Tryz.prog 260 = 1 := by kernel_rfl
theorem tb260 : tbytes Tryz.prog 260 = 8 := by kernel_rfl
theorem zv260 : zval Tryz.prog 260 = .int .u64 0 := by kernel_rfl
theorem zk260 : zok Tryz.prog 260 = true := by kernel_rfl
theorem za260 : zav Tryz.prog 260 = [.int .u64 0] := by kernel_rfl
theorem ts265 : tsize Tryz.prog 265 = 5 := by kernel_rfl
theorem tb265 : tbytes Tryz.prog 265 = 40 := by kernel_rfl
theorem zv265 : zval Tryz.prog 265 = .agg [.int .i64 0, .int .i64 0, .int .i64 0, .int .i64 0, .int .i64 0] := by kernel_rfl
theorem zk265 : zok Tryz.prog 265 = true := by kernel_rfl
theorem za265 : zav Tryz.prog 265 = [.int .i64 0, .int .i64 0, .int .i64 0, .int .i64 0, .int .i64 0] := by kernel_rfl
theorem ts292 : tsize Tryz.prog 292 = 1 := by kernel_rfl
theorem tb292 : tbytes Tryz.prog 292 = 24 := by kernel_rfl
theorem zv292 : zval Tryz.prog 292 = .raw (.slice none 0 0) := by kernel_rfl
theorem zk292 : zok Tryz.prog 292 = true := by kernel_rfl
theorem za292 : zav Tryz.prog 292 = [.raw (.slice none 0 0)] := by kernel_rfl
theorem ts293 : tsize Tryz.prog 293 = 1 := by kernel_rfl
theorem tb293 : tbytes Tryz.prog 293 = 2 := by kernel_rfl
theorem zv293 : zval Tryz.prog 293 = .int .u16 0 := by kernel_rfl
theorem zk293 : zok Tryz.prog 293 = true := by kernel_rfl
theorem za293 : zav Tryz.prog 293 = [.int .u16 0] := by kernel_rfl
theorem ts295 : tsize Tryz.prog 295 = 1 := by kernel_rfl
theorem tb295 : tbytes Tryz.prog 295 = 4 := by kernel_rfl
theorem zv295 : zval Tryz.prog 295 = .int .u32 0 := by kernel_rfl
theorem zk295 : zok Tryz.prog 295 = true := by kernel_rfl
theorem za295 : zav Tryz.prog 295 = [.int .u32 0] := by kernel_rfl
theorem ts298 : tsize Tryz.prog 298 = 1 := by kernel_rfl
theorem tb298 : tbytes Tryz.prog 298 = 8 := by kernel_rfl
theorem zv298 : zval Tryz.prog 298 = .int .u64 0 := by kernel_rfl
theorem zk298 : zok Tryz.prog 298 = true := by kernel_rfl
theorem za298 : zav Tryz.prog 298 = [.int .u64 0] := by kernel_rfl
theorem ts312 : tsize Tryz.prog 312 = 1 := by kernel_rfl
theorem tb312 : tbytes Tryz.prog 312 = 8 := by kernel_rfl
theorem zv312 : zval Tryz.prog 312 = .int .i64 0 := by kernel_rfl
theorem zk312 : zok Tryz.prog 312 = true := by kernel_rfl
theorem za312 : zav Tryz.prog 312 = [.int .i64 0] := by kernel_rfl
theorem ts333 : tsize Tryz.prog 333 = 24 := by kernel_rfl
theorem tb333 : tbytes Tryz.prog 333 = 24 := by kernel_rfl
theorem ts343 : tsize Tryz.prog 343 = 3 := by kernel_rfl
theorem tb343 : tbytes Tryz.prog 343 = 48 := by kernel_rfl
theorem zv343 : zval Tryz.prog 343 = .agg [.str [], .str [], .raw .nilIface] := by kernel_rfl
theorem zk343 : zok Tryz.prog 343 = true := by kernel_rfl
theorem za343 : zav Tryz.prog 343 = [.str [], .str [], .raw .nilIface] := by kernel_rfl
theorem ts344 : tsize Tryz.prog 344 = 3 := by kernel_rfl
theorem tb344 : tbytes Tryz.prog 344 = 48 := by kernel_rfl
theorem zv344 : zval Tryz.prog 344 = .agg [.str [], .str [], .raw .nilIface] := by kernel_rfl
theorem zk344 : zok Tryz.prog 344 = true := by kernel_rfl
theorem za344 : zav Tryz.prog 344 = [.str [], .str [], .raw .nilIface] := by kernel_rfl
theorem ts346 : tsize Tryz.prog 346 = 1 := by kernel_rfl
theorem tb346 : tbytes Tryz.prog 346 = 24 := by kernel_rfl
theorem zv346 : zval Tryz.prog 346 = .raw (.slice none 0 0) := by kernel_rfl
theorem zk346 : zok Tryz.prog 346 = true := by kernel_rfl
theorem za346 : zav Tryz.prog 346 = [.raw (.slice none 0 0)] := by kernel_rfl
theorem ts347 : tsize Tryz.prog 347 = 2 := by kernel_rfl
theorem tb347 : tbytes Tryz.prog 347 = 16 := by kernel_rfl
theorem zv347 : zval Tryz.prog 347 = .agg [.int .i64 0, .int .i64 0] := by kernel_rfl
theorem zk347 : zok Tryz.prog 347 = true := by kernel_rfl
theorem za347 : zav Tryz.prog 347 = [.int .i64 0, .int .i64 0] := by kernel_rfl
theorem ts348 : tsize Tryz.prog 348 = 2 := by kernel_rfl
theorem tb348 : tbytes Tryz.prog 348 = 16 := by kernel_rfl
theorem zv348 : zval Tryz.prog 348 = .agg [.int .i64 0, .int .i64 0] := by kernel_rfl
theorem zk348 : zok Tryz.prog 348 = true := by kernel_rfl
theorem za348 : zav Tryz.prog 348 = [.int .i64 0, .int .i64 0] := by kernel_rfl
theorem ts350 : tsize Tryz.prog 350 = 1 := by kernel_rfl
theorem tb350 : tbytes Tryz.prog 350 = 8 := by kernel_rfl
theorem zv350 : zval Tryz.prog 350 = .raw (.pointer none) := by kernel_rfl
theorem zk350 : zok Tryz.prog 350 = true := by kernel_rfl
theorem za350 : zav Tryz.prog 350 = [.raw (.pointer none)] := by kernel_rfl
theorem ts358 : tsize Tryz.prog 358 = 20 := by kernel_rfl
theorem tb358 : tbytes Tryz.prog 358 = 160 := by kernel_rfl
theorem ts360 : tsize Tryz.prog 360 = 2 := by kernel_rfl
theorem tb360 : tbytes Tryz.prog 360 = 2 := by kernel_rfl
theorem zv360 : zval Tryz.prog 360 = .agg [.int .u8 0, .int .u8 0] := by kernel_rfl
theorem zk360 : zok Tryz.prog 360 = true := by kernel_rfl
theorem za360 : zav Tryz.prog 360 = [.int .u8 0, .int .u8 0] := by kernel_rfl
theorem ts361 : tsize Tryz.prog 361 = 2 := by kernel_rfl
theorem tb361 : tbytes Tryz.prog 361 = 2 := by kernel_rfl
theorem zv361 : zval Tryz.prog 361 = .agg [.int .u8 0, .int .u8 0] := by kernel_rfl
theorem zk361 : zok Tryz.prog 361 = true := by kernel_rfl
theorem za361 : zav Tryz.prog 361 = [.int .u8 0, .int .u8 0] := by kernel_rfl
theorem ts362 : tsize Tryz.prog 362 = 32 := by kernel_rfl
theorem tb362 : tbytes Tryz.prog 362 = 32 := by kernel_rfl
theorem ts367 : tsize Tryz.prog 367 = 1 := by kernel_rfl
theorem tb367 : tbytes Tryz.prog 367 = 16 := by kernel_rfl
theorem zv367 : zval Tryz.prog 367 = .agg [.str []] := by kernel_rfl
theorem zk367 : zok Tryz.prog 367 = true := by kernel_rfl
theorem za367 : zav Tryz.prog 367 = [.str []] := by kernel_rfl
theorem ts368 : tsize Tryz.prog 368 = 1 := by kernel_rfl
theorem tb368 : tbytes Tryz.prog 368 = 16 := by kernel_rfl
theorem zv368 : zval Tryz.prog 368 = .agg [.str []] := by kernel_rfl
theorem zk368 : zok Tryz.prog 368 = true := by kernel_rfl
theorem za368 : zav Tryz.prog 368 = [.str []] := by kernel_rfl
theorem ts369 : tsize Tryz.prog 369 = 1 := by kernel_rfl
theorem tb369 : tbytes Tryz.prog 369 = 24 := by kernel_rfl
theorem zv369 : zval Tryz.prog 369 = .raw (.slice none 0 0) := by kernel_rfl
theorem zk369 : zok Tryz.prog 369 = true := by kernel_rfl
theorem za369 : zav Tryz.prog 369 = [.raw (.slice none 0 0)] := by kernel_rfl
theorem ts370 : tsize Tryz.prog 370 = 1 := by kernel_rfl
theorem tb370 : tbytes Tryz.prog 370 = 24 := by kernel_rfl
theorem zv370 : zval Tryz.prog 370 = .raw (.slice none 0 0) := by kernel_rfl
theorem zk370 : zok Tryz.prog 370 = true := by kernel_rfl
theorem za370 : zav Tryz.prog 370 = [.raw (.slice none 0 0)] := by kernel_rfl
theorem ts371 : tsize Tryz.prog 371 = 3 := by kernel_rfl
theorem tb371 : tbytes Tryz.prog 371 = 56 := by kernel_rfl
theorem zv371 : zval Tryz.prog 371 = .agg [.raw (.slice none 0 0), .raw (.slice none 0 0), .int .i64 0] := by kernel_rfl
theorem zk371 : zok Tryz.prog 371 = true := by kernel_rfl
theorem za371 : zav Tryz.prog 371 = [.raw (.slice none 0 0), .raw (.slice none 0 0), .int .i64 0] := by kernel_rfl
theorem ts372 : tsize Tryz.prog 372 = 3 := by kernel_rfl
theorem tb372 : tbytes Tryz.prog 372 = 56 := by kernel_rfl
theorem zv372 : zval Tryz.prog 372 = .agg [.raw (.slice none 0 0), .raw (.slice none 0 0), .int .i64 0] := by kernel_rfl
theorem zk372 : zok Tryz.prog 372 = true := by kernel_rfl
theorem za372 : zav Tryz.prog 372 = [.raw (.slice none 0 0), .raw (.slice none 0 0), .int .i64 0] := by kernel_rfl
theorem ts373 : tsize Tryz.prog 373 = 3 := by kernel_rfl
theorem tb373 : tbytes Tryz.prog 373 = 6 := by kernel_rfl
theorem zv373 : zval Tryz.prog 373 = .agg [.int .u16 0, .int .u16 0, .int .u16 0] := by kernel_rfl
theorem zk373 : zok Tryz.prog 373 = true := by kernel_rfl
theorem za373 : zav Tryz.prog 373 = [.int .u16 0, .int .u16 0, .int .u16 0] := by kernel_rfl
theorem ts374 : tsize Tryz.prog 374 = 3 := by kernel_rfl
theorem tb374 : tbytes Tryz.prog 374 = 6 := by kernel_rfl
theorem zv374 : zval Tryz.prog 374 = .agg [.int .u16 0, .int .u16 0, .int .u16 0] := by kernel_rfl
theorem zk374 : zok Tryz.prog 374 = true := by kernel_rfl
theorem za374 : zav Tryz.prog 374 = [.int .u16 0, .int .u16 0, .int .u16 0] := by kernel_rfl
theorem ts376 : tsize Tryz.prog 376 = 3 := by kernel_rfl
theorem tb376 : tbytes Tryz.prog 376 = 12 := by kernel_rfl
theorem zv376 : zval Tryz.prog 376 = .agg [.int .u32 0, .int .u32 0, .int .u32 0] := by kernel_rfl
theorem zk376 : zok Tryz.prog 376 = true := by kernel_rfl
theorem za376 : zav Tryz.prog 376 = [.int .u32 0, .int .u32 0, .int .u32 0] := by kernel_rfl
theorem ts377 : tsize Tryz.prog 377 = 3 := by kernel_rfl
theorem tb377 : tbytes Tryz.prog 377 = 12 := by kernel_rfl
theorem zv377 : zval Tryz.prog 377 = .agg [.int .u32 0, .int .u32 0, .int .u32 0] := by kernel_rfl
theorem zk377 : zok Tryz.prog 377 = true := by kernel_rfl
theorem za377 : zav Tryz.prog 377 = [.int .u32 0, .int .u32 0, .int .u32 0] := by kernel_rfl
theorem ts382 : tsize Tryz.prog 382 = 1 := by kernel_rfl
theorem tb382 : tbytes Tryz.prog 382 = 8 := by kernel_rfl
theorem zv382 : zval Tryz.prog 382 = .raw (.pointer none) := by kernel_rfl
theorem zk382 : zok Tryz.prog 382 = true := by kernel_rfl
theorem za382 : zav Tryz.prog 382 = [.raw (.pointer none)] := by kernel_rfl
theorem ts383 : tsize Tryz.prog 383 = 1 := by kernel_rfl
theorem tb383 : tbytes Tryz.prog 383 = 8 := by kernel_rfl
theorem zv383 : zval Tryz.prog 383 = .raw (.pointer none) := by kernel_rfl
theorem zk383 : zok Tryz.prog 383 = true := by kernel_rfl
theorem za383 : zav Tryz.prog 383 = [.raw (.pointer none)] := by kernel_rfl
theorem ts384 : tsize Tryz.prog 384 = 32 := by kernel_rfl
theorem tb384 : tbytes Tryz.prog 384 = 32 := by kernel_rfl
theorem ts385 : tsize Tryz.prog 385 = 64 := by kernel_rfl
theorem tb385 : tbytes Tryz.prog 385 = 64 := by kernel_rfl
end Go.Proofs.YtkfpiadgjbhcpaaGreatDoor
