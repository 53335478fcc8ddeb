/- Closed facts of this seat's program, written by a program of this seat: which functions have a body; cells, bytes and zero values of types. -/
import Derived.Test.YtkomcdohejibmaaGreatDoorProg
import Derived.Test.YtkomcdohejibmaaGreatDoorY15
import Derived.Test.YtkomcdohejibmaaGreatDoorY19
set_option maxRecDepth 100000
set_option linter.unusedVariables false
namespace Go.Proofs.YtkomcdohejibmaaGreatDoor
open Go Go.Av Go.RowKit
theorem mixed : Tryz.prog.follows .mixedOrders = true := by kernel_rfl
theorem hB3 : hasBody Tryz.prog 3 = true := by kernel_rfl
theorem hB8 : hasBody Tryz.prog 8 = true := by kernel_rfl
theorem hB9 : hasBody Tryz.prog 9 = true := by kernel_rfl
theorem hB10 : hasBody Tryz.prog 10 = true := by kernel_rfl
theorem hB11 : hasBody Tryz.prog 11 = true := by kernel_rfl
theorem hB12 : hasBody Tryz.prog 12 = true := by kernel_rfl
theorem hB13 : hasBody Tryz.prog 13 = true := by kernel_rfl
theorem hB14 : hasBody Tryz.prog 14 = true := by kernel_rfl
theorem hB20 : hasBody Tryz.prog 20 = true := by kernel_rfl
theorem hB29 : hasBody Tryz.prog 29 = true := by kernel_rfl
theorem hB30 : hasBody Tryz.prog 30 = true := by kernel_rfl
theorem hB31 : hasBody Tryz.prog 31 = true := by kernel_rfl
theorem hB32 : hasBody Tryz.prog 32 = true := by kernel_rfl
theorem hB33 : hasBody Tryz.prog 33 = true := by kernel_rfl
theorem hB34 : hasBody Tryz.prog 34 = true := by kernel_rfl
theorem hB35 : hasBody Tryz.prog 35 = true := by kernel_rfl
theorem hB36 : hasBody Tryz.prog 36 = true := by kernel_rfl
theorem hB37 : hasBody Tryz.prog 37 = true := by kernel_rfl
theorem hB38 : hasBody Tryz.prog 38 = true := by kernel_rfl
theorem hB39 : hasBody Tryz.prog 39 = true := by kernel_rfl
theorem hB40 : hasBody Tryz.prog 40 = true := by kernel_rfl
theorem hB41 : hasBody Tryz.prog 41 = true := by kernel_rfl
theorem hB42 : hasBody Tryz.prog 42 = true := by kernel_rfl
theorem hB43 : hasBody Tryz.prog 43 = true := by kernel_rfl
theorem hB44 : hasBody Tryz.prog 44 = true := by kernel_rfl
theorem hB45 : hasBody Tryz.prog 45 = true := by kernel_rfl
theorem hB46 : hasBody Tryz.prog 46 = true := by kernel_rfl
theorem hB47 : hasBody Tryz.prog 47 = true := by kernel_rfl
theorem hB48 : hasBody Tryz.prog 48 = true := by kernel_rfl
theorem hB49 : hasBody Tryz.prog 49 = true := by kernel_rfl
theorem hB50 : hasBody Tryz.prog 50 = true := by kernel_rfl
theorem hB51 : hasBody Tryz.prog 51 = true := by kernel_rfl
theorem hB52 : hasBody Tryz.prog 52 = true := by kernel_rfl
theorem hB53 : hasBody Tryz.prog 53 = true := by kernel_rfl
theorem hB56 : hasBody Tryz.prog 56 = true := by kernel_rfl
theorem hB58 : hasBody Tryz.prog 58 = true := by kernel_rfl
theorem hB60 : hasBody Tryz.prog 60 = true := by kernel_rfl
theorem hB65 : hasBody Tryz.prog 65 = true := by kernel_rfl
theorem hB66 : hasBody Tryz.prog 66 = true := by kernel_rfl
theorem hB68 : hasBody Tryz.prog 68 = true := by kernel_rfl
theorem hB69 : hasBody Tryz.prog 69 = true := by kernel_rfl
theorem hB71 : hasBody Tryz.prog 71 = true := by kernel_rfl
theorem hB75 : hasBody Tryz.prog 75 = true := by kernel_rfl
theorem hB76 : hasBody Tryz.prog 76 = true := by kernel_rfl
theorem hB77 : hasBody Tryz.prog 77 = true := by kernel_rfl
theorem hB78 : hasBody Tryz.prog 78 = true := by kernel_rfl
theorem hB79 : hasBody Tryz.prog 79 = true := by kernel_rfl
theorem hB80 : hasBody Tryz.prog 80 = true := by kernel_rfl
theorem hB81 : hasBody Tryz.prog 81 = true := by kernel_rfl
theorem hB82 : hasBody Tryz.prog 82 = true := by kernel_rfl
theorem hB83 : hasBody Tryz.prog 83 = true := by kernel_rfl
theorem hB84 : hasBody Tryz.prog 84 = true := by kernel_rfl
theorem hB85 : hasBody Tryz.prog 85 = true := by kernel_rfl
theorem hB86 : hasBody Tryz.prog 86 = true := by kernel_rfl
theorem hB87 : hasBody Tryz.prog 87 = true := by kernel_rfl
theorem hB88 : hasBody Tryz.prog 88 = true := by kernel_rfl
theorem hB89 : hasBody Tryz.prog 89 = true := by kernel_rfl
theorem hB90 : hasBody Tryz.prog 90 = true := by kernel_rfl
theorem hB91 : hasBody Tryz.prog 91 = true := by kernel_rfl
theorem hB92 : hasBody Tryz.prog 92 = true := by kernel_rfl
theorem hB95 : hasBody Tryz.prog 95 = true := by kernel_rfl
theorem hB96 : hasBody Tryz.prog 96 = true := by kernel_rfl
theorem hB97 : hasBody Tryz.prog 97 = true := by kernel_rfl
theorem hB98 : hasBody Tryz.prog 98 = true := by kernel_rfl
theorem hB99 : hasBody Tryz.prog 99 = true := by kernel_rfl
theorem hB100 : hasBody Tryz.prog 100 = true := by kernel_rfl
theorem hB101 : hasBody Tryz.prog 101 = true := by kernel_rfl
theorem hB102 : hasBody Tryz.prog 102 = true := by kernel_rfl
theorem hB103 : hasBody Tryz.prog 103 = true := by kernel_rfl
theorem hB104 : hasBody Tryz.prog 104 = true := by kernel_rfl
theorem hB105 : hasBody Tryz.prog 105 = true := by kernel_rfl
theorem hB106 : hasBody Tryz.prog 106 = true := by kernel_rfl
theorem hB107 : hasBody Tryz.prog 107 = true := by kernel_rfl
theorem hB108 : hasBody Tryz.prog 108 = true := by kernel_rfl
theorem hB109 : hasBody Tryz.prog 109 = true := by kernel_rfl
theorem hB110 : hasBody Tryz.prog 110 = true := by kernel_rfl
theorem hB111 : hasBody Tryz.prog 111 = true := by kernel_rfl
theorem hB113 : hasBody Tryz.prog 113 = true := by kernel_rfl
theorem hB114 : hasBody Tryz.prog 114 = true := by kernel_rfl
theorem hB120 : hasBody Tryz.prog 120 = true := by kernel_rfl
theorem hB121 : hasBody Tryz.prog 121 = true := by kernel_rfl
theorem hB122 : hasBody Tryz.prog 122 = true := by kernel_rfl
theorem hB129 : hasBody Tryz.prog 129 = true := by kernel_rfl
theorem hB130 : hasBody Tryz.prog 130 = true := by kernel_rfl
theorem hB131 : hasBody Tryz.prog 131 = true := by kernel_rfl
theorem hB132 : hasBody Tryz.prog 132 = true := by kernel_rfl
theorem hB133 : hasBody Tryz.prog 133 = true := by kernel_rfl
theorem hB134 : hasBody Tryz.prog 134 = true := by kernel_rfl
theorem hB135 : hasBody Tryz.prog 135 = true := by kernel_rfl
theorem hB136 : hasBody Tryz.prog 136 = true := by kernel_rfl
theorem hB139 : hasBody Tryz.prog 139 = true := by kernel_rfl
theorem hB140 : hasBody Tryz.prog 140 = true := by kernel_rfl
theorem hB141 : hasBody Tryz.prog 141 = true := by kernel_rfl
theorem hB142 : hasBody Tryz.prog 142 = true := by kernel_rfl
theorem hB153 : hasBody Tryz.prog 153 = true := by kernel_rfl
theorem hB155 : hasBody Tryz.prog 155 = true := by kernel_rfl
theorem hB156 : hasBody Tryz.prog 156 = true := by kernel_rfl
theorem hB157 : hasBody Tryz.prog 157 = true := by kernel_rfl
theorem hB158 : hasBody Tryz.prog 158 = true := by kernel_rfl
theorem hB159 : hasBody Tryz.prog 159 = true := by kernel_rfl
theorem hB160 : hasBody Tryz.prog 160 = true := by kernel_rfl
theorem hB161 : hasBody Tryz.prog 161 = true := by kernel_rfl
theorem hB162 : hasBody Tryz.prog 162 = true := by kernel_rfl
theorem hB163 : hasBody Tryz.prog 163 = true := by kernel_rfl
theorem hB165 : hasBody Tryz.prog 165 = true := by kernel_rfl
theorem hB166 : hasBody Tryz.prog 166 = true := by kernel_rfl
theorem hB174 : hasBody Tryz.prog 174 = true := by kernel_rfl
theorem hB175 : hasBody Tryz.prog 175 = true := by kernel_rfl
theorem hB176 : hasBody Tryz.prog 176 = true := by kernel_rfl
theorem hB185 : hasBody Tryz.prog 185 = true := by kernel_rfl
theorem hB187 : hasBody Tryz.prog 187 = true := by kernel_rfl
theorem hB207 : hasBody Tryz.prog 207 = true := by kernel_rfl
theorem hB208 : hasBody Tryz.prog 208 = true := by kernel_rfl
theorem hB229 : hasBody Tryz.prog 229 = true := by kernel_rfl
theorem ts2 : tsize Tryz.prog 2 = 1 := by kernel_rfl
theorem tb2 : tbytes Tryz.prog 2 = 8 := by kernel_rfl
theorem zv2 : zval Tryz.prog 2 = .int .i64 0 := by kernel_rfl
theorem zk2 : zok Tryz.prog 2 = true := by kernel_rfl
theorem za2 : zav Tryz.prog 2 = [.int .i64 0] := by kernel_rfl
theorem ts3 : tsize Tryz.prog 3 = 1 := by kernel_rfl
theorem tb3 : tbytes Tryz.prog 3 = 8 := by kernel_rfl
theorem zv3 : zval Tryz.prog 3 = .int .i64 0 := by kernel_rfl
theorem zk3 : zok Tryz.prog 3 = true := by kernel_rfl
theorem za3 : zav Tryz.prog 3 = [.int .i64 0] := by kernel_rfl
theorem ts4 : tsize Tryz.prog 4 = 1 := by kernel_rfl
theorem tb4 : tbytes Tryz.prog 4 = 1 := by kernel_rfl
theorem zv4 : zval Tryz.prog 4 = .bool false := by kernel_rfl
theorem zk4 : zok Tryz.prog 4 = true := by kernel_rfl
theorem za4 : zav Tryz.prog 4 = [.bool false] := by kernel_rfl
theorem ts5 : tsize Tryz.prog 5 = 1 := by kernel_rfl
theorem tb5 : tbytes Tryz.prog 5 = 1 := by kernel_rfl
theorem zv5 : zval Tryz.prog 5 = .int .u8 0 := by kernel_rfl
theorem zk5 : zok Tryz.prog 5 = true := by kernel_rfl
theorem za5 : zav Tryz.prog 5 = [.int .u8 0] := by kernel_rfl
theorem ts6 : tsize Tryz.prog 6 = 1 := by kernel_rfl
theorem tb6 : tbytes Tryz.prog 6 = 1 := by kernel_rfl
theorem zv6 : zval Tryz.prog 6 = .int .u8 0 := by kernel_rfl
theorem zk6 : zok Tryz.prog 6 = true := by kernel_rfl
theorem za6 : zav Tryz.prog 6 = [.int .u8 0] := by kernel_rfl
theorem ts7 : tsize Tryz.prog 7 = 4 := by kernel_rfl
theorem tb7 : tbytes Tryz.prog 7 = 24 := by kernel_rfl
theorem zv7 : zval Tryz.prog 7 = .agg [.int .i64 0, .int .i64 0, .bool false, .int .u8 0] := by kernel_rfl
theorem zk7 : zok Tryz.prog 7 = true := by kernel_rfl
theorem za7 : zav Tryz.prog 7 = [.int .i64 0, .int .i64 0, .bool false, .int .u8 0] := by kernel_rfl
theorem ts8 : tsize Tryz.prog 8 = 4 := by kernel_rfl
theorem tb8 : tbytes Tryz.prog 8 = 24 := by kernel_rfl
theorem zv8 : zval Tryz.prog 8 = .agg [.int .i64 0, .int .i64 0, .bool false, .int .u8 0] := by kernel_rfl
theorem zk8 : zok Tryz.prog 8 = true := by kernel_rfl
theorem za8 : zav Tryz.prog 8 = [.int .i64 0, .int .i64 0, .bool false, .int .u8 0] := by kernel_rfl
theorem ts9 : tsize Tryz.prog 9 = 1 := by kernel_rfl
theorem tb9 : tbytes Tryz.prog 9 = 16 := by kernel_rfl
theorem zv9 : zval Tryz.prog 9 = .str [] := by kernel_rfl
theorem zk9 : zok Tryz.prog 9 = true := by kernel_rfl
theorem za9 : zav Tryz.prog 9 = [.str []] := by kernel_rfl
theorem ts10 : tsize Tryz.prog 10 = 1 := by kernel_rfl
theorem tb10 : tbytes Tryz.prog 10 = 16 := by kernel_rfl
theorem zv10 : zval Tryz.prog 10 = .str [] := by kernel_rfl
theorem zk10 : zok Tryz.prog 10 = true := by kernel_rfl
theorem za10 : zav Tryz.prog 10 = [.str []] := by kernel_rfl
theorem ts11 : tsize Tryz.prog 11 = 1 := by kernel_rfl
theorem tb11 : tbytes Tryz.prog 11 = 16 := by kernel_rfl
theorem zv11 : zval Tryz.prog 11 = .str [] := by kernel_rfl
theorem zk11 : zok Tryz.prog 11 = true := by kernel_rfl
theorem za11 : zav Tryz.prog 11 = [.str []] := by kernel_rfl
theorem ts12 : tsize Tryz.prog 12 = 1 := by kernel_rfl
theorem tb12 : tbytes Tryz.prog 12 = 8 := by kernel_rfl
theorem zv12 : zval Tryz.prog 12 = .int .u64 0 := by kernel_rfl
theorem zk12 : zok Tryz.prog 12 = true := by kernel_rfl
theorem za12 : zav Tryz.prog 12 = [.int .u64 0] := by kernel_rfl
theorem ts13 : tsize Tryz.prog 13 = 2 := by kernel_rfl
theorem tb13 : tbytes Tryz.prog 13 = 24 := by kernel_rfl
theorem zv13 : zval Tryz.prog 13 = .agg [.str [], .int .u64 0] := by kernel_rfl
theorem zk13 : zok Tryz.prog 13 = true := by kernel_rfl
theorem za13 : zav Tryz.prog 13 = [.str [], .int .u64 0] := by kernel_rfl
theorem ts14 : tsize Tryz.prog 14 = 2 := by kernel_rfl
theorem tb14 : tbytes Tryz.prog 14 = 24 := by kernel_rfl
theorem zv14 : zval Tryz.prog 14 = .agg [.str [], .int .u64 0] := by kernel_rfl
theorem zk14 : zok Tryz.prog 14 = true := by kernel_rfl
theorem za14 : zav Tryz.prog 14 = [.str [], .int .u64 0] := by kernel_rfl
theorem ts18 : tsize Tryz.prog 18 = 1 := by kernel_rfl
theorem tb18 : tbytes Tryz.prog 18 = 8 := by kernel_rfl
theorem zv18 : zval Tryz.prog 18 = .agg [.raw (.pointer none)] := by kernel_rfl
theorem zk18 : zok Tryz.prog 18 = true := by kernel_rfl
theorem za18 : zav Tryz.prog 18 = [.raw (.pointer none)] := by kernel_rfl
theorem ts19 : tsize Tryz.prog 19 = 1 := by kernel_rfl
theorem tb19 : tbytes Tryz.prog 19 = 8 := by kernel_rfl
theorem zv19 : zval Tryz.prog 19 = .agg [.raw (.pointer none)] := by kernel_rfl
theorem zk19 : zok Tryz.prog 19 = true := by kernel_rfl
theorem za19 : zav Tryz.prog 19 = [.raw (.pointer none)] := by kernel_rfl
theorem ts21 : tsize Tryz.prog 21 = 1 := by kernel_rfl
theorem tb21 : tbytes Tryz.prog 21 = 4 := by kernel_rfl
theorem zv21 : zval Tryz.prog 21 = .int .i32 0 := by kernel_rfl
theorem zk21 : zok Tryz.prog 21 = true := by kernel_rfl
theorem za21 : zav Tryz.prog 21 = [.int .i32 0] := by kernel_rfl
theorem ts22 : tsize Tryz.prog 22 = 1 := by kernel_rfl
theorem tb22 : tbytes Tryz.prog 22 = 24 := by kernel_rfl
theorem zv22 : zval Tryz.prog 22 = .raw (.slice none 0 0) := by kernel_rfl
theorem zk22 : zok Tryz.prog 22 = true := by kernel_rfl
theorem za22 : zav Tryz.prog 22 = [.raw (.slice none 0 0)] := by kernel_rfl
theorem ts24 : tsize Tryz.prog 24 = 2 := by kernel_rfl
theorem tb24 : tbytes Tryz.prog 24 = 32 := by kernel_rfl
theorem zv24 : zval Tryz.prog 24 = .agg [.raw (.slice none 0 0), .int .i64 0] := by kernel_rfl
theorem zk24 : zok Tryz.prog 24 = true := by kernel_rfl
theorem za24 : zav Tryz.prog 24 = [.raw (.slice none 0 0), .int .i64 0] := by kernel_rfl
theorem ts25 : tsize Tryz.prog 25 = 2 := by kernel_rfl
theorem tb25 : tbytes Tryz.prog 25 = 32 := by kernel_rfl
theorem zv25 : zval Tryz.prog 25 = .agg [.raw (.slice none 0 0), .int .i64 0] := by kernel_rfl
theorem zk25 : zok Tryz.prog 25 = true := by kernel_rfl
theorem za25 : zav Tryz.prog 25 = [.raw (.slice none 0 0), .int .i64 0] := by kernel_rfl
theorem ts26 : tsize Tryz.prog 26 = 1 := by kernel_rfl
theorem tb26 : tbytes Tryz.prog 26 = 24 := by kernel_rfl
theorem zv26 : zval Tryz.prog 26 = .raw (.slice none 0 0) := by kernel_rfl
theorem zk26 : zok Tryz.prog 26 = true := by kernel_rfl
theorem za26 : zav Tryz.prog 26 = [.raw (.slice none 0 0)] := by kernel_rfl
theorem ts28 : tsize Tryz.prog 28 = 1 := by kernel_rfl
theorem tb28 : tbytes Tryz.prog 28 = 8 := by kernel_rfl
theorem zv28 : zval Tryz.prog 28 = .int .i64 0 := by kernel_rfl
theorem zk28 : zok Tryz.prog 28 = true := by kernel_rfl
theorem za28 : zav Tryz.prog 28 = [.int .i64 0] := by kernel_rfl
theorem ts32 : tsize Tryz.prog 32 = 1 := by kernel_rfl
theorem tb32 : tbytes Tryz.prog 32 = 24 := by kernel_rfl
theorem zv32 : zval Tryz.prog 32 = .raw (.slice none 0 0) := by kernel_rfl
theorem zk32 : zok Tryz.prog 32 = true := by kernel_rfl
theorem za32 : zav Tryz.prog 32 = [.raw (.slice none 0 0)] := by kernel_rfl
theorem ts36 : tsize Tryz.prog 36 = 1 := by kernel_rfl
theorem tb36 : tbytes Tryz.prog 36 = 24 := by kernel_rfl
theorem zv36 : zval Tryz.prog 36 = .raw (.slice none 0 0) := by kernel_rfl
theorem zk36 : zok Tryz.prog 36 = true := by kernel_rfl
theorem za36 : zav Tryz.prog 36 = [.raw (.slice none 0 0)] := by kernel_rfl
theorem ts37 : tsize Tryz.prog 37 = 2 := by kernel_rfl
theorem tb37 : tbytes Tryz.prog 37 = 24 := by kernel_rfl
theorem zv37 : zval Tryz.prog 37 = .agg [.str [], .int .i64 0] := by kernel_rfl
theorem zk37 : zok Tryz.prog 37 = true := by kernel_rfl
theorem za37 : zav Tryz.prog 37 = [.str [], .int .i64 0] := by kernel_rfl
theorem ts38 : tsize Tryz.prog 38 = 2 := by kernel_rfl
theorem tb38 : tbytes Tryz.prog 38 = 24 := by kernel_rfl
theorem zv38 : zval Tryz.prog 38 = .agg [.str [], .int .i64 0] := by kernel_rfl
theorem zk38 : zok Tryz.prog 38 = true := by kernel_rfl
theorem za38 : zav Tryz.prog 38 = [.str [], .int .i64 0] := by kernel_rfl
theorem ts39 : tsize Tryz.prog 39 = 1 := by kernel_rfl
theorem tb39 : tbytes Tryz.prog 39 = 24 := by kernel_rfl
theorem zv39 : zval Tryz.prog 39 = .raw (.slice none 0 0) := by kernel_rfl
theorem zk39 : zok Tryz.prog 39 = true := by kernel_rfl
theorem za39 : zav Tryz.prog 39 = [.raw (.slice none 0 0)] := by kernel_rfl
theorem ts40 : tsize Tryz.prog 40 = 7 := by kernel_rfl
theorem tb40 : tbytes Tryz.prog 40 = 104 := by kernel_rfl
theorem zv40 : zval Tryz.prog 40 = .agg [.str [], .int .i64 0, .raw (.slice none 0 0), .int .i64 0, .str [], .str [], .str []] := by kernel_rfl
theorem zk40 : zok Tryz.prog 40 = true := by kernel_rfl
theorem za40 : zav Tryz.prog 40 = [.str [], .int .i64 0, .raw (.slice none 0 0), .int .i64 0, .str [], .str [], .str []] := by kernel_rfl
theorem ts41 : tsize Tryz.prog 41 = 7 := by kernel_rfl
theorem tb41 : tbytes Tryz.prog 41 = 104 := by kernel_rfl
theorem zv41 : zval Tryz.prog 41 = .agg [.str [], .int .i64 0, .raw (.slice none 0 0), .int .i64 0, .str [], .str [], .str []] := by kernel_rfl
theorem zk41 : zok Tryz.prog 41 = true := by kernel_rfl
theorem za41 : zav Tryz.prog 41 = [.str [], .int .i64 0, .raw (.slice none 0 0), .int .i64 0, .str [], .str [], .str []] := by kernel_rfl
theorem ts42 : tsize Tryz.prog 42 = 2 := by kernel_rfl
theorem tb42 : tbytes Tryz.prog 42 = 40 := by kernel_rfl
theorem zv42 : zval Tryz.prog 42 = .agg [.str [], .raw (.slice none 0 0)] := by kernel_rfl
theorem zk42 : zok Tryz.prog 42 = true := by kernel_rfl
theorem za42 : zav Tryz.prog 42 = [.str [], .raw (.slice none 0 0)] := by kernel_rfl
theorem ts43 : tsize Tryz.prog 43 = 2 := by kernel_rfl
theorem tb43 : tbytes Tryz.prog 43 = 40 := by kernel_rfl
theorem zv43 : zval Tryz.prog 43 = .agg [.str [], .raw (.slice none 0 0)] := by kernel_rfl
theorem zk43 : zok Tryz.prog 43 = true := by kernel_rfl
theorem za43 : zav Tryz.prog 43 = [.str [], .raw (.slice none 0 0)] := by kernel_rfl
theorem ts53 : tsize Tryz.prog 53 = 1 := by kernel_rfl
theorem tb53 : tbytes Tryz.prog 53 = 24 := by kernel_rfl
theorem zv53 : zval Tryz.prog 53 = .raw (.slice none 0 0) := by kernel_rfl
theorem zk53 : zok Tryz.prog 53 = true := by kernel_rfl
theorem za53 : zav Tryz.prog 53 = [.raw (.slice none 0 0)] := by kernel_rfl
theorem ts61 : tsize Tryz.prog 61 = 1 := by kernel_rfl
theorem tb61 : tbytes Tryz.prog 61 = 24 := by kernel_rfl
theorem zv61 : zval Tryz.prog 61 = .raw (.slice none 0 0) := by kernel_rfl
theorem zk61 : zok Tryz.prog 61 = true := by kernel_rfl
theorem za61 : zav Tryz.prog 61 = [.raw (.slice none 0 0)] := by kernel_rfl
theorem ts80 : tsize Tryz.prog 80 = 1 := by kernel_rfl
theorem tb80 : tbytes Tryz.prog 80 = 8 := by kernel_rfl
theorem zv80 : zval Tryz.prog 80 = .raw (.map none) := by kernel_rfl
theorem zk80 : zok Tryz.prog 80 = true := by kernel_rfl
theorem za80 : zav Tryz.prog 80 = [.raw (.map none)] := by kernel_rfl
theorem ts107 : tsize Tryz.prog 107 = 1 := by kernel_rfl
theorem tb107 : tbytes Tryz.prog 107 = 8 := by kernel_rfl
theorem zv107 : zval Tryz.prog 107 = .raw (.map none) := by kernel_rfl
theorem zk107 : zok Tryz.prog 107 = true := by kernel_rfl
theorem za107 : zav Tryz.prog 107 = [.raw (.map none)] := by kernel_rfl
theorem ts108 : tsize Tryz.prog 108 = 1 := by kernel_rfl
theorem tb108 : tbytes Tryz.prog 108 = 8 := by kernel_rfl
theorem zv108 : zval Tryz.prog 108 = .raw (.map none) := by kernel_rfl
theorem zk108 : zok Tryz.prog 108 = true := by kernel_rfl
theorem za108 : zav Tryz.prog 108 = [.raw (.map none)] := by kernel_rfl
theorem ts113 : tsize Tryz.prog 113 = 1 := by kernel_rfl
theorem tb113 : tbytes Tryz.prog 113 = 8 := by kernel_rfl
theorem zv113 : zval Tryz.prog 113 = .raw (.map none) := by kernel_rfl
theorem zk113 : zok Tryz.prog 113 = true := by kernel_rfl
theorem za113 : zav Tryz.prog 113 = [.raw (.map none)] := by kernel_rfl
theorem ts116 : tsize Tryz.prog 116 = 1 := by kernel_rfl
theorem tb116 : tbytes Tryz.prog 116 = 8 := by kernel_rfl
theorem zv116 : zval Tryz.prog 116 = .raw .nilFunc := by kernel_rfl
theorem zk116 : zok Tryz.prog 116 = true := by kernel_rfl
theorem za116 : zav Tryz.prog 116 = [.raw .nilFunc] := by kernel_rfl
theorem ts123 : tsize Tryz.prog 123 = 1 := by kernel_rfl
theorem tb123 : tbytes Tryz.prog 123 = 8 := by kernel_rfl
theorem zv123 : zval Tryz.prog 123 = .int .u64 0 := by kernel_rfl
theorem zk123 : zok Tryz.prog 123 = true := by kernel_rfl
theorem za123 : zav Tryz.prog 123 = [.int .u64 0] := by kernel_rfl
theorem ts128 : tsize Tryz.prog 128 = 1 := by kernel_rfl
theorem tb128 : tbytes Tryz.prog 128 = 8 := by kernel_rfl
theorem zv128 : zval Tryz.prog 128 = .raw (.map none) := by kernel_rfl
theorem zk128 : zok Tryz.prog 128 = true := by kernel_rfl
theorem za128 : zav Tryz.prog 128 = [.raw (.map none)] := by kernel_rfl
theorem ts141 : tsize Tryz.prog 141 = 2 := by kernel_rfl
theorem tb141 : tbytes Tryz.prog 141 = 16 := by kernel_rfl
theorem zv141 : zval Tryz.prog 141 = .agg [.int .i64 0, .int .i64 0] := by kernel_rfl
theorem zk141 : zok Tryz.prog 141 = true := by kernel_rfl
theorem za141 : zav Tryz.prog 141 = [.int .i64 0, .int .i64 0] := by kernel_rfl
theorem ts142 : tsize Tryz.prog 142 = 2 := by kernel_rfl
theorem tb142 : tbytes Tryz.prog 142 = 16 := by kernel_rfl
theorem zv142 : zval Tryz.prog 142 = .agg [.int .i64 0, .int .i64 0] := by kernel_rfl
theorem zk142 : zok Tryz.prog 142 = true := by kernel_rfl
theorem za142 : zav Tryz.prog 142 = [.int .i64 0, .int .i64 0] := by kernel_rfl
theorem ts144 : tsize Tryz.prog 144 = 1 := by kernel_rfl
theorem tb144 : tbytes Tryz.prog 144 = 24 := by kernel_rfl
theorem zv144 : zval Tryz.prog 144 = .raw (.slice none 0 0) := by kernel_rfl
theorem zk144 : zok Tryz.prog 144 = true := by kernel_rfl
theorem za144 : zav Tryz.prog 144 = [.raw (.slice none 0 0)] := by kernel_rfl
theorem ts145 : tsize Tryz.prog 145 = 2 := by kernel_rfl
theorem tb145 : tbytes Tryz.prog 145 = 32 := by kernel_rfl
theorem zv145 : zval Tryz.prog 145 = .agg [.raw (.pointer none), .raw (.slice none 0 0)] := by kernel_rfl
theorem zk145 : zok Tryz.prog 145 = true := by kernel_rfl
theorem za145 : zav Tryz.prog 145 = [.raw (.pointer none), .raw (.slice none 0 0)] := by kernel_rfl
theorem ts146 : tsize Tryz.prog 146 = 2 := by kernel_rfl
theorem tb146 : tbytes Tryz.prog 146 = 32 := by kernel_rfl
theorem zv146 : zval Tryz.prog 146 = .agg [.raw (.pointer none), .raw (.slice none 0 0)] := by kernel_rfl
theorem zk146 : zok Tryz.prog 146 = true := by kernel_rfl
theorem za146 : zav Tryz.prog 146 = [.raw (.pointer none), .raw (.slice none 0 0)] := by kernel_rfl
theorem ts149 : tsize Tryz.prog 149 = 1 := by kernel_rfl
theorem tb149 : tbytes Tryz.prog 149 = 16 := by kernel_rfl
theorem zv149 : zval Tryz.prog 149 = .raw .nilIface := by kernel_rfl
theorem zk149 : zok Tryz.prog 149 = true := by kernel_rfl
theorem za149 : zav Tryz.prog 149 = [.raw .nilIface] := by kernel_rfl
theorem ts158 : tsize Tryz.prog 158 = 1 := by kernel_rfl
theorem tb158 : tbytes Tryz.prog 158 = 8 := by kernel_rfl
theorem zv158 : zval Tryz.prog 158 = .int .i64 0 := by kernel_rfl
theorem zk158 : zok Tryz.prog 158 = true := by kernel_rfl
theorem za158 : zav Tryz.prog 158 = [.int .i64 0] := by kernel_rfl
theorem ts166 : tsize Tryz.prog 166 = 1 := by kernel_rfl
theorem tb166 : tbytes Tryz.prog 166 = 4 := by kernel_rfl
theorem zv166 : zval Tryz.prog 166 = .int .u32 0 := by kernel_rfl
theorem zk166 : zok Tryz.prog 166 = true := by kernel_rfl
theorem za166 : zav Tryz.prog 166 = [.int .u32 0] := by kernel_rfl
theorem ts168 : tsize Tryz.prog 168 = 1 := by kernel_rfl
theorem tb168 : tbytes Tryz.prog 168 = 8 := by kernel_rfl
theorem zv168 : zval Tryz.prog 168 = .int .u64 0 := by kernel_rfl
theorem zk168 : zok Tryz.prog 168 = true := by kernel_rfl
theorem za168 : zav Tryz.prog 168 = [.int .u64 0] := by kernel_rfl
theorem ts177 : tsize Tryz.prog 177 = 1 := by kernel_rfl
theorem tb177 : tbytes Tryz.prog 177 = 24 := by kernel_rfl
theorem zv177 : zval Tryz.prog 177 = .raw (.slice none 0 0) := by kernel_rfl
theorem zk177 : zok Tryz.prog 177 = true := by kernel_rfl
theorem za177 : zav Tryz.prog 177 = [.raw (.slice none 0 0)] := by kernel_rfl
theorem ts179 : tsize Tryz.prog 179 = 2 := by kernel_rfl
theorem tb179 : tbytes Tryz.prog 179 = 16 := by kernel_rfl
theorem zv179 : zval Tryz.prog 179 = .agg [.int .i64 0, .int .i64 0] := by kernel_rfl
theorem zk179 : zok Tryz.prog 179 = true := by kernel_rfl
theorem za179 : zav Tryz.prog 179 = [.int .i64 0, .int .i64 0] := by kernel_rfl
theorem ts180 : tsize Tryz.prog 180 = 1 := by kernel_rfl
theorem tb180 : tbytes Tryz.prog 180 = 8 := by kernel_rfl
theorem zv180 : zval Tryz.prog 180 = .raw (.pointer none) := by kernel_rfl
theorem zk180 : zok Tryz.prog 180 = true := by kernel_rfl
theorem za180 : zav Tryz.prog 180 = [.raw (.pointer none)] := by kernel_rfl
theorem ts181 : tsize Tryz.prog 181 = 1 := by kernel_rfl
theorem tb181 : tbytes Tryz.prog 181 = 24 := by kernel_rfl
theorem zv181 : zval Tryz.prog 181 = .raw (.slice none 0 0) := by kernel_rfl
theorem zk181 : zok Tryz.prog 181 = true := by kernel_rfl
theorem za181 : zav Tryz.prog 181 = [.raw (.slice none 0 0)] := by kernel_rfl
theorem ts183 : tsize Tryz.prog 183 = 1 := by kernel_rfl
theorem tb183 : tbytes Tryz.prog 183 = 8 := by kernel_rfl
theorem zv183 : zval Tryz.prog 183 = .int .u64 0 := by kernel_rfl
theorem zk183 : zok Tryz.prog 183 = true := by kernel_rfl
theorem za183 : zav Tryz.prog 183 = [.int .u64 0] := by kernel_rfl
theorem ts187 : tsize Tryz.prog 187 = 1 := by kernel_rfl
theorem tb187 : tbytes Tryz.prog 187 = 8 := by kernel_rfl
theorem zv187 : zval Tryz.prog 187 = .raw (.pointer none) := by kernel_rfl
theorem zk187 : zok Tryz.prog 187 = true := by kernel_rfl
theorem za187 : zav Tryz.prog 187 = [.raw (.pointer none)] := by kernel_rfl
theorem ts200 : tsize Tryz.prog 200 = 1 := by kernel_rfl
theorem tb200 : tbytes Tryz.prog 200 = 8 := by kernel_rfl
theorem zv200 : zval Tryz.prog 200 = .raw (.pointer none) := by kernel_rfl
theorem zk200 : zok Tryz.prog 200 = true := by kernel_rfl
theorem za200 : zav Tryz.prog 200 = [.raw (.pointer none)] := by kernel_rfl
theorem ts223 : tsize Tryz.prog 223 = 1 := by kernel_rfl
theorem tb223 : tbytes Tryz.prog 223 = 24 := by kernel_rfl
theorem zv223 : zval Tryz.prog 223 = .raw (.slice none 0 0) := by kernel_rfl
theorem zk223 : zok Tryz.prog 223 = true := by kernel_rfl
theorem za223 : zav Tryz.prog 223 = [.raw (.slice none 0 0)] := by kernel_rfl
theorem ts224 : tsize Tryz.prog 224 = 1 := by kernel_rfl
theorem tb224 : tbytes Tryz.prog 224 = 2 := by kernel_rfl
theorem zv224 : zval Tryz.prog 224 = .int .u16 0 := by kernel_rfl
theorem zk224 : zok Tryz.prog 224 = true := by kernel_rfl
theorem za224 : zav Tryz.prog 224 = [.int .u16 0] := by kernel_rfl
theorem ts230 : tsize Tryz.prog 230 = 2 := by kernel_rfl
theorem tb230 : tbytes Tryz.prog 230 = 2 := by kernel_rfl
theorem zv230 : zval Tryz.prog 230 = .agg [.int .u8 0, .int .u8 0] := by kernel_rfl
theorem zk230 : zok Tryz.prog 230 = true := by kernel_rfl
theorem za230 : zav Tryz.prog 230 = [.int .u8 0, .int .u8 0] := by kernel_rfl
theorem ts231 : tsize Tryz.prog 231 = 2 := by kernel_rfl
theorem tb231 : tbytes Tryz.prog 231 = 2 := by kernel_rfl
theorem zv231 : zval Tryz.prog 231 = .agg [.int .u8 0, .int .u8 0] := by kernel_rfl
theorem zk231 : zok Tryz.prog 231 = true := by kernel_rfl
theorem za231 : zav Tryz.prog 231 = [.int .u8 0, .int .u8 0] := by kernel_rfl
theorem ts232 : tsize Tryz.prog 232 = 32 := by kernel_rfl
theorem tb232 : tbytes Tryz.prog 232 = 32 := by kernel_rfl
theorem ts235 : tsize Tryz.prog 235 = 4 := by kernel_rfl
theorem tb235 : tbytes Tryz.prog 235 = 40 := by kernel_rfl
theorem zv235 : zval Tryz.prog 235 = .agg [.raw (.pointer none), .raw (.pointer none), .raw (.pointer none), .str []] := by kernel_rfl
theorem zk235 : zok Tryz.prog 235 = true := by kernel_rfl
theorem za235 : zav Tryz.prog 235 = [.raw (.pointer none), .raw (.pointer none), .raw (.pointer none), .str []] := by kernel_rfl
theorem ts236 : tsize Tryz.prog 236 = 4 := by kernel_rfl
theorem tb236 : tbytes Tryz.prog 236 = 40 := by kernel_rfl
theorem zv236 : zval Tryz.prog 236 = .agg [.raw (.pointer none), .raw (.pointer none), .raw (.pointer none), .str []] := by kernel_rfl
theorem zk236 : zok Tryz.prog 236 = true := by kernel_rfl
theorem za236 : zav Tryz.prog 236 = [.raw (.pointer none), .raw (.pointer none), .raw (.pointer none), .str []] := by kernel_rfl
theorem ts240 : tsize Tryz.prog 240 = 1 := by kernel_rfl
theorem tb240 : tbytes Tryz.prog 240 = 1 := by kernel_rfl
theorem zv240 : zval Tryz.prog 240 = .int .u8 0 := by kernel_rfl
theorem zk240 : zok Tryz.prog 240 = true := by kernel_rfl
theorem za240 : zav Tryz.prog 240 = [.int .u8 0] := by kernel_rfl
theorem ts241 : tsize Tryz.prog 241 = 1 := by kernel_rfl
theorem tb241 : tbytes Tryz.prog 241 = 1 := by kernel_rfl
theorem zv241 : zval Tryz.prog 241 = .int .u8 0 := by kernel_rfl
theorem zk241 : zok Tryz.prog 241 = true := by kernel_rfl
theorem za241 : zav Tryz.prog 241 = [.int .u8 0] := by kernel_rfl
theorem ts243 : tsize Tryz.prog 243 = 1 := by kernel_rfl
theorem tb243 : tbytes Tryz.prog 243 = 4 := by kernel_rfl
theorem zv243 : zval Tryz.prog 243 = .int .i32 0 := by kernel_rfl
theorem zk243 : zok Tryz.prog 243 = true := by kernel_rfl
theorem za243 : zav Tryz.prog 243 = [.int .i32 0] := by kernel_rfl
theorem ts244 : tsize Tryz.prog 244 = 1 := by kernel_rfl
theorem tb244 : tbytes Tryz.prog 244 = 4 := by kernel_rfl
theorem zv244 : zval Tryz.prog 244 = .int .i32 0 := by kernel_rfl
theorem zk244 : zok Tryz.prog 244 = true := by kernel_rfl
theorem za244 : zav Tryz.prog 244 = [.int .i32 0] := by kernel_rfl
theorem ts245 : tsize Tryz.prog 245 = 11 := by kernel_rfl
theorem tb245 : tbytes Tryz.prog 245 = 48 := by kernel_rfl
theorem zv245 : zval Tryz.prog 245 = .agg [.int .u64 0, .int .u64 0, .int .u32 0, .int .u8 0, .int .u8 0, .int .u8 0, .int .u8 0, .raw .nilFunc, .raw (.pointer none), .int .i32 0, .int .i32 0] := by kernel_rfl
theorem zk245 : zok Tryz.prog 245 = true := by kernel_rfl
theorem za245 : zav Tryz.prog 245 = [.int .u64 0, .int .u64 0, .int .u32 0, .int .u8 0, .int .u8 0, .int .u8 0, .int .u8 0, .raw .nilFunc, .raw (.pointer none), .int .i32 0, .int .i32 0] := by kernel_rfl
theorem ts246 : tsize Tryz.prog 246 = 11 := by kernel_rfl
theorem tb246 : tbytes Tryz.prog 246 = 48 := by kernel_rfl
theorem zv246 : zval Tryz.prog 246 = .agg [.int .u64 0, .int .u64 0, .int .u32 0, .int .u8 0, .int .u8 0, .int .u8 0, .int .u8 0, .raw .nilFunc, .raw (.pointer none), .int .i32 0, .int .i32 0] := by kernel_rfl
theorem zk246 : zok Tryz.prog 246 = true := by kernel_rfl
theorem za246 : zav Tryz.prog 246 = [.int .u64 0, .int .u64 0, .int .u32 0, .int .u8 0, .int .u8 0, .int .u8 0, .int .u8 0, .raw .nilFunc, .raw (.pointer none), .int .i32 0, .int .i32 0] := by kernel_rfl
end Go.Proofs.YtkomcdohejibmaaGreatDoor
