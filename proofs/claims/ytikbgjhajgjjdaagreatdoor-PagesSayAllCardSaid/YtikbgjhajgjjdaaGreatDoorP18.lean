/- Closed facts of this seat's program, written by a program of this seat: which functions have a body; cells, bytes and zero values of types. -/
import Derived.Test.YtikbgjhajgjjdaaGreatDoorProg
import Derived.Test.YtikbgjhajgjjdaaGreatDoorP13
import Derived.Test.YtikbgjhajgjjdaaGreatDoorP17
import Derived.Test.YtikbgjhajgjjdaaGreatDoorP1
import Derived.Test.YtikbgjhajgjjdaaGreatDoorP14
import Derived.Lib.ItoaNum
import Derived.Lib.Builder
import Derived.Test.YtikbgjhajgjjdaaGreatDoorP12
import Derived.ChangeSame
set_option maxRecDepth 100000
set_option linter.unusedVariables false
namespace Go.Proofs.YtikbgjhajgjjdaaGreatDoor
open Go Go.Av Go.RowKit
theorem mixed : Tryz.prog.follows .mixedOrders = true := by kernel_rfl
theorem hB3 : hasBody Tryz.prog 3 = true := by kernel_rfl
theorem hB4 : hasBody Tryz.prog 4 = true := by kernel_rfl
theorem hB5 : hasBody Tryz.prog 5 = true := by kernel_rfl
theorem hB6 : hasBody Tryz.prog 6 = true := by kernel_rfl
theorem hB7 : hasBody Tryz.prog 7 = true := by kernel_rfl
theorem hB8 : hasBody Tryz.prog 8 = true := by kernel_rfl
theorem hB9 : hasBody Tryz.prog 9 = true := by kernel_rfl
theorem hB10 : hasBody Tryz.prog 10 = true := by kernel_rfl
theorem hB11 : hasBody Tryz.prog 11 = true := by kernel_rfl
theorem hB12 : hasBody Tryz.prog 12 = true := by kernel_rfl
theorem hB13 : hasBody Tryz.prog 13 = true := by kernel_rfl
theorem hB14 : hasBody Tryz.prog 14 = true := by kernel_rfl
theorem hB15 : hasBody Tryz.prog 15 = true := by kernel_rfl
theorem hB16 : hasBody Tryz.prog 16 = true := by kernel_rfl
theorem hB17 : hasBody Tryz.prog 17 = true := by kernel_rfl
theorem hB18 : hasBody Tryz.prog 18 = true := by kernel_rfl
theorem hB19 : hasBody Tryz.prog 19 = true := by kernel_rfl
theorem hB20 : hasBody Tryz.prog 20 = true := by kernel_rfl
theorem hB21 : hasBody Tryz.prog 21 = true := by kernel_rfl
theorem hB22 : hasBody Tryz.prog 22 = true := by kernel_rfl
theorem hB23 : hasBody Tryz.prog 23 = true := by kernel_rfl
theorem hB24 : hasBody Tryz.prog 24 = true := by kernel_rfl
theorem hB25 : hasBody Tryz.prog 25 = true := by kernel_rfl
theorem hB26 : hasBody Tryz.prog 26 = true := by kernel_rfl
theorem hB27 : hasBody Tryz.prog 27 = true := by kernel_rfl
theorem hB28 : hasBody Tryz.prog 28 = true := by kernel_rfl
theorem hB29 : hasBody Tryz.prog 29 = true := by kernel_rfl
theorem hB30 : hasBody Tryz.prog 30 = true := by kernel_rfl
theorem hB32 : hasBody Tryz.prog 32 = true := by kernel_rfl
theorem hB33 : hasBody Tryz.prog 33 = true := by kernel_rfl
theorem hB34 : hasBody Tryz.prog 34 = true := by kernel_rfl
theorem hB35 : hasBody Tryz.prog 35 = true := by kernel_rfl
theorem hB38 : hasBody Tryz.prog 38 = true := by kernel_rfl
theorem hB40 : hasBody Tryz.prog 40 = true := by kernel_rfl
theorem hB42 : hasBody Tryz.prog 42 = true := by kernel_rfl
theorem hB43 : hasBody Tryz.prog 43 = true := by kernel_rfl
theorem hB44 : hasBody Tryz.prog 44 = true := by kernel_rfl
theorem hB45 : hasBody Tryz.prog 45 = true := by kernel_rfl
theorem hB46 : hasBody Tryz.prog 46 = true := by kernel_rfl
theorem hB48 : hasBody Tryz.prog 48 = true := by kernel_rfl
theorem hB49 : hasBody Tryz.prog 49 = true := by kernel_rfl
theorem hB50 : hasBody Tryz.prog 50 = true := by kernel_rfl
theorem hB51 : hasBody Tryz.prog 51 = true := by kernel_rfl
theorem hB52 : hasBody Tryz.prog 52 = true := by kernel_rfl
theorem hB53 : hasBody Tryz.prog 53 = true := by kernel_rfl
theorem hB54 : hasBody Tryz.prog 54 = true := by kernel_rfl
theorem hB55 : hasBody Tryz.prog 55 = true := by kernel_rfl
theorem hB56 : hasBody Tryz.prog 56 = true := by kernel_rfl
theorem hB57 : hasBody Tryz.prog 57 = true := by kernel_rfl
theorem hB58 : hasBody Tryz.prog 58 = true := by kernel_rfl
theorem hB59 : hasBody Tryz.prog 59 = true := by kernel_rfl
theorem hB60 : hasBody Tryz.prog 60 = true := by kernel_rfl
theorem hB61 : hasBody Tryz.prog 61 = true := by kernel_rfl
theorem hB62 : hasBody Tryz.prog 62 = true := by kernel_rfl
theorem hB63 : hasBody Tryz.prog 63 = true := by kernel_rfl
theorem hB64 : hasBody Tryz.prog 64 = true := by kernel_rfl
theorem hB65 : hasBody Tryz.prog 65 = true := by kernel_rfl
theorem hB66 : hasBody Tryz.prog 66 = true := by kernel_rfl
theorem hB67 : hasBody Tryz.prog 67 = true := by kernel_rfl
theorem hB68 : hasBody Tryz.prog 68 = true := by kernel_rfl
theorem hB69 : hasBody Tryz.prog 69 = true := by kernel_rfl
theorem hB70 : hasBody Tryz.prog 70 = true := by kernel_rfl
theorem hB71 : hasBody Tryz.prog 71 = true := by kernel_rfl
theorem hB72 : hasBody Tryz.prog 72 = true := by kernel_rfl
theorem hB75 : hasBody Tryz.prog 75 = true := by kernel_rfl
theorem hB77 : hasBody Tryz.prog 77 = true := by kernel_rfl
theorem hB83 : hasBody Tryz.prog 83 = true := by kernel_rfl
theorem hB86 : hasBody Tryz.prog 86 = true := by kernel_rfl
theorem hB87 : hasBody Tryz.prog 87 = true := by kernel_rfl
theorem hB88 : hasBody Tryz.prog 88 = true := by kernel_rfl
theorem hB89 : hasBody Tryz.prog 89 = true := by kernel_rfl
theorem hB90 : hasBody Tryz.prog 90 = true := by kernel_rfl
theorem hB91 : hasBody Tryz.prog 91 = true := by kernel_rfl
theorem hB92 : hasBody Tryz.prog 92 = true := by kernel_rfl
theorem hB93 : hasBody Tryz.prog 93 = true := by kernel_rfl
theorem hB94 : hasBody Tryz.prog 94 = true := by kernel_rfl
theorem hB95 : hasBody Tryz.prog 95 = true := by kernel_rfl
theorem hB96 : hasBody Tryz.prog 96 = true := by kernel_rfl
theorem hB97 : hasBody Tryz.prog 97 = true := by kernel_rfl
theorem hB98 : hasBody Tryz.prog 98 = true := by kernel_rfl
theorem hB99 : hasBody Tryz.prog 99 = true := by kernel_rfl
theorem hB100 : hasBody Tryz.prog 100 = true := by kernel_rfl
theorem hB101 : hasBody Tryz.prog 101 = true := by kernel_rfl
theorem hB102 : hasBody Tryz.prog 102 = true := by kernel_rfl
theorem hB103 : hasBody Tryz.prog 103 = true := by kernel_rfl
theorem hB106 : hasBody Tryz.prog 106 = true := by kernel_rfl
theorem hB107 : hasBody Tryz.prog 107 = true := by kernel_rfl
theorem hB108 : hasBody Tryz.prog 108 = true := by kernel_rfl
theorem hB109 : hasBody Tryz.prog 109 = true := by kernel_rfl
theorem hB122 : hasBody Tryz.prog 122 = true := by kernel_rfl
theorem hB123 : hasBody Tryz.prog 123 = true := by kernel_rfl
theorem hB127 : hasBody Tryz.prog 127 = true := by kernel_rfl
theorem hB132 : hasBody Tryz.prog 132 = true := by kernel_rfl
theorem hB133 : hasBody Tryz.prog 133 = true := by kernel_rfl
theorem hB134 : hasBody Tryz.prog 134 = true := by kernel_rfl
theorem hB153 : hasBody Tryz.prog 153 = true := by kernel_rfl
theorem hB169 : hasBody Tryz.prog 169 = true := by kernel_rfl
theorem ts2 : tsize Tryz.prog 2 = 1 := by kernel_rfl
theorem tb2 : tbytes Tryz.prog 2 = 8 := by kernel_rfl
theorem zl2 : zleaf Tryz.prog 2 = true := by kernel_rfl
theorem za2 : zav Tryz.prog 2 = [.int .i64 0] := by kernel_rfl
theorem ts3 : tsize Tryz.prog 3 = 1 := by kernel_rfl
theorem tb3 : tbytes Tryz.prog 3 = 8 := by kernel_rfl
theorem zl3 : zleaf Tryz.prog 3 = true := by kernel_rfl
theorem za3 : zav Tryz.prog 3 = [.int .i64 0] := by kernel_rfl
theorem ts4 : tsize Tryz.prog 4 = 1 := by kernel_rfl
theorem tb4 : tbytes Tryz.prog 4 = 1 := by kernel_rfl
theorem zl4 : zleaf Tryz.prog 4 = true := by kernel_rfl
theorem za4 : zav Tryz.prog 4 = [.bool false] := by kernel_rfl
theorem ts5 : tsize Tryz.prog 5 = 1 := by kernel_rfl
theorem tb5 : tbytes Tryz.prog 5 = 1 := by kernel_rfl
theorem zl5 : zleaf Tryz.prog 5 = true := by kernel_rfl
theorem za5 : zav Tryz.prog 5 = [.int .u8 0] := by kernel_rfl
theorem ts6 : tsize Tryz.prog 6 = 1 := by kernel_rfl
theorem tb6 : tbytes Tryz.prog 6 = 1 := by kernel_rfl
theorem zl6 : zleaf Tryz.prog 6 = true := by kernel_rfl
theorem za6 : zav Tryz.prog 6 = [.int .u8 0] := by kernel_rfl
theorem ts7 : tsize Tryz.prog 7 = 4 := by kernel_rfl
theorem tb7 : tbytes Tryz.prog 7 = 24 := by kernel_rfl
theorem za7 : zav Tryz.prog 7 = [.int .i64 0, .int .i64 0, .bool false, .int .u8 0] := by kernel_rfl
theorem ts8 : tsize Tryz.prog 8 = 4 := by kernel_rfl
theorem tb8 : tbytes Tryz.prog 8 = 24 := by kernel_rfl
theorem za8 : zav Tryz.prog 8 = [.int .i64 0, .int .i64 0, .bool false, .int .u8 0] := by kernel_rfl
theorem ts9 : tsize Tryz.prog 9 = 1 := by kernel_rfl
theorem tb9 : tbytes Tryz.prog 9 = 16 := by kernel_rfl
theorem zl9 : zleaf Tryz.prog 9 = true := by kernel_rfl
theorem za9 : zav Tryz.prog 9 = [.str []] := by kernel_rfl
theorem ts10 : tsize Tryz.prog 10 = 1 := by kernel_rfl
theorem tb10 : tbytes Tryz.prog 10 = 16 := by kernel_rfl
theorem zl10 : zleaf Tryz.prog 10 = true := by kernel_rfl
theorem za10 : zav Tryz.prog 10 = [.str []] := by kernel_rfl
theorem ts11 : tsize Tryz.prog 11 = 1 := by kernel_rfl
theorem tb11 : tbytes Tryz.prog 11 = 16 := by kernel_rfl
theorem zl11 : zleaf Tryz.prog 11 = true := by kernel_rfl
theorem za11 : zav Tryz.prog 11 = [.str []] := by kernel_rfl
theorem ts12 : tsize Tryz.prog 12 = 1 := by kernel_rfl
theorem tb12 : tbytes Tryz.prog 12 = 8 := by kernel_rfl
theorem zl12 : zleaf Tryz.prog 12 = true := by kernel_rfl
theorem za12 : zav Tryz.prog 12 = [.int .u64 0] := by kernel_rfl
theorem ts13 : tsize Tryz.prog 13 = 2 := by kernel_rfl
theorem tb13 : tbytes Tryz.prog 13 = 24 := by kernel_rfl
theorem za13 : zav Tryz.prog 13 = [.str [], .int .u64 0] := by kernel_rfl
theorem ts14 : tsize Tryz.prog 14 = 2 := by kernel_rfl
theorem tb14 : tbytes Tryz.prog 14 = 24 := by kernel_rfl
theorem za14 : zav Tryz.prog 14 = [.str [], .int .u64 0] := by kernel_rfl
theorem ts18 : tsize Tryz.prog 18 = 1 := by kernel_rfl
theorem tb18 : tbytes Tryz.prog 18 = 8 := by kernel_rfl
theorem za18 : zav Tryz.prog 18 = [.raw (.pointer none)] := by kernel_rfl
theorem ts19 : tsize Tryz.prog 19 = 1 := by kernel_rfl
theorem tb19 : tbytes Tryz.prog 19 = 8 := by kernel_rfl
theorem za19 : zav Tryz.prog 19 = [.raw (.pointer none)] := by kernel_rfl
theorem ts21 : tsize Tryz.prog 21 = 1 := by kernel_rfl
theorem tb21 : tbytes Tryz.prog 21 = 4 := by kernel_rfl
theorem zl21 : zleaf Tryz.prog 21 = true := by kernel_rfl
theorem za21 : zav Tryz.prog 21 = [.int .i32 0] := by kernel_rfl
theorem ts22 : tsize Tryz.prog 22 = 1 := by kernel_rfl
theorem tb22 : tbytes Tryz.prog 22 = 24 := by kernel_rfl
theorem zl22 : zleaf Tryz.prog 22 = true := by kernel_rfl
theorem za22 : zav Tryz.prog 22 = [.raw (.slice none 0 0)] := by kernel_rfl
theorem ts24 : tsize Tryz.prog 24 = 2 := by kernel_rfl
theorem tb24 : tbytes Tryz.prog 24 = 32 := by kernel_rfl
theorem za24 : zav Tryz.prog 24 = [.raw (.slice none 0 0), .int .i64 0] := by kernel_rfl
theorem ts25 : tsize Tryz.prog 25 = 2 := by kernel_rfl
theorem tb25 : tbytes Tryz.prog 25 = 32 := by kernel_rfl
theorem za25 : zav Tryz.prog 25 = [.raw (.slice none 0 0), .int .i64 0] := by kernel_rfl
theorem ts26 : tsize Tryz.prog 26 = 1 := by kernel_rfl
theorem tb26 : tbytes Tryz.prog 26 = 24 := by kernel_rfl
theorem zl26 : zleaf Tryz.prog 26 = true := by kernel_rfl
theorem za26 : zav Tryz.prog 26 = [.raw (.slice none 0 0)] := by kernel_rfl
theorem ts27 : tsize Tryz.prog 27 = 2 := by kernel_rfl
theorem tb27 : tbytes Tryz.prog 27 = 40 := by kernel_rfl
theorem za27 : zav Tryz.prog 27 = [.str [], .raw (.slice none 0 0)] := by kernel_rfl
theorem ts28 : tsize Tryz.prog 28 = 2 := by kernel_rfl
theorem tb28 : tbytes Tryz.prog 28 = 40 := by kernel_rfl
theorem za28 : zav Tryz.prog 28 = [.str [], .raw (.slice none 0 0)] := by kernel_rfl
theorem ts30 : tsize Tryz.prog 30 = 1 := by kernel_rfl
theorem tb30 : tbytes Tryz.prog 30 = 24 := by kernel_rfl
theorem zl30 : zleaf Tryz.prog 30 = true := by kernel_rfl
theorem za30 : zav Tryz.prog 30 = [.raw (.slice none 0 0)] := by kernel_rfl
theorem ts31 : tsize Tryz.prog 31 = 1 := by kernel_rfl
theorem tb31 : tbytes Tryz.prog 31 = 8 := by kernel_rfl
theorem zl31 : zleaf Tryz.prog 31 = true := by kernel_rfl
theorem za31 : zav Tryz.prog 31 = [.int .i64 0] := by kernel_rfl
theorem ts34 : tsize Tryz.prog 34 = 1 := by kernel_rfl
theorem tb34 : tbytes Tryz.prog 34 = 24 := by kernel_rfl
theorem zl34 : zleaf Tryz.prog 34 = true := by kernel_rfl
theorem za34 : zav Tryz.prog 34 = [.raw (.slice none 0 0)] := by kernel_rfl
theorem ts35 : tsize Tryz.prog 35 = 1 := by kernel_rfl
theorem tb35 : tbytes Tryz.prog 35 = 24 := by kernel_rfl
theorem zl35 : zleaf Tryz.prog 35 = true := by kernel_rfl
theorem za35 : zav Tryz.prog 35 = [.raw (.slice none 0 0)] := by kernel_rfl
theorem ts36 : tsize Tryz.prog 36 = 2 := by kernel_rfl
theorem tb36 : tbytes Tryz.prog 36 = 32 := by kernel_rfl
theorem za36 : zav Tryz.prog 36 = [.int .i64 0, .raw (.slice none 0 0)] := by kernel_rfl
theorem ts37 : tsize Tryz.prog 37 = 2 := by kernel_rfl
theorem tb37 : tbytes Tryz.prog 37 = 32 := by kernel_rfl
theorem za37 : zav Tryz.prog 37 = [.int .i64 0, .raw (.slice none 0 0)] := by kernel_rfl
theorem ts46 : tsize Tryz.prog 46 = 3 := by kernel_rfl
theorem tb46 : tbytes Tryz.prog 46 = 72 := by kernel_rfl
theorem za46 : zav Tryz.prog 46 = [.raw (.slice none 0 0), .raw (.slice none 0 0), .raw (.slice none 0 0)] := by kernel_rfl
theorem ts47 : tsize Tryz.prog 47 = 3 := by kernel_rfl
theorem tb47 : tbytes Tryz.prog 47 = 72 := by kernel_rfl
theorem za47 : zav Tryz.prog 47 = [.raw (.slice none 0 0), .raw (.slice none 0 0), .raw (.slice none 0 0)] := by kernel_rfl
theorem ts61 : tsize Tryz.prog 61 = 1 := by kernel_rfl
theorem tb61 : tbytes Tryz.prog 61 = 24 := by kernel_rfl
theorem zl61 : zleaf Tryz.prog 61 = true := by kernel_rfl
theorem za61 : zav Tryz.prog 61 = [.raw (.slice none 0 0)] := by kernel_rfl
theorem ts62 : tsize Tryz.prog 62 = 5 := by kernel_rfl
theorem tb62 : tbytes Tryz.prog 62 = 72 := by kernel_rfl
theorem za62 : zav Tryz.prog 62 = [.str [], .int .i64 0, .str [], .int .i64 0, .raw (.slice none 0 0)] := by kernel_rfl
theorem ts63 : tsize Tryz.prog 63 = 5 := by kernel_rfl
theorem tb63 : tbytes Tryz.prog 63 = 72 := by kernel_rfl
theorem za63 : zav Tryz.prog 63 = [.str [], .int .i64 0, .str [], .int .i64 0, .raw (.slice none 0 0)] := by kernel_rfl
theorem ts66 : tsize Tryz.prog 66 = 1 := by kernel_rfl
theorem tb66 : tbytes Tryz.prog 66 = 8 := by kernel_rfl
theorem zl66 : zleaf Tryz.prog 66 = true := by kernel_rfl
theorem za66 : zav Tryz.prog 66 = [.raw (.map none)] := by kernel_rfl
theorem ts68 : tsize Tryz.prog 68 = 1 := by kernel_rfl
theorem tb68 : tbytes Tryz.prog 68 = 24 := by kernel_rfl
theorem zl68 : zleaf Tryz.prog 68 = true := by kernel_rfl
theorem za68 : zav Tryz.prog 68 = [.raw (.slice none 0 0)] := by kernel_rfl
theorem ts74 : tsize Tryz.prog 74 = 3 := by kernel_rfl
theorem tb74 : tbytes Tryz.prog 74 = 48 := by kernel_rfl
theorem za74 : zav Tryz.prog 74 = [.str [], .raw (.slice none 0 0), .int .i64 0] := by kernel_rfl
theorem ts75 : tsize Tryz.prog 75 = 3 := by kernel_rfl
theorem tb75 : tbytes Tryz.prog 75 = 48 := by kernel_rfl
theorem za75 : zav Tryz.prog 75 = [.str [], .raw (.slice none 0 0), .int .i64 0] := by kernel_rfl
theorem ts77 : tsize Tryz.prog 77 = 1 := by kernel_rfl
theorem tb77 : tbytes Tryz.prog 77 = 8 := by kernel_rfl
theorem zl77 : zleaf Tryz.prog 77 = true := by kernel_rfl
theorem za77 : zav Tryz.prog 77 = [.int .u64 0] := by kernel_rfl
theorem ts81 : tsize Tryz.prog 81 = 1 := by kernel_rfl
theorem tb81 : tbytes Tryz.prog 81 = 24 := by kernel_rfl
theorem zl81 : zleaf Tryz.prog 81 = true := by kernel_rfl
theorem za81 : zav Tryz.prog 81 = [.raw (.slice none 0 0)] := by kernel_rfl
theorem ts82 : tsize Tryz.prog 82 = 2 := by kernel_rfl
theorem tb82 : tbytes Tryz.prog 82 = 32 := by kernel_rfl
theorem za82 : zav Tryz.prog 82 = [.raw (.pointer none), .raw (.slice none 0 0)] := by kernel_rfl
theorem ts83 : tsize Tryz.prog 83 = 2 := by kernel_rfl
theorem tb83 : tbytes Tryz.prog 83 = 32 := by kernel_rfl
theorem za83 : zav Tryz.prog 83 = [.raw (.pointer none), .raw (.slice none 0 0)] := by kernel_rfl
theorem ts86 : tsize Tryz.prog 86 = 1 := by kernel_rfl
theorem tb86 : tbytes Tryz.prog 86 = 16 := by kernel_rfl
theorem zl86 : zleaf Tryz.prog 86 = true := by kernel_rfl
theorem za86 : zav Tryz.prog 86 = [.raw .nilIface] := by kernel_rfl
theorem ts102 : tsize Tryz.prog 102 = 2 := by kernel_rfl
theorem tb102 : tbytes Tryz.prog 102 = 24 := by kernel_rfl
theorem za102 : zav Tryz.prog 102 = [.int .i64 0, .str []] := by kernel_rfl
theorem ts103 : tsize Tryz.prog 103 = 2 := by kernel_rfl
theorem tb103 : tbytes Tryz.prog 103 = 24 := by kernel_rfl
theorem za103 : zav Tryz.prog 103 = [.int .i64 0, .str []] := by kernel_rfl
theorem ts106 : tsize Tryz.prog 106 = 4 := by kernel_rfl
theorem tb106 : tbytes Tryz.prog 106 = 72 := by kernel_rfl
theorem za106 : zav Tryz.prog 106 = [.int .i64 0, .raw (.slice none 0 0), .raw (.slice none 0 0), .str []] := by kernel_rfl
theorem ts107 : tsize Tryz.prog 107 = 4 := by kernel_rfl
theorem tb107 : tbytes Tryz.prog 107 = 72 := by kernel_rfl
theorem za107 : zav Tryz.prog 107 = [.int .i64 0, .raw (.slice none 0 0), .raw (.slice none 0 0), .str []] := by kernel_rfl
theorem ts114 : tsize Tryz.prog 114 = 1 := by kernel_rfl
theorem tb114 : tbytes Tryz.prog 114 = 4 := by kernel_rfl
theorem zl114 : zleaf Tryz.prog 114 = true := by kernel_rfl
theorem za114 : zav Tryz.prog 114 = [.int .u32 0] := by kernel_rfl
theorem ts117 : tsize Tryz.prog 117 = 1 := by kernel_rfl
theorem tb117 : tbytes Tryz.prog 117 = 8 := by kernel_rfl
theorem zl117 : zleaf Tryz.prog 117 = true := by kernel_rfl
theorem za117 : zav Tryz.prog 117 = [.int .u64 0] := by kernel_rfl
theorem ts120 : tsize Tryz.prog 120 = 1 := by kernel_rfl
theorem tb120 : tbytes Tryz.prog 120 = 8 := by kernel_rfl
theorem zl120 : zleaf Tryz.prog 120 = true := by kernel_rfl
theorem za120 : zav Tryz.prog 120 = [.raw (.pointer none)] := by kernel_rfl
theorem ts133 : tsize Tryz.prog 133 = 1 := by kernel_rfl
theorem tb133 : tbytes Tryz.prog 133 = 8 := by kernel_rfl
theorem zl133 : zleaf Tryz.prog 133 = true := by kernel_rfl
theorem za133 : zav Tryz.prog 133 = [.raw (.pointer none)] := by kernel_rfl
theorem ts144 : tsize Tryz.prog 144 = 1 := by kernel_rfl
theorem tb144 : tbytes Tryz.prog 144 = 8 := by kernel_rfl
theorem zl144 : zleaf Tryz.prog 144 = true := by kernel_rfl
theorem za144 : zav Tryz.prog 144 = [.int .i64 0] := by kernel_rfl
theorem ts151 : tsize Tryz.prog 151 = 1 := by kernel_rfl
theorem tb151 : tbytes Tryz.prog 151 = 8 := by kernel_rfl
theorem zl151 : zleaf Tryz.prog 151 = true := by kernel_rfl
theorem za151 : zav Tryz.prog 151 = [.raw .nilFunc] := by kernel_rfl
theorem ts156 : tsize Tryz.prog 156 = 1 := by kernel_rfl
theorem tb156 : tbytes Tryz.prog 156 = 8 := by kernel_rfl
theorem zl156 : zleaf Tryz.prog 156 = true := by kernel_rfl
theorem za156 : zav Tryz.prog 156 = [.raw (.pointer none)] := by kernel_rfl
theorem ts160 : tsize Tryz.prog 160 = 24 := by kernel_rfl
theorem tb160 : tbytes Tryz.prog 160 = 24 := by kernel_rfl
theorem ts169 : tsize Tryz.prog 169 = 3 := by kernel_rfl
theorem tb169 : tbytes Tryz.prog 169 = 48 := by kernel_rfl
theorem za169 : zav Tryz.prog 169 = [.str [], .str [], .raw .nilIface] := by kernel_rfl
theorem ts170 : tsize Tryz.prog 170 = 3 := by kernel_rfl
theorem tb170 : tbytes Tryz.prog 170 = 48 := by kernel_rfl
theorem za170 : zav Tryz.prog 170 = [.str [], .str [], .raw .nilIface] := by kernel_rfl
theorem ts175 : tsize Tryz.prog 175 = 20 := by kernel_rfl
theorem tb175 : tbytes Tryz.prog 175 = 160 := by kernel_rfl
theorem ts180 : tsize Tryz.prog 180 = 1 := by kernel_rfl
theorem tb180 : tbytes Tryz.prog 180 = 16 := by kernel_rfl
theorem za180 : zav Tryz.prog 180 = [.str []] := by kernel_rfl
theorem ts181 : tsize Tryz.prog 181 = 1 := by kernel_rfl
theorem tb181 : tbytes Tryz.prog 181 = 16 := by kernel_rfl
theorem za181 : zav Tryz.prog 181 = [.str []] := by kernel_rfl
theorem ts185 : tsize Tryz.prog 185 = 2 := by kernel_rfl
theorem tb185 : tbytes Tryz.prog 185 = 2 := by kernel_rfl
theorem za185 : zav Tryz.prog 185 = [.int .u8 0, .int .u8 0] := by kernel_rfl
theorem ts186 : tsize Tryz.prog 186 = 2 := by kernel_rfl
theorem tb186 : tbytes Tryz.prog 186 = 2 := by kernel_rfl
theorem za186 : zav Tryz.prog 186 = [.int .u8 0, .int .u8 0] := by kernel_rfl
theorem ts187 : tsize Tryz.prog 187 = 32 := by kernel_rfl
theorem tb187 : tbytes Tryz.prog 187 = 32 := by kernel_rfl
theorem ts189 : tsize Tryz.prog 189 = 32 := by kernel_rfl
theorem tb189 : tbytes Tryz.prog 189 = 32 := by kernel_rfl
theorem ts190 : tsize Tryz.prog 190 = 64 := by kernel_rfl
theorem tb190 : tbytes Tryz.prog 190 = 64 := by kernel_rfl
theorem ts191 : tsize Tryz.prog 191 = 4 := by kernel_rfl
theorem tb191 : tbytes Tryz.prog 191 = 40 := by kernel_rfl
theorem za191 : zav Tryz.prog 191 = [.raw (.pointer none), .raw (.pointer none), .raw (.pointer none), .str []] := by kernel_rfl
theorem ts192 : tsize Tryz.prog 192 = 4 := by kernel_rfl
theorem tb192 : tbytes Tryz.prog 192 = 40 := by kernel_rfl
theorem za192 : zav Tryz.prog 192 = [.raw (.pointer none), .raw (.pointer none), .raw (.pointer none), .str []] := by kernel_rfl
theorem ts196 : tsize Tryz.prog 196 = 1 := by kernel_rfl
theorem tb196 : tbytes Tryz.prog 196 = 1 := by kernel_rfl
theorem zl196 : zleaf Tryz.prog 196 = true := by kernel_rfl
theorem za196 : zav Tryz.prog 196 = [.int .u8 0] := by kernel_rfl
theorem ts197 : tsize Tryz.prog 197 = 1 := by kernel_rfl
theorem tb197 : tbytes Tryz.prog 197 = 1 := by kernel_rfl
theorem zl197 : zleaf Tryz.prog 197 = true := by kernel_rfl
theorem za197 : zav Tryz.prog 197 = [.int .u8 0] := by kernel_rfl
theorem ts199 : tsize Tryz.prog 199 = 1 := by kernel_rfl
theorem tb199 : tbytes Tryz.prog 199 = 4 := by kernel_rfl
theorem zl199 : zleaf Tryz.prog 199 = true := by kernel_rfl
theorem za199 : zav Tryz.prog 199 = [.int .i32 0] := by kernel_rfl
theorem ts200 : tsize Tryz.prog 200 = 1 := by kernel_rfl
theorem tb200 : tbytes Tryz.prog 200 = 4 := by kernel_rfl
theorem zl200 : zleaf Tryz.prog 200 = true := by kernel_rfl
theorem za200 : zav Tryz.prog 200 = [.int .i32 0] := by kernel_rfl
theorem ts201 : tsize Tryz.prog 201 = 11 := by kernel_rfl
theorem tb201 : tbytes Tryz.prog 201 = 48 := by kernel_rfl
theorem za201 : zav Tryz.prog 201 = [.int .u64 0, .int .u64 0, .int .u32 0, .int .u8 0, .int .u8 0, .int .u8 0, .int .u8 0, .raw .nilFunc, .raw (.pointer none), .int .i32 0, .int .i32 0] := by kernel_rfl
theorem ts202 : tsize Tryz.prog 202 = 11 := by kernel_rfl
theorem tb202 : tbytes Tryz.prog 202 = 48 := by kernel_rfl
theorem za202 : zav Tryz.prog 202 = [.int .u64 0, .int .u64 0, .int .u32 0, .int .u8 0, .int .u8 0, .int .u8 0, .int .u8 0, .raw .nilFunc, .raw (.pointer none), .int .i32 0, .int .i32 0] := by kernel_rfl
end Go.Proofs.YtikbgjhajgjjdaaGreatDoor
/- What the library's contracts on strings.Builder ask besides. Own work of this seat. -/
set_option maxRecDepth 100000
namespace Go.Proofs
open Go.Shelf
theorem Tryz.Builder_Extra_169 : Builder.Extra Tryz.prog Tryz.lays169_ren := {
  sizeBuilder := by kernel_rfl
  liesBuilder := by kernel_rfl
  t5 := Tryz.underlying5
  a5 := Tryz.isAgg5
  z5 := Tryz.sizeOf5
  v5 := Tryz.zeroValue5
  infoByte := by kernel_rfl
  cellsByte := by kernel_rfl
  sizeByte := by kernel_rfl
  neB5 := by decide }
theorem Tryz.Builder_Extra_105 : Builder.Extra Tryz.prog Tryz.lays105_ren := {
  sizeBuilder := by kernel_rfl
  liesBuilder := by kernel_rfl
  t5 := Tryz.underlying5
  a5 := Tryz.isAgg5
  z5 := Tryz.sizeOf5
  v5 := Tryz.zeroValue5
  infoByte := by kernel_rfl
  cellsByte := by kernel_rfl
  sizeByte := by kernel_rfl
  neB5 := by decide }
end Go.Proofs
/- What is leant on of the library's variables. Own work of this seat. -/
set_option linter.unusedSimpArgs false
set_option linter.unusedVariables false
namespace Go.Proofs.YtikbgjhajgjjdaaGreatDoor
open Go Go.Av Go.RowKit

structure LibOk (S : Std) : Prop where
  maxlen : ∃ m cs t z, S 0 = some (.cells cs t z) ∧ cs[0]? = some (.int .i64 m)
  pow10 : ∃ t z, S 3 = some (.cells (Lib.pow10Tab.map fun z => Value.int .u64 z).toArray t z)
  syn : ∃ te pe t z, S 1 = some (.cells #[.iface te pe] t z)

theorem LibOk.cell {S : Std} (hS : LibOk S) : ∃ m, ∀ w, Stands S w → w.cell? ⟨Tryz.lays144_ren.g 1, 0, none⟩ = some (.int .i64 m) := by
  obtain ⟨m, cs, t, z, h, h0⟩ := hS.maxlen
  exact ⟨m, fun w hw => (Lib.cell_of_heap (hw _ _ h) 0).trans h0⟩
end Go.Proofs.YtikbgjhajgjjdaaGreatDoor
/- From a contract in plain data to the row: what was there when the call began stands. Own work of this seat. -/
set_option linter.unusedSimpArgs false
set_option linter.unusedVariables false
namespace Go.Av
open Go Go.RowKit Go.WideShapes Go.ChangeShapes

theorem Same.below {W W' : World} (s : Same W W') : Below W.heap.size W W' := ⟨s.os, s.tape, s.output, s.size, s.block⟩

theorem rv_true {h : Mem} {v : Value} {b : Bool} (r : RV h Lf0 true v (.bool b)) : v = .bool b := by
  cases r with
  | bool => rfl

section
variable {H : Type} {enc : TypeId × Value → H} {P : Program}
/-- a call behind which all old blocks stand: the row's last step -/
theorem post_of_old {f : Func} {s : ChangeSpec} {apart fresh handsOn again : Bool} {W W' : World} {args : Array Value} {v : Value} {ds gs : List (DataW H)} {before pa pv : List MemPlace}
    (hW : DataW.Whole enc P f.params.toList s.vars apart W args.toList ds gs before)
    (hres : ∀ (b : Nat) (sp : Nat → Bool) (hd : Bool), DataW.TrodAll enc P W' b sp hd f.resultTypes.toList (v.resultList f.resultTypes.size) (s.fn H (ds ++ gs)).results [])
    (hargs : ∀ sp : Nat → Bool, (∀ p ∈ before, sp p.block = true) → DataW.TrodAll enc P W' 0 sp true f.params.toList args.toList (s.fn H (ds ++ gs)).args pa)
    (hvars : ∀ sp : Nat → Bool, (∀ p ∈ before, sp p.block = true) → DataW.TrodVars enc P W' sp s.vars (s.fn H (ds ++ gs)).vars pv)
    (hps : before = pa ++ pv) (hs : Same W W')
    (hok : ∀ (j : Nat) (t : TypeId) (r : Value), f.resultTypes[j]? = some t → (v.resultList f.resultTypes.size)[j]? = some r → Value.okWide P W' .any 0 t r) :
    s.post enc P f apart fresh handsOn again W args v W' := by
  have hb := hs.below
  have hlt : ∀ p ∈ before, p.block < W.heap.size := fun p hp => hW.lt p hp
  have hold : ∀ p ∈ before, (fun b => decide (b < W.heap.size)) p.block = true := fun p hp => decide_eq_true (hlt p hp)
  have hwritten : ∀ p ∈ before, p ∈ before ∧ (p ∈ ([] : List MemPlace) ++ pa ∨ p ∈ pv) := fun p hp => ⟨hp, by rw [hps] at hp; simpa using hp⟩
  refine ⟨ds, gs, before, [], pa, pv, hW, hres _ _ _, hargs _ hold, hvars _ hold, World.keptBut_mono (fun p hp => ⟨hp, ?_⟩) (hb.frame (· ∈ before)), fun _ => ?_⟩
  · have := (hwritten p hp).2
    simpa using this
  · obtain ⟨_, _, _, _, _, hz, hn⟩ := hW
    refine ⟨hok, _, _, ([] ++ pa) ++ pv, ⟨[] ++ pa, pv, trodAll_append (hargs _ (fun _ _ => rfl)) (hres _ _ _), hvars _ (fun _ _ => rfl), rfl, ?_, ?_⟩, ?_⟩
    · intro b off hp
      have hin : MemPlace.cell b off ∈ before := by rw [hps]; simpa using hp
      rw [hb.frozen (hlt _ hin)]
      exact hz b off hin
    · intro ha
      have h2 := hn ha
      rw [hps] at h2
      simpa using h2
    · intro p hp _
      rw [hps]
      simpa using hp
end
end Go.Av
