/- Closed facts of this seat's program, written by a program of this seat: which functions have a body; cells, bytes and zero values of types. -/
import Derived.Test.YtpjbbpilgfihbaaGreatDoorProg
import Derived.Test.YtpjbbpilgfihbaaGreatDoorAvT
set_option maxRecDepth 100000
set_option linter.unusedVariables false
namespace Go.Proofs.YtpjbbpilgfihbaaGreatDoor
open Go Go.Av Go.RowKit
theorem mixed : Tryz.prog.follows .mixedOrders = true := by kernel_rfl
theorem hB2 : hasBody Tryz.prog 2 = true := by kernel_rfl
theorem hB3 : hasBody Tryz.prog 3 = true := by kernel_rfl
theorem hB4 : hasBody Tryz.prog 4 = true := by kernel_rfl
theorem hB5 : hasBody Tryz.prog 5 = true := by kernel_rfl
theorem hB6 : hasBody Tryz.prog 6 = true := by kernel_rfl
theorem hB7 : hasBody Tryz.prog 7 = true := by kernel_rfl
theorem hB8 : hasBody Tryz.prog 8 = true := by kernel_rfl
theorem hB9 : hasBody Tryz.prog 9 = true := by kernel_rfl
theorem hB10 : hasBody Tryz.prog 10 = true := by kernel_rfl
theorem hB11 : hasBody Tryz.prog 11 = true := by kernel_rfl
theorem hB12 : hasBody Tryz.prog 12 = true := by kernel_rfl
theorem hB13 : hasBody Tryz.prog 13 = true := by kernel_rfl
theorem hB14 : hasBody Tryz.prog 14 = true := by kernel_rfl
theorem hB15 : hasBody Tryz.prog 15 = true := by kernel_rfl
theorem hB16 : hasBody Tryz.prog 16 = true := by kernel_rfl
theorem hB17 : hasBody Tryz.prog 17 = true := by kernel_rfl
theorem hB18 : hasBody Tryz.prog 18 = true := by kernel_rfl
theorem hB19 : hasBody Tryz.prog 19 = true := by kernel_rfl
theorem hB20 : hasBody Tryz.prog 20 = true := by kernel_rfl
theorem hB21 : hasBody Tryz.prog 21 = true := by kernel_rfl
theorem hB22 : hasBody Tryz.prog 22 = true := by kernel_rfl
theorem hB23 : hasBody Tryz.prog 23 = true := by kernel_rfl
theorem hB24 : hasBody Tryz.prog 24 = true := by kernel_rfl
theorem hB25 : hasBody Tryz.prog 25 = true := by kernel_rfl
theorem hB26 : hasBody Tryz.prog 26 = true := by kernel_rfl
theorem hB27 : hasBody Tryz.prog 27 = true := by kernel_rfl
theorem hB28 : hasBody Tryz.prog 28 = true := by kernel_rfl
theorem hB29 : hasBody Tryz.prog 29 = true := by kernel_rfl
theorem hB30 : hasBody Tryz.prog 30 = true := by kernel_rfl
theorem hB31 : hasBody Tryz.prog 31 = true := by kernel_rfl
theorem hB32 : hasBody Tryz.prog 32 = true := by kernel_rfl
theorem hB33 : hasBody Tryz.prog 33 = true := by kernel_rfl
theorem hB34 : hasBody Tryz.prog 34 = true := by kernel_rfl
theorem hB35 : hasBody Tryz.prog 35 = true := by kernel_rfl
theorem hB36 : hasBody Tryz.prog 36 = true := by kernel_rfl
theorem hB37 : hasBody Tryz.prog 37 = true := by kernel_rfl
theorem hB38 : hasBody Tryz.prog 38 = true := by kernel_rfl
theorem hB39 : hasBody Tryz.prog 39 = true := by kernel_rfl
theorem hB40 : hasBody Tryz.prog 40 = true := by kernel_rfl
theorem hB41 : hasBody Tryz.prog 41 = true := by kernel_rfl
theorem hB42 : hasBody Tryz.prog 42 = true := by kernel_rfl
theorem hB43 : hasBody Tryz.prog 43 = true := by kernel_rfl
theorem hB44 : hasBody Tryz.prog 44 = true := by kernel_rfl
theorem hB45 : hasBody Tryz.prog 45 = true := by kernel_rfl
theorem hB46 : hasBody Tryz.prog 46 = true := by kernel_rfl
theorem hB47 : hasBody Tryz.prog 47 = true := by kernel_rfl
theorem hB48 : hasBody Tryz.prog 48 = true := by kernel_rfl
theorem hB49 : hasBody Tryz.prog 49 = true := by kernel_rfl
theorem hB50 : hasBody Tryz.prog 50 = true := by kernel_rfl
theorem hB51 : hasBody Tryz.prog 51 = true := by kernel_rfl
theorem hB52 : hasBody Tryz.prog 52 = true := by kernel_rfl
theorem hB53 : hasBody Tryz.prog 53 = true := by kernel_rfl
theorem hB54 : hasBody Tryz.prog 54 = true := by kernel_rfl
theorem hB55 : hasBody Tryz.prog 55 = true := by kernel_rfl
theorem hB56 : hasBody Tryz.prog 56 = true := by kernel_rfl
theorem hB57 : hasBody Tryz.prog 57 = true := by kernel_rfl
theorem hB58 : hasBody Tryz.prog 58 = true := by kernel_rfl
theorem hB59 : hasBody Tryz.prog 59 = true := by kernel_rfl
theorem hB60 : hasBody Tryz.prog 60 = true := by kernel_rfl
theorem hB61 : hasBody Tryz.prog 61 = true := by kernel_rfl
theorem hB62 : hasBody Tryz.prog 62 = true := by kernel_rfl
theorem hB63 : hasBody Tryz.prog 63 = true := by kernel_rfl
theorem hB64 : hasBody Tryz.prog 64 = true := by kernel_rfl
theorem hB65 : hasBody Tryz.prog 65 = true := by kernel_rfl
theorem hB66 : hasBody Tryz.prog 66 = true := by kernel_rfl
theorem hB67 : hasBody Tryz.prog 67 = true := by kernel_rfl
theorem hB68 : hasBody Tryz.prog 68 = true := by kernel_rfl
theorem hB69 : hasBody Tryz.prog 69 = true := by kernel_rfl
theorem hB70 : hasBody Tryz.prog 70 = true := by kernel_rfl
theorem hB71 : hasBody Tryz.prog 71 = true := by kernel_rfl
theorem hB72 : hasBody Tryz.prog 72 = true := by kernel_rfl
theorem hB73 : hasBody Tryz.prog 73 = true := by kernel_rfl
theorem hB74 : hasBody Tryz.prog 74 = true := by kernel_rfl
theorem hB75 : hasBody Tryz.prog 75 = true := by kernel_rfl
theorem hB76 : hasBody Tryz.prog 76 = true := by kernel_rfl
theorem hB77 : hasBody Tryz.prog 77 = true := by kernel_rfl
theorem hB78 : hasBody Tryz.prog 78 = true := by kernel_rfl
theorem hB79 : hasBody Tryz.prog 79 = true := by kernel_rfl
theorem hB80 : hasBody Tryz.prog 80 = true := by kernel_rfl
theorem hB81 : hasBody Tryz.prog 81 = true := by kernel_rfl
theorem hB82 : hasBody Tryz.prog 82 = true := by kernel_rfl
theorem hB83 : hasBody Tryz.prog 83 = true := by kernel_rfl
theorem hB84 : hasBody Tryz.prog 84 = true := by kernel_rfl
theorem hB85 : hasBody Tryz.prog 85 = true := by kernel_rfl
theorem hB86 : hasBody Tryz.prog 86 = true := by kernel_rfl
theorem hB87 : hasBody Tryz.prog 87 = true := by kernel_rfl
theorem hB88 : hasBody Tryz.prog 88 = true := by kernel_rfl
theorem hB89 : hasBody Tryz.prog 89 = true := by kernel_rfl
theorem hB90 : hasBody Tryz.prog 90 = true := by kernel_rfl
theorem hB91 : hasBody Tryz.prog 91 = true := by kernel_rfl
theorem hB92 : hasBody Tryz.prog 92 = true := by kernel_rfl
theorem hB93 : hasBody Tryz.prog 93 = true := by kernel_rfl
theorem hB94 : hasBody Tryz.prog 94 = true := by kernel_rfl
theorem hB95 : hasBody Tryz.prog 95 = true := by kernel_rfl
theorem hB96 : hasBody Tryz.prog 96 = true := by kernel_rfl
theorem hB97 : hasBody Tryz.prog 97 = true := by kernel_rfl
theorem hB98 : hasBody Tryz.prog 98 = true := by kernel_rfl
theorem hB99 : hasBody Tryz.prog 99 = true := by kernel_rfl
theorem hB100 : hasBody Tryz.prog 100 = true := by kernel_rfl
theorem hB101 : hasBody Tryz.prog 101 = true := by kernel_rfl
theorem hB102 : hasBody Tryz.prog 102 = true := by kernel_rfl
theorem hB103 : hasBody Tryz.prog 103 = true := by kernel_rfl
theorem hB104 : hasBody Tryz.prog 104 = true := by kernel_rfl
theorem hB105 : hasBody Tryz.prog 105 = true := by kernel_rfl
theorem hB106 : hasBody Tryz.prog 106 = true := by kernel_rfl
theorem hB107 : hasBody Tryz.prog 107 = true := by kernel_rfl
theorem hB108 : hasBody Tryz.prog 108 = true := by kernel_rfl
theorem hB109 : hasBody Tryz.prog 109 = true := by kernel_rfl
theorem hB110 : hasBody Tryz.prog 110 = true := by kernel_rfl
theorem hB111 : hasBody Tryz.prog 111 = true := by kernel_rfl
theorem hB112 : hasBody Tryz.prog 112 = true := by kernel_rfl
theorem hB113 : hasBody Tryz.prog 113 = true := by kernel_rfl
theorem hB114 : hasBody Tryz.prog 114 = true := by kernel_rfl
theorem hB115 : hasBody Tryz.prog 115 = true := by kernel_rfl
theorem hB116 : hasBody Tryz.prog 116 = true := by kernel_rfl
theorem hB117 : hasBody Tryz.prog 117 = true := by kernel_rfl
theorem hB118 : hasBody Tryz.prog 118 = true := by kernel_rfl
theorem hB119 : hasBody Tryz.prog 119 = true := by kernel_rfl
theorem hB120 : hasBody Tryz.prog 120 = true := by kernel_rfl
theorem hB121 : hasBody Tryz.prog 121 = true := by kernel_rfl
theorem hB122 : hasBody Tryz.prog 122 = true := by kernel_rfl
theorem hB123 : hasBody Tryz.prog 123 = true := by kernel_rfl
theorem hB124 : hasBody Tryz.prog 124 = true := by kernel_rfl
theorem hB125 : hasBody Tryz.prog 125 = true := by kernel_rfl
theorem hB126 : hasBody Tryz.prog 126 = true := by kernel_rfl
theorem hB127 : hasBody Tryz.prog 127 = true := by kernel_rfl
theorem hB128 : hasBody Tryz.prog 128 = true := by kernel_rfl
theorem hB129 : hasBody Tryz.prog 129 = true := by kernel_rfl
theorem hB130 : hasBody Tryz.prog 130 = true := by kernel_rfl
theorem hB131 : hasBody Tryz.prog 131 = true := by kernel_rfl
theorem hB133 : hasBody Tryz.prog 133 = true := by kernel_rfl
theorem hB134 : hasBody Tryz.prog 134 = true := by kernel_rfl
theorem hB135 : hasBody Tryz.prog 135 = true := by kernel_rfl
theorem hB136 : hasBody Tryz.prog 136 = true := by kernel_rfl
theorem hB137 : hasBody Tryz.prog 137 = true := by kernel_rfl
theorem hB138 : hasBody Tryz.prog 138 = true := by kernel_rfl
theorem hB139 : hasBody Tryz.prog 139 = true := by kernel_rfl
theorem hB140 : hasBody Tryz.prog 140 = true := by kernel_rfl
theorem hB141 : hasBody Tryz.prog 141 = true := by kernel_rfl
theorem hB142 : hasBody Tryz.prog 142 = true := by kernel_rfl
theorem hB143 : hasBody Tryz.prog 143 = true := by kernel_rfl
theorem hB144 : hasBody Tryz.prog 144 = true := by kernel_rfl
theorem hB145 : hasBody Tryz.prog 145 = true := by kernel_rfl
theorem hB146 : hasBody Tryz.prog 146 = true := by kernel_rfl
theorem hB147 : hasBody Tryz.prog 147 = true := by kernel_rfl
theorem hB148 : hasBody Tryz.prog 148 = true := by kernel_rfl
theorem hB149 : hasBody Tryz.prog 149 = true := by kernel_rfl
theorem hB150 : hasBody Tryz.prog 150 = true := by kernel_rfl
theorem hB151 : hasBody Tryz.prog 151 = true := by kernel_rfl
theorem hB152 : hasBody Tryz.prog 152 = true := by kernel_rfl
theorem hB153 : hasBody Tryz.prog 153 = true := by kernel_rfl
theorem hB155 : hasBody Tryz.prog 155 = true := by kernel_rfl
theorem hB156 : hasBody Tryz.prog 156 = true := by kernel_rfl
theorem hB157 : hasBody Tryz.prog 157 = true := by kernel_rfl
theorem hB158 : hasBody Tryz.prog 158 = true := by kernel_rfl
theorem hB159 : hasBody Tryz.prog 159 = true := by kernel_rfl
theorem hB160 : hasBody Tryz.prog 160 = true := by kernel_rfl
theorem hB161 : hasBody Tryz.prog 161 = true := by kernel_rfl
theorem hB162 : hasBody Tryz.prog 162 = true := by kernel_rfl
theorem hB163 : hasBody Tryz.prog 163 = true := by kernel_rfl
theorem hB164 : hasBody Tryz.prog 164 = true := by kernel_rfl
theorem hB165 : hasBody Tryz.prog 165 = true := by kernel_rfl
theorem hB166 : hasBody Tryz.prog 166 = true := by kernel_rfl
theorem hB168 : hasBody Tryz.prog 168 = true := by kernel_rfl
theorem hB169 : hasBody Tryz.prog 169 = true := by kernel_rfl
theorem hB170 : hasBody Tryz.prog 170 = true := by kernel_rfl
theorem hB171 : hasBody Tryz.prog 171 = true := by kernel_rfl
theorem hB172 : hasBody Tryz.prog 172 = true := by kernel_rfl
theorem hB173 : hasBody Tryz.prog 173 = true := by kernel_rfl
theorem hB174 : hasBody Tryz.prog 174 = true := by kernel_rfl
theorem hB175 : hasBody Tryz.prog 175 = true := by kernel_rfl
theorem hB177 : hasBody Tryz.prog 177 = true := by kernel_rfl
theorem hB178 : hasBody Tryz.prog 178 = true := by kernel_rfl
theorem hB179 : hasBody Tryz.prog 179 = true := by kernel_rfl
theorem hB180 : hasBody Tryz.prog 180 = true := by kernel_rfl
theorem hB181 : hasBody Tryz.prog 181 = true := by kernel_rfl
theorem hB182 : hasBody Tryz.prog 182 = true := by kernel_rfl
theorem hB183 : hasBody Tryz.prog 183 = true := by kernel_rfl
theorem hB184 : hasBody Tryz.prog 184 = true := by kernel_rfl
theorem hB185 : hasBody Tryz.prog 185 = true := by kernel_rfl
theorem hB186 : hasBody Tryz.prog 186 = true := by kernel_rfl
theorem hB187 : hasBody Tryz.prog 187 = true := by kernel_rfl
theorem hB189 : hasBody Tryz.prog 189 = true := by kernel_rfl
theorem hB190 : hasBody Tryz.prog 190 = true := by kernel_rfl
theorem hB191 : hasBody Tryz.prog 191 = true := by kernel_rfl
theorem hB192 : hasBody Tryz.prog 192 = true := by kernel_rfl
theorem hB193 : hasBody Tryz.prog 193 = true := by kernel_rfl
theorem hB194 : hasBody Tryz.prog 194 = true := by kernel_rfl
theorem hB195 : hasBody Tryz.prog 195 = true := by kernel_rfl
theorem hB196 : hasBody Tryz.prog 196 = true := by kernel_rfl
theorem hB197 : hasBody Tryz.prog 197 = true := by kernel_rfl
theorem hB198 : hasBody Tryz.prog 198 = true := by kernel_rfl
theorem hB200 : hasBody Tryz.prog 200 = true := by kernel_rfl
theorem hB201 : hasBody Tryz.prog 201 = true := by kernel_rfl
theorem hB202 : hasBody Tryz.prog 202 = true := by kernel_rfl
theorem hB203 : hasBody Tryz.prog 203 = true := by kernel_rfl
theorem hB204 : hasBody Tryz.prog 204 = true := by kernel_rfl
theorem hB205 : hasBody Tryz.prog 205 = true := by kernel_rfl
theorem hB206 : hasBody Tryz.prog 206 = true := by kernel_rfl
theorem hB207 : hasBody Tryz.prog 207 = true := by kernel_rfl
theorem hB208 : hasBody Tryz.prog 208 = true := by kernel_rfl
theorem hB209 : hasBody Tryz.prog 209 = true := by kernel_rfl
theorem hB240 : hasBody Tryz.prog 240 = true := by kernel_rfl
theorem ts2 : tsize Tryz.prog 2 = 1 := by kernel_rfl
theorem tb2 : tbytes Tryz.prog 2 = 8 := by kernel_rfl
theorem zl2 : zleaf Tryz.prog 2 = true := by kernel_rfl
theorem za2 : zav Tryz.prog 2 = [.int .i64 0] := by kernel_rfl
theorem ts3 : tsize Tryz.prog 3 = 1 := by kernel_rfl
theorem tb3 : tbytes Tryz.prog 3 = 8 := by kernel_rfl
theorem zl3 : zleaf Tryz.prog 3 = true := by kernel_rfl
theorem za3 : zav Tryz.prog 3 = [.int .i64 0] := by kernel_rfl
theorem ts4 : tsize Tryz.prog 4 = 1 := by kernel_rfl
theorem tb4 : tbytes Tryz.prog 4 = 1 := by kernel_rfl
theorem zl4 : zleaf Tryz.prog 4 = true := by kernel_rfl
theorem za4 : zav Tryz.prog 4 = [.bool false] := by kernel_rfl
theorem ts5 : tsize Tryz.prog 5 = 1 := by kernel_rfl
theorem tb5 : tbytes Tryz.prog 5 = 1 := by kernel_rfl
theorem zl5 : zleaf Tryz.prog 5 = true := by kernel_rfl
theorem za5 : zav Tryz.prog 5 = [.int .u8 0] := by kernel_rfl
theorem ts6 : tsize Tryz.prog 6 = 1 := by kernel_rfl
theorem tb6 : tbytes Tryz.prog 6 = 1 := by kernel_rfl
theorem zl6 : zleaf Tryz.prog 6 = true := by kernel_rfl
theorem za6 : zav Tryz.prog 6 = [.int .u8 0] := by kernel_rfl
theorem ts7 : tsize Tryz.prog 7 = 4 := by kernel_rfl
theorem tb7 : tbytes Tryz.prog 7 = 24 := by kernel_rfl
theorem za7 : zav Tryz.prog 7 = [.int .i64 0, .int .i64 0, .bool false, .int .u8 0] := by kernel_rfl
theorem ts8 : tsize Tryz.prog 8 = 4 := by kernel_rfl
theorem tb8 : tbytes Tryz.prog 8 = 24 := by kernel_rfl
theorem za8 : zav Tryz.prog 8 = [.int .i64 0, .int .i64 0, .bool false, .int .u8 0] := by kernel_rfl
theorem ts9 : tsize Tryz.prog 9 = 1 := by kernel_rfl
theorem tb9 : tbytes Tryz.prog 9 = 16 := by kernel_rfl
theorem zl9 : zleaf Tryz.prog 9 = true := by kernel_rfl
theorem za9 : zav Tryz.prog 9 = [.str []] := by kernel_rfl
theorem ts10 : tsize Tryz.prog 10 = 1 := by kernel_rfl
theorem tb10 : tbytes Tryz.prog 10 = 16 := by kernel_rfl
theorem zl10 : zleaf Tryz.prog 10 = true := by kernel_rfl
theorem za10 : zav Tryz.prog 10 = [.str []] := by kernel_rfl
theorem ts11 : tsize Tryz.prog 11 = 1 := by kernel_rfl
theorem tb11 : tbytes Tryz.prog 11 = 16 := by kernel_rfl
theorem zl11 : zleaf Tryz.prog 11 = true := by kernel_rfl
theorem za11 : zav Tryz.prog 11 = [.str []] := by kernel_rfl
theorem ts12 : tsize Tryz.prog 12 = 1 := by kernel_rfl
theorem tb12 : tbytes Tryz.prog 12 = 8 := by kernel_rfl
theorem zl12 : zleaf Tryz.prog 12 = true := by kernel_rfl
theorem za12 : zav Tryz.prog 12 = [.int .u64 0] := by kernel_rfl
theorem ts13 : tsize Tryz.prog 13 = 2 := by kernel_rfl
theorem tb13 : tbytes Tryz.prog 13 = 24 := by kernel_rfl
theorem za13 : zav Tryz.prog 13 = [.str [], .int .u64 0] := by kernel_rfl
theorem ts14 : tsize Tryz.prog 14 = 2 := by kernel_rfl
theorem tb14 : tbytes Tryz.prog 14 = 24 := by kernel_rfl
theorem za14 : zav Tryz.prog 14 = [.str [], .int .u64 0] := by kernel_rfl
theorem ts18 : tsize Tryz.prog 18 = 1 := by kernel_rfl
theorem tb18 : tbytes Tryz.prog 18 = 8 := by kernel_rfl
theorem za18 : zav Tryz.prog 18 = [.raw (.pointer none)] := by kernel_rfl
theorem ts19 : tsize Tryz.prog 19 = 1 := by kernel_rfl
theorem tb19 : tbytes Tryz.prog 19 = 8 := by kernel_rfl
theorem za19 : zav Tryz.prog 19 = [.raw (.pointer none)] := by kernel_rfl
theorem ts21 : tsize Tryz.prog 21 = 1 := by kernel_rfl
theorem tb21 : tbytes Tryz.prog 21 = 4 := by kernel_rfl
theorem zl21 : zleaf Tryz.prog 21 = true := by kernel_rfl
theorem za21 : zav Tryz.prog 21 = [.int .i32 0] := by kernel_rfl
theorem ts22 : tsize Tryz.prog 22 = 1 := by kernel_rfl
theorem tb22 : tbytes Tryz.prog 22 = 24 := by kernel_rfl
theorem zl22 : zleaf Tryz.prog 22 = true := by kernel_rfl
theorem za22 : zav Tryz.prog 22 = [.raw (.slice none 0 0)] := by kernel_rfl
theorem ts24 : tsize Tryz.prog 24 = 2 := by kernel_rfl
theorem tb24 : tbytes Tryz.prog 24 = 32 := by kernel_rfl
theorem za24 : zav Tryz.prog 24 = [.raw (.slice none 0 0), .int .i64 0] := by kernel_rfl
theorem ts25 : tsize Tryz.prog 25 = 2 := by kernel_rfl
theorem tb25 : tbytes Tryz.prog 25 = 32 := by kernel_rfl
theorem za25 : zav Tryz.prog 25 = [.raw (.slice none 0 0), .int .i64 0] := by kernel_rfl
theorem ts27 : tsize Tryz.prog 27 = 1 := by kernel_rfl
theorem tb27 : tbytes Tryz.prog 27 = 8 := by kernel_rfl
theorem zl27 : zleaf Tryz.prog 27 = true := by kernel_rfl
theorem za27 : zav Tryz.prog 27 = [.int .i64 0] := by kernel_rfl
theorem ts35 : tsize Tryz.prog 35 = 1 := by kernel_rfl
theorem tb35 : tbytes Tryz.prog 35 = 24 := by kernel_rfl
theorem zl35 : zleaf Tryz.prog 35 = true := by kernel_rfl
theorem za35 : zav Tryz.prog 35 = [.raw (.slice none 0 0)] := by kernel_rfl
theorem ts36 : tsize Tryz.prog 36 = 2 := by kernel_rfl
theorem tb36 : tbytes Tryz.prog 36 = 40 := by kernel_rfl
theorem za36 : zav Tryz.prog 36 = [.str [], .raw (.slice none 0 0)] := by kernel_rfl
theorem ts37 : tsize Tryz.prog 37 = 2 := by kernel_rfl
theorem tb37 : tbytes Tryz.prog 37 = 40 := by kernel_rfl
theorem za37 : zav Tryz.prog 37 = [.str [], .raw (.slice none 0 0)] := by kernel_rfl
theorem ts39 : tsize Tryz.prog 39 = 1 := by kernel_rfl
theorem tb39 : tbytes Tryz.prog 39 = 24 := by kernel_rfl
theorem zl39 : zleaf Tryz.prog 39 = true := by kernel_rfl
theorem za39 : zav Tryz.prog 39 = [.raw (.slice none 0 0)] := by kernel_rfl
theorem ts41 : tsize Tryz.prog 41 = 4 := by kernel_rfl
theorem tb41 : tbytes Tryz.prog 41 = 40 := by kernel_rfl
theorem za41 : zav Tryz.prog 41 = [.str [], .int .i64 0, .int .i64 0, .int .i64 0] := by kernel_rfl
theorem ts42 : tsize Tryz.prog 42 = 4 := by kernel_rfl
theorem tb42 : tbytes Tryz.prog 42 = 40 := by kernel_rfl
theorem za42 : zav Tryz.prog 42 = [.str [], .int .i64 0, .int .i64 0, .int .i64 0] := by kernel_rfl
theorem ts63 : tsize Tryz.prog 63 = 1 := by kernel_rfl
theorem tb63 : tbytes Tryz.prog 63 = 8 := by kernel_rfl
theorem zl63 : zleaf Tryz.prog 63 = true := by kernel_rfl
theorem za63 : zav Tryz.prog 63 = [.raw (.map none)] := by kernel_rfl
theorem ts64 : tsize Tryz.prog 64 = 1 := by kernel_rfl
theorem tb64 : tbytes Tryz.prog 64 = 24 := by kernel_rfl
theorem zl64 : zleaf Tryz.prog 64 = true := by kernel_rfl
theorem za64 : zav Tryz.prog 64 = [.raw (.slice none 0 0)] := by kernel_rfl
theorem ts65 : tsize Tryz.prog 65 = 5 := by kernel_rfl
theorem tb65 : tbytes Tryz.prog 65 = 72 := by kernel_rfl
theorem za65 : zav Tryz.prog 65 = [.str [], .int .i64 0, .str [], .int .i64 0, .raw (.slice none 0 0)] := by kernel_rfl
theorem ts66 : tsize Tryz.prog 66 = 5 := by kernel_rfl
theorem tb66 : tbytes Tryz.prog 66 = 72 := by kernel_rfl
theorem za66 : zav Tryz.prog 66 = [.str [], .int .i64 0, .str [], .int .i64 0, .raw (.slice none 0 0)] := by kernel_rfl
theorem ts67 : tsize Tryz.prog 67 = 1 := by kernel_rfl
theorem tb67 : tbytes Tryz.prog 67 = 24 := by kernel_rfl
theorem zl67 : zleaf Tryz.prog 67 = true := by kernel_rfl
theorem za67 : zav Tryz.prog 67 = [.raw (.slice none 0 0)] := by kernel_rfl
theorem ts69 : tsize Tryz.prog 69 = 3 := by kernel_rfl
theorem tb69 : tbytes Tryz.prog 69 = 32 := by kernel_rfl
theorem za69 : zav Tryz.prog 69 = [.int .i64 0, .int .i64 0, .str []] := by kernel_rfl
theorem ts70 : tsize Tryz.prog 70 = 3 := by kernel_rfl
theorem tb70 : tbytes Tryz.prog 70 = 32 := by kernel_rfl
theorem za70 : zav Tryz.prog 70 = [.int .i64 0, .int .i64 0, .str []] := by kernel_rfl
theorem ts73 : tsize Tryz.prog 73 = 2 := by kernel_rfl
theorem tb73 : tbytes Tryz.prog 73 = 24 := by kernel_rfl
theorem za73 : zav Tryz.prog 73 = [.int .i64 0, .str []] := by kernel_rfl
theorem ts74 : tsize Tryz.prog 74 = 2 := by kernel_rfl
theorem tb74 : tbytes Tryz.prog 74 = 24 := by kernel_rfl
theorem za74 : zav Tryz.prog 74 = [.int .i64 0, .str []] := by kernel_rfl
theorem ts75 : tsize Tryz.prog 75 = 1 := by kernel_rfl
theorem tb75 : tbytes Tryz.prog 75 = 24 := by kernel_rfl
theorem zl75 : zleaf Tryz.prog 75 = true := by kernel_rfl
theorem za75 : zav Tryz.prog 75 = [.raw (.slice none 0 0)] := by kernel_rfl
theorem ts82 : tsize Tryz.prog 82 = 1 := by kernel_rfl
theorem tb82 : tbytes Tryz.prog 82 = 8 := by kernel_rfl
theorem zl82 : zleaf Tryz.prog 82 = true := by kernel_rfl
theorem za82 : zav Tryz.prog 82 = [.raw (.pointer none)] := by kernel_rfl
theorem ts96 : tsize Tryz.prog 96 = 2 := by kernel_rfl
theorem tb96 : tbytes Tryz.prog 96 = 24 := by kernel_rfl
theorem za96 : zav Tryz.prog 96 = [.int .i64 0, .str []] := by kernel_rfl
theorem ts97 : tsize Tryz.prog 97 = 2 := by kernel_rfl
theorem tb97 : tbytes Tryz.prog 97 = 24 := by kernel_rfl
theorem za97 : zav Tryz.prog 97 = [.int .i64 0, .str []] := by kernel_rfl
theorem ts103 : tsize Tryz.prog 103 = 3 := by kernel_rfl
theorem tb103 : tbytes Tryz.prog 103 = 48 := by kernel_rfl
theorem za103 : zav Tryz.prog 103 = [.str [], .raw (.slice none 0 0), .int .i64 0] := by kernel_rfl
theorem ts104 : tsize Tryz.prog 104 = 3 := by kernel_rfl
theorem tb104 : tbytes Tryz.prog 104 = 48 := by kernel_rfl
theorem za104 : zav Tryz.prog 104 = [.str [], .raw (.slice none 0 0), .int .i64 0] := by kernel_rfl
theorem ts109 : tsize Tryz.prog 109 = 1 := by kernel_rfl
theorem tb109 : tbytes Tryz.prog 109 = 8 := by kernel_rfl
theorem zl109 : zleaf Tryz.prog 109 = true := by kernel_rfl
theorem za109 : zav Tryz.prog 109 = [.raw (.map none)] := by kernel_rfl
theorem ts116 : tsize Tryz.prog 116 = 1 := by kernel_rfl
theorem tb116 : tbytes Tryz.prog 116 = 24 := by kernel_rfl
theorem zl116 : zleaf Tryz.prog 116 = true := by kernel_rfl
theorem za116 : zav Tryz.prog 116 = [.raw (.slice none 0 0)] := by kernel_rfl
theorem ts117 : tsize Tryz.prog 117 = 2 := by kernel_rfl
theorem tb117 : tbytes Tryz.prog 117 = 32 := by kernel_rfl
theorem za117 : zav Tryz.prog 117 = [.raw (.pointer none), .raw (.slice none 0 0)] := by kernel_rfl
theorem ts118 : tsize Tryz.prog 118 = 2 := by kernel_rfl
theorem tb118 : tbytes Tryz.prog 118 = 32 := by kernel_rfl
theorem za118 : zav Tryz.prog 118 = [.raw (.pointer none), .raw (.slice none 0 0)] := by kernel_rfl
theorem ts120 : tsize Tryz.prog 120 = 1 := by kernel_rfl
theorem tb120 : tbytes Tryz.prog 120 = 16 := by kernel_rfl
theorem zl120 : zleaf Tryz.prog 120 = true := by kernel_rfl
theorem za120 : zav Tryz.prog 120 = [.raw .nilIface] := by kernel_rfl
theorem ts124 : tsize Tryz.prog 124 = 1 := by kernel_rfl
theorem tb124 : tbytes Tryz.prog 124 = 24 := by kernel_rfl
theorem zl124 : zleaf Tryz.prog 124 = true := by kernel_rfl
theorem za124 : zav Tryz.prog 124 = [.raw (.slice none 0 0)] := by kernel_rfl
theorem ts126 : tsize Tryz.prog 126 = 2 := by kernel_rfl
theorem tb126 : tbytes Tryz.prog 126 = 16 := by kernel_rfl
theorem za126 : zav Tryz.prog 126 = [.int .i64 0, .int .i64 0] := by kernel_rfl
theorem ts128 : tsize Tryz.prog 128 = 1 := by kernel_rfl
theorem tb128 : tbytes Tryz.prog 128 = 24 := by kernel_rfl
theorem zl128 : zleaf Tryz.prog 128 = true := by kernel_rfl
theorem za128 : zav Tryz.prog 128 = [.raw (.slice none 0 0)] := by kernel_rfl
theorem ts130 : tsize Tryz.prog 130 = 4 := by kernel_rfl
theorem tb130 : tbytes Tryz.prog 130 = 72 := by kernel_rfl
theorem za130 : zav Tryz.prog 130 = [.int .i64 0, .raw (.slice none 0 0), .raw (.slice none 0 0), .str []] := by kernel_rfl
theorem ts131 : tsize Tryz.prog 131 = 4 := by kernel_rfl
theorem tb131 : tbytes Tryz.prog 131 = 72 := by kernel_rfl
theorem za131 : zav Tryz.prog 131 = [.int .i64 0, .raw (.slice none 0 0), .raw (.slice none 0 0), .str []] := by kernel_rfl
theorem ts153 : tsize Tryz.prog 153 = 1 := by kernel_rfl
theorem tb153 : tbytes Tryz.prog 153 = 8 := by kernel_rfl
theorem zl153 : zleaf Tryz.prog 153 = true := by kernel_rfl
theorem za153 : zav Tryz.prog 153 = [.raw (.pointer none)] := by kernel_rfl
theorem ts167 : tsize Tryz.prog 167 = 1 := by kernel_rfl
theorem tb167 : tbytes Tryz.prog 167 = 8 := by kernel_rfl
theorem zl167 : zleaf Tryz.prog 167 = true := by kernel_rfl
theorem za167 : zav Tryz.prog 167 = [.raw (.pointer none)] := by kernel_rfl
theorem ts171 : tsize Tryz.prog 171 = 1 := by kernel_rfl
theorem tb171 : tbytes Tryz.prog 171 = 8 := by kernel_rfl
theorem zl171 : zleaf Tryz.prog 171 = true := by kernel_rfl
theorem za171 : zav Tryz.prog 171 = [.int .i64 0] := by kernel_rfl
theorem ts177 : tsize Tryz.prog 177 = 1 := by kernel_rfl
theorem tb177 : tbytes Tryz.prog 177 = 8 := by kernel_rfl
theorem zl177 : zleaf Tryz.prog 177 = true := by kernel_rfl
theorem za177 : zav Tryz.prog 177 = [.int .u64 0] := by kernel_rfl
theorem ts183 : tsize Tryz.prog 183 = 1 := by kernel_rfl
theorem tb183 : tbytes Tryz.prog 183 = 8 := by kernel_rfl
theorem zl183 : zleaf Tryz.prog 183 = true := by kernel_rfl
theorem za183 : zav Tryz.prog 183 = [.raw (.pointer none)] := by kernel_rfl
theorem ts189 : tsize Tryz.prog 189 = 1 := by kernel_rfl
theorem tb189 : tbytes Tryz.prog 189 = 8 := by kernel_rfl
theorem zl189 : zleaf Tryz.prog 189 = true := by kernel_rfl
theorem za189 : zav Tryz.prog 189 = [.raw .nilFunc] := by kernel_rfl
theorem ts191 : tsize Tryz.prog 191 = 1 := by kernel_rfl
theorem tb191 : tbytes Tryz.prog 191 = 8 := by kernel_rfl
theorem zl191 : zleaf Tryz.prog 191 = true := by kernel_rfl
theorem za191 : zav Tryz.prog 191 = [.int .u64 0] := by kernel_rfl
theorem ts195 : tsize Tryz.prog 195 = 3 := by kernel_rfl
theorem tb195 : tbytes Tryz.prog 195 = 48 := by kernel_rfl
theorem za195 : zav Tryz.prog 195 = [.str [], .str [], .raw .nilIface] := by kernel_rfl
theorem ts196 : tsize Tryz.prog 196 = 3 := by kernel_rfl
theorem tb196 : tbytes Tryz.prog 196 = 48 := by kernel_rfl
theorem za196 : zav Tryz.prog 196 = [.str [], .str [], .raw .nilIface] := by kernel_rfl
theorem ts198 : tsize Tryz.prog 198 = 1 := by kernel_rfl
theorem tb198 : tbytes Tryz.prog 198 = 4 := by kernel_rfl
theorem zl198 : zleaf Tryz.prog 198 = true := by kernel_rfl
theorem za198 : zav Tryz.prog 198 = [.int .u32 0] := by kernel_rfl
theorem ts203 : tsize Tryz.prog 203 = 24 := by kernel_rfl
theorem tb203 : tbytes Tryz.prog 203 = 24 := by kernel_rfl
theorem ts209 : tsize Tryz.prog 209 = 2 := by kernel_rfl
theorem tb209 : tbytes Tryz.prog 209 = 2 := by kernel_rfl
theorem za209 : zav Tryz.prog 209 = [.int .u8 0, .int .u8 0] := by kernel_rfl
theorem ts210 : tsize Tryz.prog 210 = 2 := by kernel_rfl
theorem tb210 : tbytes Tryz.prog 210 = 2 := by kernel_rfl
theorem za210 : zav Tryz.prog 210 = [.int .u8 0, .int .u8 0] := by kernel_rfl
theorem ts211 : tsize Tryz.prog 211 = 32 := by kernel_rfl
theorem tb211 : tbytes Tryz.prog 211 = 32 := by kernel_rfl
theorem ts216 : tsize Tryz.prog 216 = 1 := by kernel_rfl
theorem tb216 : tbytes Tryz.prog 216 = 16 := by kernel_rfl
theorem za216 : zav Tryz.prog 216 = [.str []] := by kernel_rfl
theorem ts217 : tsize Tryz.prog 217 = 1 := by kernel_rfl
theorem tb217 : tbytes Tryz.prog 217 = 16 := by kernel_rfl
theorem za217 : zav Tryz.prog 217 = [.str []] := by kernel_rfl
theorem ts220 : tsize Tryz.prog 220 = 20 := by kernel_rfl
theorem tb220 : tbytes Tryz.prog 220 = 160 := by kernel_rfl
theorem ts225 : tsize Tryz.prog 225 = 32 := by kernel_rfl
theorem tb225 : tbytes Tryz.prog 225 = 32 := by kernel_rfl
theorem ts226 : tsize Tryz.prog 226 = 64 := by kernel_rfl
theorem tb226 : tbytes Tryz.prog 226 = 64 := by kernel_rfl
theorem ts227 : tsize Tryz.prog 227 = 4 := by kernel_rfl
theorem tb227 : tbytes Tryz.prog 227 = 40 := by kernel_rfl
theorem za227 : zav Tryz.prog 227 = [.raw (.pointer none), .raw (.pointer none), .raw (.pointer none), .str []] := by kernel_rfl
theorem ts228 : tsize Tryz.prog 228 = 4 := by kernel_rfl
theorem tb228 : tbytes Tryz.prog 228 = 40 := by kernel_rfl
theorem za228 : zav Tryz.prog 228 = [.raw (.pointer none), .raw (.pointer none), .raw (.pointer none), .str []] := by kernel_rfl
theorem ts232 : tsize Tryz.prog 232 = 1 := by kernel_rfl
theorem tb232 : tbytes Tryz.prog 232 = 1 := by kernel_rfl
theorem zl232 : zleaf Tryz.prog 232 = true := by kernel_rfl
theorem za232 : zav Tryz.prog 232 = [.int .u8 0] := by kernel_rfl
theorem ts233 : tsize Tryz.prog 233 = 1 := by kernel_rfl
theorem tb233 : tbytes Tryz.prog 233 = 1 := by kernel_rfl
theorem zl233 : zleaf Tryz.prog 233 = true := by kernel_rfl
theorem za233 : zav Tryz.prog 233 = [.int .u8 0] := by kernel_rfl
theorem ts235 : tsize Tryz.prog 235 = 1 := by kernel_rfl
theorem tb235 : tbytes Tryz.prog 235 = 4 := by kernel_rfl
theorem zl235 : zleaf Tryz.prog 235 = true := by kernel_rfl
theorem za235 : zav Tryz.prog 235 = [.int .i32 0] := by kernel_rfl
theorem ts236 : tsize Tryz.prog 236 = 1 := by kernel_rfl
theorem tb236 : tbytes Tryz.prog 236 = 4 := by kernel_rfl
theorem zl236 : zleaf Tryz.prog 236 = true := by kernel_rfl
theorem za236 : zav Tryz.prog 236 = [.int .i32 0] := by kernel_rfl
theorem ts237 : tsize Tryz.prog 237 = 11 := by kernel_rfl
theorem tb237 : tbytes Tryz.prog 237 = 48 := by kernel_rfl
theorem za237 : zav Tryz.prog 237 = [.int .u64 0, .int .u64 0, .int .u32 0, .int .u8 0, .int .u8 0, .int .u8 0, .int .u8 0, .raw .nilFunc, .raw (.pointer none), .int .i32 0, .int .i32 0] := by kernel_rfl
theorem ts238 : tsize Tryz.prog 238 = 11 := by kernel_rfl
theorem tb238 : tbytes Tryz.prog 238 = 48 := by kernel_rfl
theorem za238 : zav Tryz.prog 238 = [.int .u64 0, .int .u64 0, .int .u32 0, .int .u8 0, .int .u8 0, .int .u8 0, .int .u8 0, .raw .nilFunc, .raw (.pointer none), .int .i32 0, .int .i32 0] := by kernel_rfl
end Go.Proofs.YtpjbbpilgfihbaaGreatDoor
