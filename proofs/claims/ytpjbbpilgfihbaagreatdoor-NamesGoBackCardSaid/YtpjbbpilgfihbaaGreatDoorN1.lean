/- The library contracts laid at this seat, in the plain words that a tool of the kit has written. -/
import Derived.Shelf.Small.Wraps
import Derived.Shelf.Strings.Prefix
import Derived.Shelf.Strings.LastIndexAll
import Derived.Shelf.Strings.Split
import Derived.Shelf.Strings.Cut
import Derived.Shelf.Strings.Search3
import Derived.Shelf.Small.Strs
import Derived.Shelf.Strings.Builder1
import Derived.Shelf.Strconv.Atoi
import Derived.Shelf.Strconv.Itoa3
import Derived.Shelf.Strings.Repeat
import Derived.Test.YtpjbbpilgfihbaaGreatDoorProg
import Derived.WalkKit
import Derived.Orders
import Derived.Deep.MidRow
import Derived.Laws.CopyRow
import Derived.Great.BuildSlice
namespace Go.Proofs
open Go.Shelf
def Tryz.lays99_ren : Go.Shelf.Ren := ⟨fun | 99 => 79 | 206 => 121 | n => n, fun | 9 => 9 | 4 => 4 | 3 => 3 | n => n, fun | n => n⟩
theorem Tryz.lays99 : Go.Proofs.Lays.n99 Tryz.prog Tryz.lays99_ren := {
  mixed := by kernel_rfl
  f99 := Tryz.func79.trans (congrArg some (by kernel_rfl))
  f206 := Tryz.func121.trans (congrArg some (by kernel_rfl))
  t3 := Tryz.underlying3
  a3 := Tryz.isAgg3
  z3 := Tryz.sizeOf3
  v3 := Tryz.zeroValue3
  t4 := Tryz.underlying4
  a4 := Tryz.isAgg4
  z4 := Tryz.sizeOf4
  v4 := Tryz.zeroValue4
  t9 := Tryz.underlying9
  a9 := Tryz.isAgg9
  z9 := Tryz.sizeOf9
  v9 := Tryz.zeroValue9 }
def Tryz.lays103_ren : Go.Shelf.Ren := ⟨fun | 103 => 64 | 210 => 97 | 206 => 121 | n => n, fun | 9 => 9 | 4 => 4 | 24 => 105 | 3 => 3 | n => n, fun | n => n⟩
theorem Tryz.lays103 : Go.Proofs.Lays.n103 Tryz.prog Tryz.lays103_ren := {
  mixed := by kernel_rfl
  f103 := Tryz.func64.trans (congrArg some (by kernel_rfl))
  f206 := Tryz.func121.trans (congrArg some (by kernel_rfl))
  f210 := Tryz.func97.trans (congrArg some (by kernel_rfl))
  t3 := Tryz.underlying3
  a3 := Tryz.isAgg3
  z3 := Tryz.sizeOf3
  v3 := Tryz.zeroValue3
  t4 := Tryz.underlying4
  a4 := Tryz.isAgg4
  z4 := Tryz.sizeOf4
  v4 := Tryz.zeroValue4
  t9 := Tryz.underlying9
  a9 := Tryz.isAgg9
  z9 := Tryz.sizeOf9
  v9 := Tryz.zeroValue9
  t24 := Tryz.underlying105
  a24 := Tryz.isAgg105
  z24 := Tryz.sizeOf105
  v24 := Tryz.zeroValue105 }
def Tryz.lays100_ren : Go.Shelf.Ren := ⟨fun | 100 => 56 | 207 => 87 | n => n, fun | 9 => 9 | 4 => 4 | 3 => 3 | n => n, fun | n => n⟩
theorem Tryz.lays100 : Go.Proofs.Lays.n100 Tryz.prog Tryz.lays100_ren := {
  mixed := by kernel_rfl
  f100 := Tryz.func56.trans (congrArg some (by kernel_rfl))
  f207 := Tryz.func87.trans (congrArg some (by kernel_rfl))
  t3 := Tryz.underlying3
  a3 := Tryz.isAgg3
  z3 := Tryz.sizeOf3
  v3 := Tryz.zeroValue3
  t4 := Tryz.underlying4
  a4 := Tryz.isAgg4
  z4 := Tryz.sizeOf4
  v4 := Tryz.zeroValue4
  t9 := Tryz.underlying9
  a9 := Tryz.isAgg9
  z9 := Tryz.sizeOf9
  v9 := Tryz.zeroValue9 }
def Tryz.lays148_ren : Go.Shelf.Ren := ⟨fun | 148 => 170 | 222 => 192 | 223 => 193 | 269 => 206 | n => n, fun | 9 => 9 | 3 => 3 | 4 => 4 | 5 => 5 | 146 => 199 | 51 => 198 | 46 => 177 | n => n, fun | n => n⟩
theorem Tryz.lays148 : Go.Proofs.Lays.n148 Tryz.prog Tryz.lays148_ren := {
  mixed := by kernel_rfl
  f148 := Tryz.func170.trans (congrArg some (by kernel_rfl))
  f222 := Tryz.func192.trans (congrArg some (by kernel_rfl))
  f223 := Tryz.func193.trans (congrArg some (by kernel_rfl))
  f269 := Tryz.func206.trans (congrArg some (by kernel_rfl))
  t3 := Tryz.underlying3
  a3 := Tryz.isAgg3
  z3 := Tryz.sizeOf3
  v3 := Tryz.zeroValue3
  t4 := Tryz.underlying4
  a4 := Tryz.isAgg4
  z4 := Tryz.sizeOf4
  v4 := Tryz.zeroValue4
  t5 := Tryz.underlying5
  a5 := Tryz.isAgg5
  z5 := Tryz.sizeOf5
  v5 := Tryz.zeroValue5
  t9 := Tryz.underlying9
  a9 := Tryz.isAgg9
  z9 := Tryz.sizeOf9
  v9 := Tryz.zeroValue9
  t46 := Tryz.underlying177
  a46 := Tryz.isAgg177
  z46 := Tryz.sizeOf177
  v46 := Tryz.zeroValue177
  t51 := Tryz.underlying198
  a51 := Tryz.isAgg198
  z51 := Tryz.sizeOf198
  v51 := Tryz.zeroValue198
  t146 := Tryz.underlying199
  a146 := Tryz.isAgg199
  z146 := Tryz.sizeOf199
  v146 := Tryz.zeroValue199 }
def Tryz.lays146_ren : Go.Shelf.Ren := ⟨fun | 146 => 62 | 221 => 94 | 268 => 135 | 138 => 136 | 143 => 137 | 195 => 166 | 197 => 149 | 218 => 167 | 219 => 168 | 260 => 172 | 217 => 153 | 225 => 188 | 224 => 189 | 267 => 190 | 266 => 176 | 314 => 205 | n => n, fun | 9 => 9 | 31 => 75 | 3 => 3 | 4 => 4 | 0 => 0 | 105 => 164 | 21 => 21 | 5 => 5 | 46 => 177 | 119 => 208 | 139 => 211 | 138 => 210 | 146 => 199 | 51 => 198 | n => n, fun | 1 => 0 | 3 => 3 | 4 => 4 | n => n⟩
theorem Tryz.lays146 : Go.Proofs.Lays.n146 Tryz.prog Tryz.lays146_ren := {
  mixed := by kernel_rfl
  f138 := Tryz.func136.trans (congrArg some (by kernel_rfl))
  f143 := Tryz.func137.trans (congrArg some (by kernel_rfl))
  f146 := Tryz.func62.trans (congrArg some (by kernel_rfl))
  f195 := Tryz.func166.trans (congrArg some (by kernel_rfl))
  f197 := Tryz.func149.trans (congrArg some (by kernel_rfl))
  f217 := Tryz.func153.trans (congrArg some (by kernel_rfl))
  f218 := Tryz.func167.trans (congrArg some (by kernel_rfl))
  f219 := Tryz.func168.trans (congrArg some (by kernel_rfl))
  f221 := Tryz.func94.trans (congrArg some (by kernel_rfl))
  f224 := Tryz.func189.trans (congrArg some (by kernel_rfl))
  f225 := Tryz.func188.trans (congrArg some (by kernel_rfl))
  f260 := Tryz.func172.trans (congrArg some (by kernel_rfl))
  f266 := Tryz.func176.trans (congrArg some (by kernel_rfl))
  f267 := Tryz.func190.trans (congrArg some (by kernel_rfl))
  f268 := Tryz.func135.trans (congrArg some (by kernel_rfl))
  f314 := Tryz.func205.trans (congrArg some (by kernel_rfl))
  t0 := Tryz.underlying0
  a0 := Tryz.isAgg0
  z0 := Tryz.sizeOf0
  v0 := Tryz.zeroValue0
  t3 := Tryz.underlying3
  a3 := Tryz.isAgg3
  z3 := Tryz.sizeOf3
  v3 := Tryz.zeroValue3
  t4 := Tryz.underlying4
  a4 := Tryz.isAgg4
  z4 := Tryz.sizeOf4
  v4 := Tryz.zeroValue4
  t5 := Tryz.underlying5
  a5 := Tryz.isAgg5
  z5 := Tryz.sizeOf5
  v5 := Tryz.zeroValue5
  t9 := Tryz.underlying9
  a9 := Tryz.isAgg9
  z9 := Tryz.sizeOf9
  v9 := Tryz.zeroValue9
  t21 := Tryz.underlying21
  a21 := Tryz.isAgg21
  z21 := Tryz.sizeOf21
  v21 := Tryz.zeroValue21
  t31 := Tryz.underlying75
  a31 := Tryz.isAgg75
  z31 := Tryz.sizeOf75
  v31 := Tryz.zeroValue75
  t46 := Tryz.underlying177
  a46 := Tryz.isAgg177
  z46 := Tryz.sizeOf177
  v46 := Tryz.zeroValue177
  t51 := Tryz.underlying198
  a51 := Tryz.isAgg198
  z51 := Tryz.sizeOf198
  v51 := Tryz.zeroValue198
  t105 := Tryz.underlying164
  a105 := Tryz.isAgg164
  z105 := Tryz.sizeOf164
  v105 := Tryz.zeroValue164
  t119 := Tryz.underlying208
  a119 := Tryz.isAgg208
  z119 := Tryz.sizeOf208
  t138 := Tryz.underlying210
  a138 := Tryz.isAgg210
  z138 := Tryz.sizeOf210
  v138 := Tryz.zeroValue210
  t139 := Tryz.underlying211
  a139 := Tryz.isAgg211
  z139 := Tryz.sizeOf211
  v139 := Tryz.zeroValue211
  t146 := Tryz.underlying199
  a146 := Tryz.isAgg199
  z146 := Tryz.sizeOf199
  v146 := Tryz.zeroValue199
  g1 := by kernel_rfl
  g3 := by kernel_rfl
  g4 := by kernel_rfl }
def Tryz.lays145_ren : Go.Shelf.Ren := ⟨fun | 145 => 169 | 220 => 191 | 219 => 168 | 217 => 153 | 225 => 188 | 224 => 189 | 267 => 190 | 266 => 176 | 314 => 205 | n => n, fun | 9 => 9 | 4 => 4 | 59 => 184 | 3 => 3 | 5 => 5 | 46 => 177 | 146 => 199 | 51 => 198 | n => n, fun | 1 => 0 | n => n⟩
theorem Tryz.lays145 : Go.Proofs.Lays.n145 Tryz.prog Tryz.lays145_ren := {
  mixed := by kernel_rfl
  f145 := Tryz.func169.trans (congrArg some (by kernel_rfl))
  f217 := Tryz.func153.trans (congrArg some (by kernel_rfl))
  f219 := Tryz.func168.trans (congrArg some (by kernel_rfl))
  f220 := Tryz.func191.trans (congrArg some (by kernel_rfl))
  f224 := Tryz.func189.trans (congrArg some (by kernel_rfl))
  f225 := Tryz.func188.trans (congrArg some (by kernel_rfl))
  f266 := Tryz.func176.trans (congrArg some (by kernel_rfl))
  f267 := Tryz.func190.trans (congrArg some (by kernel_rfl))
  f314 := Tryz.func205.trans (congrArg some (by kernel_rfl))
  t3 := Tryz.underlying3
  a3 := Tryz.isAgg3
  z3 := Tryz.sizeOf3
  v3 := Tryz.zeroValue3
  t4 := Tryz.underlying4
  a4 := Tryz.isAgg4
  z4 := Tryz.sizeOf4
  v4 := Tryz.zeroValue4
  t5 := Tryz.underlying5
  a5 := Tryz.isAgg5
  z5 := Tryz.sizeOf5
  v5 := Tryz.zeroValue5
  t9 := Tryz.underlying9
  a9 := Tryz.isAgg9
  z9 := Tryz.sizeOf9
  v9 := Tryz.zeroValue9
  t46 := Tryz.underlying177
  a46 := Tryz.isAgg177
  z46 := Tryz.sizeOf177
  v46 := Tryz.zeroValue177
  t51 := Tryz.underlying198
  a51 := Tryz.isAgg198
  z51 := Tryz.sizeOf198
  v51 := Tryz.zeroValue198
  t59 := Tryz.underlying184
  a59 := Tryz.isAgg184
  z59 := Tryz.sizeOf184
  v59 := Tryz.zeroValue184
  t146 := Tryz.underlying199
  a146 := Tryz.isAgg199
  z146 := Tryz.sizeOf199
  v146 := Tryz.zeroValue199
  g1 := by kernel_rfl }
def Tryz.lays144_ren : Go.Shelf.Ren := ⟨fun | 144 => 115 | 143 => 137 | 219 => 168 | 217 => 153 | 225 => 188 | 224 => 189 | 267 => 190 | 266 => 176 | 314 => 205 | n => n, fun | 9 => 9 | 4 => 4 | 3 => 3 | 5 => 5 | 46 => 177 | 146 => 199 | 51 => 198 | n => n, fun | 1 => 0 | n => n⟩
theorem Tryz.lays144 : Go.Proofs.Lays.n144 Tryz.prog Tryz.lays144_ren := {
  mixed := by kernel_rfl
  f143 := Tryz.func137.trans (congrArg some (by kernel_rfl))
  f144 := Tryz.func115.trans (congrArg some (by kernel_rfl))
  f217 := Tryz.func153.trans (congrArg some (by kernel_rfl))
  f219 := Tryz.func168.trans (congrArg some (by kernel_rfl))
  f224 := Tryz.func189.trans (congrArg some (by kernel_rfl))
  f225 := Tryz.func188.trans (congrArg some (by kernel_rfl))
  f266 := Tryz.func176.trans (congrArg some (by kernel_rfl))
  f267 := Tryz.func190.trans (congrArg some (by kernel_rfl))
  f314 := Tryz.func205.trans (congrArg some (by kernel_rfl))
  t3 := Tryz.underlying3
  a3 := Tryz.isAgg3
  z3 := Tryz.sizeOf3
  v3 := Tryz.zeroValue3
  t4 := Tryz.underlying4
  a4 := Tryz.isAgg4
  z4 := Tryz.sizeOf4
  v4 := Tryz.zeroValue4
  t5 := Tryz.underlying5
  a5 := Tryz.isAgg5
  z5 := Tryz.sizeOf5
  v5 := Tryz.zeroValue5
  t9 := Tryz.underlying9
  a9 := Tryz.isAgg9
  z9 := Tryz.sizeOf9
  v9 := Tryz.zeroValue9
  t46 := Tryz.underlying177
  a46 := Tryz.isAgg177
  z46 := Tryz.sizeOf177
  v46 := Tryz.zeroValue177
  t51 := Tryz.underlying198
  a51 := Tryz.isAgg198
  z51 := Tryz.sizeOf198
  v51 := Tryz.zeroValue198
  t146 := Tryz.underlying199
  a146 := Tryz.isAgg199
  z146 := Tryz.sizeOf199
  v146 := Tryz.zeroValue199
  g1 := by kernel_rfl }
def Tryz.lays137_ren : Go.Shelf.Ren := ⟨fun | 137 => 119 | 217 => 153 | 266 => 176 | n => n, fun | 9 => 9 | 5 => 5 | 3 => 3 | n => n, fun | n => n⟩
theorem Tryz.lays137 : Go.Proofs.Lays.n137 Tryz.prog Tryz.lays137_ren := {
  mixed := by kernel_rfl
  f137 := Tryz.func119.trans (congrArg some (by kernel_rfl))
  f217 := Tryz.func153.trans (congrArg some (by kernel_rfl))
  f266 := Tryz.func176.trans (congrArg some (by kernel_rfl))
  t3 := Tryz.underlying3
  a3 := Tryz.isAgg3
  z3 := Tryz.sizeOf3
  v3 := Tryz.zeroValue3
  t5 := Tryz.underlying5
  a5 := Tryz.isAgg5
  z5 := Tryz.sizeOf5
  v5 := Tryz.zeroValue5
  t9 := Tryz.underlying9
  a9 := Tryz.isAgg9
  z9 := Tryz.sizeOf9
  v9 := Tryz.zeroValue9 }
def Tryz.lays169_ren : Go.Shelf.Ren := ⟨fun | 169 => 82 | n => n, fun | 70 => 115 | 9 => 9 | 0 => 0 | 72 => 118 | 37 => 116 | 127 => 153 | 3 => 3 | 5 => 5 | n => n, fun | n => n⟩
theorem Tryz.lays169 : Go.Proofs.Lays.n169 Tryz.prog Tryz.lays169_ren := {
  mixed := by kernel_rfl
  f169 := Tryz.func82.trans (congrArg some (by kernel_rfl))
  t0 := Tryz.underlying0
  a0 := Tryz.isAgg0
  z0 := Tryz.sizeOf0
  v0 := Tryz.zeroValue0
  t3 := Tryz.underlying3
  a3 := Tryz.isAgg3
  z3 := Tryz.sizeOf3
  v3 := Tryz.zeroValue3
  t9 := Tryz.underlying9
  a9 := Tryz.isAgg9
  z9 := Tryz.sizeOf9
  v9 := Tryz.zeroValue9
  t37 := Tryz.underlying116
  a37 := Tryz.isAgg116
  z37 := Tryz.sizeOf116
  v37 := Tryz.zeroValue116
  t70 := Tryz.underlying115
  a70 := Tryz.isAgg115
  z70 := Tryz.sizeOf115
  v70 := Tryz.zeroValue115
  t72 := Tryz.underlying118
  a72 := Tryz.isAgg118
  z72 := Tryz.sizeOf118
  v72 := Tryz.zeroValue118
  t127 := Tryz.underlying153
  a127 := Tryz.isAgg153
  z127 := Tryz.sizeOf153
  v127 := Tryz.zeroValue153 }
def Tryz.lays106_ren : Go.Shelf.Ren := ⟨fun | 106 => 60 | 213 => 90 | 265 => 132 | n => n, fun | 9 => 9 | 3 => 3 | n => n, fun | n => n⟩
theorem Tryz.lays106 : Go.Proofs.Lays.n106 Tryz.prog Tryz.lays106_ren := {
  mixed := by kernel_rfl
  f106 := Tryz.func60.trans (congrArg some (by kernel_rfl))
  f213 := Tryz.func90.trans (congrArg some (by kernel_rfl))
  f265 := Tryz.func132.trans (congrArg some (by kernel_rfl))
  t3 := Tryz.underlying3
  a3 := Tryz.isAgg3
  z3 := Tryz.sizeOf3
  v3 := Tryz.zeroValue3
  t9 := Tryz.underlying9
  a9 := Tryz.isAgg9
  z9 := Tryz.sizeOf9
  v9 := Tryz.zeroValue9 }
def Tryz.lays172_ren : Go.Shelf.Ren := ⟨fun | 172 => 88 | 244 => 130 | 245 => 131 | 247 => 157 | 279 => 158 | 280 => 159 | 281 => 160 | 282 => 161 | 287 => 178 | 316 => 179 | 171 => 93 | 205 => 180 | 321 => 197 | 322 => 198 | 243 => 134 | 246 => 165 | 283 => 184 | 284 => 185 | 285 => 186 | 286 => 187 | 129 => 201 | 317 => 200 | 318 => 202 | 319 => 203 | 320 => 204 | 337 => 208 | 338 => 209 | n => n, fun | 9 => 9 | 3 => 3 | 75 => 120 | 76 => 121 | 4 => 4 | 5 => 5 | 167 => 171 | 37 => 116 | 0 => 0 | 85 => 172 | 2 => 2 | 168 => 174 | 53 => 191 | 175 => 192 | 46 => 177 | 210 => 196 | 127 => 153 | 145 => 217 | 143 => 215 | 21 => 21 | 171 => 203 | 173 => 206 | 212 => 220 | 51 => 198 | 20 => 20 | 213 => 221 | 232 => 225 | 233 => 226 | 80 => 26 | n => n, fun | 15 => 1 | 16 => 2 | 17 => 5 | 18 => 6 | 19 => 7 | n => n⟩
theorem Tryz.lays172 : Go.Proofs.Lays.n172 Tryz.prog Tryz.lays172_ren := {
  mixed := by kernel_rfl
  f129 := Tryz.func201.trans (congrArg some (by kernel_rfl))
  f171 := Tryz.func93.trans (congrArg some (by kernel_rfl))
  f172 := Tryz.func88.trans (congrArg some (by kernel_rfl))
  f205 := Tryz.func180.trans (congrArg some (by kernel_rfl))
  f243 := Tryz.func134.trans (congrArg some (by kernel_rfl))
  f244 := Tryz.func130.trans (congrArg some (by kernel_rfl))
  f245 := Tryz.func131.trans (congrArg some (by kernel_rfl))
  f246 := Tryz.func165.trans (congrArg some (by kernel_rfl))
  f247 := Tryz.func157.trans (congrArg some (by kernel_rfl))
  f279 := Tryz.func158.trans (congrArg some (by kernel_rfl))
  f280 := Tryz.func159.trans (congrArg some (by kernel_rfl))
  f281 := Tryz.func160.trans (congrArg some (by kernel_rfl))
  f282 := Tryz.func161.trans (congrArg some (by kernel_rfl))
  f283 := Tryz.func184.trans (congrArg some (by kernel_rfl))
  f284 := Tryz.func185.trans (congrArg some (by kernel_rfl))
  f285 := Tryz.func186.trans (congrArg some (by kernel_rfl))
  f286 := Tryz.func187.trans (congrArg some (by kernel_rfl))
  f287 := Tryz.func178.trans (congrArg some (by kernel_rfl))
  f316 := Tryz.func179.trans (congrArg some (by kernel_rfl))
  f317 := Tryz.func200.trans (congrArg some (by kernel_rfl))
  f318 := Tryz.func202.trans (congrArg some (by kernel_rfl))
  f319 := Tryz.func203.trans (congrArg some (by kernel_rfl))
  f320 := Tryz.func204.trans (congrArg some (by kernel_rfl))
  f321 := Tryz.func197.trans (congrArg some (by kernel_rfl))
  f322 := Tryz.func198.trans (congrArg some (by kernel_rfl))
  f337 := Tryz.func208.trans (congrArg some (by kernel_rfl))
  f338 := Tryz.func209.trans (congrArg some (by kernel_rfl))
  t0 := Tryz.underlying0
  a0 := Tryz.isAgg0
  z0 := Tryz.sizeOf0
  v0 := Tryz.zeroValue0
  t2 := Tryz.underlying2
  a2 := Tryz.isAgg2
  z2 := Tryz.sizeOf2
  v2 := Tryz.zeroValue2
  t3 := Tryz.underlying3
  a3 := Tryz.isAgg3
  z3 := Tryz.sizeOf3
  v3 := Tryz.zeroValue3
  t4 := Tryz.underlying4
  a4 := Tryz.isAgg4
  z4 := Tryz.sizeOf4
  v4 := Tryz.zeroValue4
  t5 := Tryz.underlying5
  a5 := Tryz.isAgg5
  z5 := Tryz.sizeOf5
  v5 := Tryz.zeroValue5
  t9 := Tryz.underlying9
  a9 := Tryz.isAgg9
  z9 := Tryz.sizeOf9
  v9 := Tryz.zeroValue9
  t20 := Tryz.underlying20
  a20 := Tryz.isAgg20
  z20 := Tryz.sizeOf20
  v20 := Tryz.zeroValue20
  t21 := Tryz.underlying21
  a21 := Tryz.isAgg21
  z21 := Tryz.sizeOf21
  v21 := Tryz.zeroValue21
  t37 := Tryz.underlying116
  a37 := Tryz.isAgg116
  z37 := Tryz.sizeOf116
  v37 := Tryz.zeroValue116
  t46 := Tryz.underlying177
  a46 := Tryz.isAgg177
  z46 := Tryz.sizeOf177
  v46 := Tryz.zeroValue177
  t51 := Tryz.underlying198
  a51 := Tryz.isAgg198
  z51 := Tryz.sizeOf198
  v51 := Tryz.zeroValue198
  t53 := Tryz.underlying191
  a53 := Tryz.isAgg191
  z53 := Tryz.sizeOf191
  v53 := Tryz.zeroValue191
  t75 := Tryz.underlying120
  a75 := Tryz.isAgg120
  z75 := Tryz.sizeOf120
  v75 := Tryz.zeroValue120
  t76 := Tryz.underlying121
  a76 := Tryz.isAgg121
  z76 := Tryz.sizeOf121
  v76 := Tryz.zeroValue121
  t85 := Tryz.underlying172
  a85 := Tryz.isAgg172
  z85 := Tryz.sizeOf172
  v85 := Tryz.zeroValue172
  t127 := Tryz.underlying153
  a127 := Tryz.isAgg153
  z127 := Tryz.sizeOf153
  v127 := Tryz.zeroValue153
  t143 := Tryz.underlying215
  a143 := Tryz.isAgg215
  z143 := Tryz.sizeOf215
  v143 := Tryz.zeroValue215
  t145 := Tryz.underlying217
  a145 := Tryz.isAgg217
  z145 := Tryz.sizeOf217
  v145 := Tryz.zeroValue217
  t167 := Tryz.underlying171
  a167 := Tryz.isAgg171
  z167 := Tryz.sizeOf171
  v167 := Tryz.zeroValue171
  t168 := Tryz.underlying174
  a168 := Tryz.isAgg174
  z168 := Tryz.sizeOf174
  v168 := Tryz.zeroValue174
  t171 := Tryz.underlying203
  a171 := Tryz.isAgg203
  z171 := Tryz.sizeOf203
  v171 := Tryz.zeroValue203
  t173 := Tryz.underlying206
  a173 := Tryz.isAgg206
  z173 := Tryz.sizeOf206
  v173 := Tryz.zeroValue206
  t175 := Tryz.underlying192
  a175 := Tryz.isAgg192
  z175 := Tryz.sizeOf192
  v175 := Tryz.zeroValue192
  t210 := Tryz.underlying196
  a210 := Tryz.isAgg196
  z210 := Tryz.sizeOf196
  v210 := Tryz.zeroValue196
  t212 := Tryz.underlying220
  a212 := Tryz.isAgg220
  z212 := Tryz.sizeOf220
  v212 := Tryz.zeroValue220
  t213 := Tryz.underlying221
  a213 := Tryz.isAgg221
  z213 := Tryz.sizeOf221
  t232 := Tryz.underlying225
  a232 := Tryz.isAgg225
  z232 := Tryz.sizeOf225
  v232 := Tryz.zeroValue225
  t233 := Tryz.underlying226
  a233 := Tryz.isAgg226
  z233 := Tryz.sizeOf226
  v233 := Tryz.zeroValue226
  g15 := by kernel_rfl
  g16 := by kernel_rfl
  g17 := by kernel_rfl
  g18 := by kernel_rfl
  g19 := by kernel_rfl }
def Tryz.laysM171_ren : Go.Shelf.Ren := ⟨fun | 171 => 93 | 243 => 134 | 246 => 165 | 283 => 184 | 284 => 185 | 285 => 186 | 286 => 187 | 129 => 201 | 317 => 200 | 318 => 202 | 319 => 203 | 320 => 204 | 337 => 208 | 338 => 209 | n => n, fun | 3 => 3 | 9 => 9 | 2 => 2 | 4 => 4 | 171 => 203 | 0 => 0 | 53 => 191 | 37 => 116 | 5 => 5 | 173 => 206 | 212 => 220 | 51 => 198 | 20 => 20 | 213 => 221 | 46 => 177 | 232 => 225 | 233 => 226 | n => n, fun | 17 => 5 | 18 => 6 | 19 => 7 | n => n⟩
theorem Tryz.laysM171 : Go.Proofs.LaysM.n171 Tryz.prog Tryz.laysM171_ren := {
  mixed := by kernel_rfl
  f129 := Tryz.func201.trans (congrArg some (by kernel_rfl))
  f171 := Tryz.func93.trans (congrArg some (by kernel_rfl))
  f243 := Tryz.func134.trans (congrArg some (by kernel_rfl))
  f246 := Tryz.func165.trans (congrArg some (by kernel_rfl))
  f283 := Tryz.func184.trans (congrArg some (by kernel_rfl))
  f284 := Tryz.func185.trans (congrArg some (by kernel_rfl))
  f285 := Tryz.func186.trans (congrArg some (by kernel_rfl))
  f286 := Tryz.func187.trans (congrArg some (by kernel_rfl))
  f317 := Tryz.func200.trans (congrArg some (by kernel_rfl))
  f318 := Tryz.func202.trans (congrArg some (by kernel_rfl))
  f319 := Tryz.func203.trans (congrArg some (by kernel_rfl))
  f320 := Tryz.func204.trans (congrArg some (by kernel_rfl))
  f337 := Tryz.func208.trans (congrArg some (by kernel_rfl))
  f338 := Tryz.func209.trans (congrArg some (by kernel_rfl))
  t0 := Tryz.underlying0
  a0 := Tryz.isAgg0
  z0 := Tryz.sizeOf0
  v0 := Tryz.zeroValue0
  t2 := Tryz.underlying2
  a2 := Tryz.isAgg2
  z2 := Tryz.sizeOf2
  v2 := Tryz.zeroValue2
  t3 := Tryz.underlying3
  a3 := Tryz.isAgg3
  z3 := Tryz.sizeOf3
  v3 := Tryz.zeroValue3
  t4 := Tryz.underlying4
  a4 := Tryz.isAgg4
  z4 := Tryz.sizeOf4
  v4 := Tryz.zeroValue4
  t5 := Tryz.underlying5
  a5 := Tryz.isAgg5
  z5 := Tryz.sizeOf5
  v5 := Tryz.zeroValue5
  t9 := Tryz.underlying9
  a9 := Tryz.isAgg9
  z9 := Tryz.sizeOf9
  v9 := Tryz.zeroValue9
  t20 := Tryz.underlying20
  a20 := Tryz.isAgg20
  z20 := Tryz.sizeOf20
  v20 := Tryz.zeroValue20
  t37 := Tryz.underlying116
  a37 := Tryz.isAgg116
  z37 := Tryz.sizeOf116
  v37 := Tryz.zeroValue116
  t46 := Tryz.underlying177
  a46 := Tryz.isAgg177
  z46 := Tryz.sizeOf177
  v46 := Tryz.zeroValue177
  t51 := Tryz.underlying198
  a51 := Tryz.isAgg198
  z51 := Tryz.sizeOf198
  v51 := Tryz.zeroValue198
  t53 := Tryz.underlying191
  a53 := Tryz.isAgg191
  z53 := Tryz.sizeOf191
  v53 := Tryz.zeroValue191
  t171 := Tryz.underlying203
  a171 := Tryz.isAgg203
  z171 := Tryz.sizeOf203
  v171 := Tryz.zeroValue203
  t173 := Tryz.underlying206
  a173 := Tryz.isAgg206
  z173 := Tryz.sizeOf206
  v173 := Tryz.zeroValue206
  t212 := Tryz.underlying220
  a212 := Tryz.isAgg220
  z212 := Tryz.sizeOf220
  v212 := Tryz.zeroValue220
  t213 := Tryz.underlying221
  a213 := Tryz.isAgg221
  z213 := Tryz.sizeOf221
  t232 := Tryz.underlying225
  a232 := Tryz.isAgg225
  z232 := Tryz.sizeOf225
  v232 := Tryz.zeroValue225
  t233 := Tryz.underlying226
  a233 := Tryz.isAgg226
  z233 := Tryz.sizeOf226
  v233 := Tryz.zeroValue226
  g17 := by kernel_rfl
  g18 := by kernel_rfl
  g19 := by kernel_rfl
  i0 := by kernel_rfl
  i2 := by kernel_rfl
  i3 := by kernel_rfl
  i4 := by kernel_rfl
  i5 := by kernel_rfl
  i9 := by kernel_rfl
  i20 := by kernel_rfl
  i37 := by kernel_rfl
  i46 := by kernel_rfl
  i51 := by kernel_rfl
  i53 := by kernel_rfl
  i171 := by kernel_rfl
  i173 := by kernel_rfl
  i212 := by kernel_rfl
  i232 := by kernel_rfl
  i233 := by kernel_rfl
  m17 := by kernel_rfl
  m18 := by kernel_rfl
  m19 := by kernel_rfl }
end Go.Proofs
/- Values of Go programs as plain data: what a value of the machine means when what it leads to never changes any more (a frozen list), or lies in memory of the call's own. Own work of this seat. -/
set_option linter.unusedSimpArgs false
set_option linter.unusedVariables false
namespace Go.Av
open Go Go.RowKit

/-- plain data. 'fz': a slice whose cells never change any more; 'sl', 'ptr': a slice of, a pointer into, a block of the call's own (numbered); 'pin': a pointer into a frozen slice; 'raw': the value itself; 'any': nothing is known. -/
inductive AV where
  | int (k : IntKind) (n : Int)
  | bool (b : Bool)
  | str (s : List UInt8)
  | fz (esz : Nat) (l : List AV)
  | agg (l : List AV)
  | tup (l : List AV)
  | sl (id off len cap : Nat)
  | ptr (id n i off : Nat)
  | pin (esz : Nat) (l : List AV) (i off : Nat)
  | mp (id : Nat)
  | fn (f : Fn) (cap : List AV)
  | raw (v : Value)
  | any

def cellsOf : AV → List AV
  | .agg l => l
  | v => [v]
def flat : List AV → List AV
  | [] => []
  | x :: r => cellsOf x ++ flat r

abbrev Mem := Nat → Nat → Option Value

mutual
/-- 'v' is 'a': the cells of frozen slices stand in 'h'; 'Lf' says what a reference into memory of one's own is (let in where the flag is false). -/
inductive RV (h : Mem) (Lf : Value → AV → Prop) : Bool → Value → AV → Prop
  | leaf {v a} : Lf v a → RV h Lf false v a
  | int {fl} (k n) : RV h Lf fl (.int k n) (.int k n)
  | bool {fl} (b) : RV h Lf fl (.bool b) (.bool b)
  | str {fl} (s : List UInt8) : RV h Lf fl (.string ⟨s.toArray⟩) (.str s)
  | raw {fl} (v) : RV h Lf fl v (.raw v)
  | any {fl} (v) : RV h Lf fl v .any
  | fznil {fl} (esz) : RV h Lf fl (.slice none 0 0) (.fz esz [])
  | fz {fl} (b o c esz : Nat) (l : List AV) (vs : List Value) : RL h Lf true vs (flat l) → (∀ x ∈ l, (cellsOf x).length = esz) →
      (∀ k v, vs[k]? = some v → h b (o + k) = some v) → l.length ≤ c → RV h Lf fl (.slice (some ⟨b, o, none⟩) l.length c) (.fz esz l)
  | pin {fl} (b o esz : Nat) (l : List AV) (vs : List Value) (i off : Nat) : RL h Lf true vs (flat l) → (∀ x ∈ l, (cellsOf x).length = esz) →
      (∀ k v, vs[k]? = some v → h b (o + k) = some v) → i < l.length → RV h Lf fl (.pointer (some ⟨b, o + (i * esz + off), none⟩)) (.pin esz l i off)
  | agg {fl} (vs : List Value) (l : List AV) : RL h Lf fl vs l → RV h Lf fl (.agg vs.toArray) (.agg l)
  | tup {fl} (vs : List Value) (l : List AV) : RL h Lf fl vs l → RV h Lf fl (.tuple vs.toArray) (.tup l)
  | fn {fl} (f : Fn) (vs : List Value) (l : List AV) : RL h Lf fl vs l → RV h Lf fl (.func f #[] vs.toArray) (.fn f l)
inductive RL (h : Mem) (Lf : Value → AV → Prop) : Bool → List Value → List AV → Prop
  | nil {fl} : RL h Lf fl [] []
  | cons {fl v a vs l} : RV h Lf fl v a → RL h Lf fl vs l → RL h Lf fl (v :: vs) (a :: l)
end

section
variable {h h' : Mem} {Lf Lf' : Value → AV → Prop}

/-- a greater memory, and leaves that mean more -/
theorem RV.mono (hh : ∀ b o v, h b o = some v → h' b o = some v) (hl : ∀ v a, Lf v a → Lf' v a) {fl v a} (r : RV h Lf fl v a) : RV h' Lf' fl v a := by
  induction r using RV.rec (motive_2 := fun fl vs l _ => RL h' Lf' fl vs l) with
  | leaf p => exact .leaf (hl _ _ p)
  | int k n => exact .int k n
  | bool b => exact .bool b
  | str s => exact .str s
  | raw v => exact .raw v
  | any v => exact .any v
  | fznil e => exact .fznil e
  | fz b o c esz l vs _ h1 h2 h3 ih => exact .fz b o c esz l vs ih h1 (fun k v hk => hh _ _ _ (h2 k v hk)) h3
  | pin b o esz l vs i off _ h1 h2 h3 ih => exact .pin b o esz l vs i off ih h1 (fun k v hk => hh _ _ _ (h2 k v hk)) h3
  | agg vs l _ ih => exact .agg vs l ih
  | tup vs l _ ih => exact .tup vs l ih
  | fn f vs l _ ih => exact .fn f vs l ih
  | nil => exact .nil
  | cons _ _ ih1 ih2 => exact .cons ih1 ih2

theorem RL.mono (hh : ∀ b o v, h b o = some v → h' b o = some v) (hl : ∀ v a, Lf v a → Lf' v a) {fl vs l} (r : RL h Lf fl vs l) : RL h' Lf' fl vs l := by
  induction l generalizing vs with
  | nil => cases r; exact .nil
  | cons a l ih => cases r with | cons h1 h2 => exact .cons (h1.mono hh hl) (ih h2)

/-- what is frozen needs no leaves -/
theorem RV.thaw (hh : ∀ b o v, h b o = some v → h' b o = some v) {fl v a} (r : RV h Lf true v a) : RV h' Lf' fl v a := by
  suffices H : ∀ {f v a} (_ : RV h Lf f v a), f = true → ∀ fl, RV h' Lf' fl v a from H r rfl fl
  intro f v a r
  induction r using RV.rec (motive_2 := fun f vs l _ => f = true → ∀ fl, RL h' Lf' fl vs l) with
  | leaf p => intro e; cases e
  | int k n => intro _ fl; exact .int k n
  | bool b => intro _ fl; exact .bool b
  | str s => intro _ fl; exact .str s
  | raw v => intro _ fl; exact .raw v
  | any v => intro _ fl; exact .any v
  | fznil e => intro _ fl; exact .fznil e
  | fz b o c esz l vs _ h1 h2 h3 ih => intro _ fl; exact .fz b o c esz l vs (ih rfl true) h1 (fun k v hk => hh _ _ _ (h2 k v hk)) h3
  | pin b o esz l vs i off _ h1 h2 h3 ih => intro _ fl; exact .pin b o esz l vs i off (ih rfl true) h1 (fun k v hk => hh _ _ _ (h2 k v hk)) h3
  | agg vs l _ ih => intro e fl; exact .agg vs l (ih e fl)
  | tup vs l _ ih => intro e fl; exact .tup vs l (ih e fl)
  | fn f vs l _ ih => intro e fl; exact .fn f vs l (ih e fl)
  | nil => exact .nil
  | cons _ _ ih1 ih2 => exact .cons (ih1 (by assumption) _) (ih2 (by assumption) _)

theorem RL.thaw (hh : ∀ b o v, h b o = some v → h' b o = some v) {fl vs l} (r : RL h Lf true vs l) : RL h' Lf' fl vs l := by
  induction l generalizing vs with
  | nil => cases r; exact .nil
  | cons a l ih => cases r with | cons h1 h2 => exact .cons (h1.thaw hh) (ih h2)

theorem RL.length {fl vs l} (r : RL h Lf fl vs l) : vs.length = l.length := by
  induction l generalizing vs with
  | nil => cases r; rfl
  | cons a l ih => cases r with | cons h1 h2 => simp [ih h2]

theorem RL.get {fl vs l} (r : RL h Lf fl vs l) {k : Nat} {a : AV} (hk : l[k]? = some a) : ∃ v, vs[k]? = some v ∧ RV h Lf fl v a := by
  induction l generalizing vs k with
  | nil => simp at hk
  | cons b l ih =>
    cases r with
    | cons h1 h2 =>
      cases k with
      | zero => simp at hk; subst hk; exact ⟨_, rfl, h1⟩
      | succ k => simpa using ih h2 (by simpa using hk)

theorem RL.getD {fl vs l} (r : RL h Lf fl vs l) (k : Nat) (v0 : Value) : RV h Lf fl (vs.getD k v0) (l.getD k .any) := by
  cases hk : l[k]? with
  | none => simp [List.getD, hk]; exact .any _
  | some a =>
    obtain ⟨v, h1, h2⟩ := r.get hk
    simpa [List.getD, hk, h1] using h2

theorem RL.append {fl vs l vs' l'} (r : RL h Lf fl vs l) (r' : RL h Lf fl vs' l') : RL h Lf fl (vs ++ vs') (l ++ l') := by
  induction l generalizing vs with
  | nil => cases r; exact r'
  | cons a l ih => cases r with | cons h1 h2 => exact .cons h1 (ih h2)

theorem RL.take {fl vs l} (r : RL h Lf fl vs l) (n : Nat) : RL h Lf fl (vs.take n) (l.take n) := by
  induction l generalizing vs n with
  | nil => cases r; simp; exact .nil
  | cons a l ih =>
    cases r with
    | cons h1 h2 =>
      cases n with
      | zero => simp; exact .nil
      | succ n => simp; exact .cons h1 (ih h2 n)

theorem RL.drop {fl vs l} (r : RL h Lf fl vs l) (n : Nat) : RL h Lf fl (vs.drop n) (l.drop n) := by
  induction l generalizing vs n with
  | nil => cases r; simp; exact .nil
  | cons a l ih =>
    cases r with
    | cons h1 h2 =>
      cases n with
      | zero => simp; exact .cons h1 h2
      | succ n => simp; exact ih h2 n

theorem RL.set {fl vs l} (r : RL h Lf fl vs l) (k : Nat) {v : Value} {a : AV} (rv : RV h Lf fl v a) : RL h Lf fl (vs.set k v) (l.set k a) := by
  induction l generalizing vs k with
  | nil => cases r; simp; exact .nil
  | cons b l ih =>
    cases r with
    | cons h1 h2 =>
      cases k with
      | zero => simp; exact .cons rv h2
      | succ k => simp; exact .cons h1 (ih h2 k)

theorem RL.of_get {fl : Bool} : ∀ {vs : List Value} {l : List AV}, vs.length = l.length → (∀ (k : Nat) (v : Value) (a : AV), vs[k]? = some v → l[k]? = some a → RV h Lf fl v a) → RL h Lf fl vs l
  | [], [], _, _ => .nil
  | [], _ :: _, e, _ => by simp at e
  | _ :: _, [], e, _ => by simp at e
  | v :: vs, a :: l, e, H => .cons (H 0 v a rfl rfl) (RL.of_get (by simpa using e) fun k v a h1 h2 => H (k + 1) v a (by simpa using h1) (by simpa using h2))
end

theorem flat_append (l m : List AV) : flat (l ++ m) = flat l ++ flat m := by
  induction l with
  | nil => rfl
  | cons x l ih => simp [flat, ih]

theorem flat_length {l : List AV} {esz : Nat} (h : ∀ x ∈ l, (cellsOf x).length = esz) : (flat l).length = l.length * esz := by
  induction l with
  | nil => simp [flat]
  | cons x l ih =>
    simp only [flat, List.length_append, List.length_cons, Nat.succ_mul]
    rw [h x (by simp), ih (fun y hy => h y (by simp [hy]))]
    omega

theorem flat_drop {esz : Nat} : ∀ {l : List AV} (_ : ∀ x ∈ l, (cellsOf x).length = esz) (i : Nat), (flat l).drop (i * esz) = flat (l.drop i)
  | [], _, i => by simp [flat]
  | x :: l, h, 0 => by simp
  | x :: l, h, i + 1 => by
    have hx := h x (by simp)
    rw [Nat.succ_mul, Nat.add_comm, ← List.drop_drop]
    simp only [flat, List.drop_succ_cons]
    rw [List.drop_append, hx]
    simp [← hx]
    rw [hx]
    exact flat_drop (fun y hy => h y (by simp [hy])) i

theorem flat_take {esz : Nat} : ∀ {l : List AV} (_ : ∀ x ∈ l, (cellsOf x).length = esz) (i : Nat), (flat l).take (i * esz) = flat (l.take i)
  | [], _, i => by simp [flat]
  | x :: l, h, 0 => by simp [flat]
  | x :: l, h, i + 1 => by
    have hx := h x (by simp)
    rw [Nat.succ_mul, Nat.add_comm]
    simp only [flat, List.take_succ_cons]
    rw [← hx, List.take_length_add_append, hx, flat_take (fun y hy => h y (by simp [hy])) i]

theorem flat_get {l : List AV} {esz : Nat} (h : ∀ x ∈ l, (cellsOf x).length = esz) {i j : Nat} {x : AV} (hi : l[i]? = some x) (hj : j < esz) : (flat l)[i * esz + j]? = (cellsOf x)[j]? := by
  have h1 := flat_drop h i
  have : l.drop i = x :: l.drop (i + 1) := by
    rw [List.drop_eq_getElem?_toList_append, hi]; rfl
  rw [this] at h1
  simp only [flat] at h1
  have hx := h x (List.mem_of_getElem? hi)
  rw [← List.getElem?_drop, h1, List.getElem?_append_left (by omega)]

end Go.Av
/- What memory of the call's own is (numbered blocks), when a machine's state is a state of plain data, and the steps that keep this: a new block, a new frozen block, a block written over, a block grown, a block frozen. Own work of this seat. -/
set_option linter.unusedSimpArgs false
set_option linter.unusedVariables false
namespace Go.Av
open Go Go.RowKit

inductive Blk where
  | arr (esz : Nat) (l : List AV)
  | mp (es : List (AV × AV))
  | dead

abbrev Own := Nat → Option (Nat × Nat)
def upd (ρ : Own) (id : Nat) (x : Option (Nat × Nat)) : Own := fun i => if i = id then x else ρ i

/-- an address in a row, or none -/
def at0 (a : Option (Nat × Nat)) : Option Addr := a.map fun x => ⟨x.1, x.2, none⟩

/-- what a reference into memory of the call's own is -/
def LfC (ρ : Own) (sto : List Blk) (v : Value) (a : AV) : Prop :=
  match a with
  | .sl id off len cap => match sto[id]? with
    | some (.arr e l) => off + cap ≤ l.length ∧ (off + cap = l.length → (len = 0 ∧ cap = 0 ∧ ∃ a, v = .slice (at0 a) 0 0) ∨
        ∃ g tot, ρ id = some (g, tot) ∧ v = .slice (some ⟨g, off * e, none⟩) len (tot - off) ∧ len ≤ cap)
    | some _ => True
    | none => False
  | .ptr id n i off => match sto[id]? with
    | some (.arr e l) => n ≤ l.length ∧ (n = l.length → i < n ∧ ∃ g tot, ρ id = some (g, tot) ∧ v = .pointer (some ⟨g, i * e + off, none⟩))
    | some _ => True
    | none => False
  | .mp id => match sto[id]? with
    | some (.mp _) => ∃ g, ρ id = some (g, 0) ∧ v = .map (some g)
    | some _ => True
    | none => False
  | _ => False

def Lf (ρ : Own) (sto : List Blk) (v : Value) (a : AV) : Prop := v.oneCell' = true ∧ LfC ρ sto v a

/-- a row: its cells, their type; what is marked as frozen lies beyond them -/
def HRow (w : World) (g : Nat) (cur : Array Value) (t : TypeId) : Prop := ∃ mk, w.heap[g]? = some (.cells cur t mk) ∧ (mk = (0, 0) ∨ cur.size ≤ mk.1)
theorem HRow.of {w : World} {g : Nat} {cur : Array Value} {t : TypeId} (e : w.heap[g]? = some (.cells cur t (0, 0))) : HRow w g cur t := ⟨_, e, .inl rfl⟩
theorem HRow.via {w w' : World} {g : Nat} {cur : Array Value} {t : TypeId} (e : w'.heap[g]? = w.heap[g]?) (r : HRow w g cur t) : HRow w' g cur t := by
  obtain ⟨mk, h1, h2⟩ := r
  exact ⟨mk, e.trans h1, h2⟩
theorem HRow.lt {w : World} {g : Nat} {cur : Array Value} {t : TypeId} (r : HRow w g cur t) : g < w.heap.size := by
  obtain ⟨mk, h1, _⟩ := r
  exact (Array.getElem?_eq_some_iff.1 h1).1
theorem HRow.cell {w : World} {g : Nat} {cur : Array Value} {t : TypeId} (r : HRow w g cur t) (o : Nat) : w.cell? ⟨g, o, none⟩ = cur[o]? := by
  obtain ⟨mk, h1, _⟩ := r
  exact cell_of_row w g o cur t mk h1
theorem HRow.fz {w : World} {g : Nat} {cur : Array Value} {t : TypeId} (r : HRow w g cur t) {o : Nat} (ho : o < cur.size) : w.frozen? ⟨g, o, none⟩ = false := by
  obtain ⟨⟨lo, hi⟩, h1, h2⟩ := r
  simp only [World.frozen?, h1, Bool.and_eq_false_iff, decide_eq_false_iff_not]
  rcases h2 with h2 | h2
  · right; simp at h2; omega
  · left; simp at h2; omega
theorem HRow.set {w : World} {g : Nat} {cur : Array Value} {t : TypeId} (r : HRow w g cur t) {cs : Array Value} (hs : cs.size = cur.size) : HRow (w.setRow g cs) g cs t := by
  obtain ⟨mk, h1, h2⟩ := r
  exact ⟨mk, setRow_heap w g cur cs t mk h1, by rw [hs]; exact h2⟩
theorem HRow.shape {w : World} {g : Nat} {cur : Array Value} {t : TypeId} (r : HRow w g cur t) : w.shape? g = some (t, cur.size) := by
  obtain ⟨mk, h1, _⟩ := r
  simp [World.shape?, h1]
theorem run_storeCells_row (P : Program) (g o : Nat) (t : TypeId) : ∀ (vs : List Value) (i : Nat) (cur : Array Value) (w : World), HRow w g cur t → o + i + vs.length ≤ cur.size → (∀ v ∈ vs, v.oneCell' = true) →
    (storeCells ⟨g, o, none⟩ vs i).run P w = .ok () (w.setRow g (cur.toList.take (o + i) ++ vs ++ cur.toList.drop (o + i + vs.length)).toArray)
  | [], i, cur, w, hg, _, _ => by
    obtain ⟨mk, h1, _⟩ := hg
    simp only [storeCells, List.append_nil, List.length_nil, Nat.add_zero, List.take_append_drop, Array.toArray_toList]
    rw [setRow_self w g cur t mk h1]
    rfl
  | v :: rest, i, cur, w, hg, hl, h1 => by
    have hi : o + i < cur.size := by simp at hl; omega
    have hadd : (⟨g, o, none⟩ : Addr).add i = ⟨g, o + i, none⟩ := by unfold Addr.add; split <;> simp_all
    have hcell : w.cell? ⟨g, o + i, none⟩ = some cur[o + i] := by rw [hg.cell]; simp [hi]
    have hfro : w.frozen? ⟨g, o + i, none⟩ = false := hg.fz hi
    obtain ⟨mk, g1, g2⟩ := hg
    have hst : (store ((⟨g, o, none⟩ : Addr).add i) v).run P w = .ok () (w.setRow g (cur.setIfInBounds (o + i) v)) := by
      rw [hadd, run_store P w _ v _ (h1 v (by simp)), hcell]
      simp [hfro, setCell_eq_setRow w g (o + i) cur t mk v g1]
    have ih := run_storeCells_row P g o t rest (i + 1) (cur.setIfInBounds (o + i) v) (w.setRow g (cur.setIfInBounds (o + i) v)) (HRow.set ⟨mk, g1, g2⟩ (by simp)) (by simp at hl ⊢; omega) (fun x hx => h1 x (by simp [hx]))
    simp only [storeCells, Sem.run_bind, hst, Result.andThen_ok, ih, setRow_setRow]
    congr 3
    have e := list_seg_step cur.toList (o + i) v rest (by simp at hl ⊢; omega)
    simpa [Array.toList_setIfInBounds, Nat.add_assoc] using e

def OwnB (h : Mem) (ρ : Own) (sto : List Blk) (w : World) (id : Nat) : Blk → Prop
  | .arr e l => (l = [] ∧ ρ id = none) ∨ ∃ g tot cur t, ρ id = some (g, tot) ∧ HRow w g cur t ∧ cur.size = tot * e ∧ l.length ≤ tot ∧ tot ≤ maxLen ∧ 0 < e ∧
      (∀ x ∈ l, (cellsOf x).length = e) ∧ (∀ v ∈ cur.toList, v.oneCell' = true) ∧ RL h (Lf ρ sto) false (cur.toList.take (l.length * e)) (flat l)
  | .mp es => ∃ g en clock, ρ id = some (g, 0) ∧ w.heap[g]? = some (.map en clock) ∧
      en.toList.length = es.length ∧ (∀ (k : Nat) (x : AV × AV) (y : MapEntry), es[k]? = some x → en.toList[k]? = some y → RV h (Lf ρ sto) true y.key x.1 ∧ RV h (Lf ρ sto) false y.val x.2)
  | .dead => ρ id = none

structure Mine (h : Mem) (ρ : Own) (sto : List Blk) (w : World) : Prop where
  mem : ∀ b o v, h b o = some v → w.cell? ⟨b, o, none⟩ = some v ∧ v.oneCell' = true
  own : ∀ (id : Nat) (blk : Blk), sto[id]? = some blk → OwnB h ρ sto w id blk
  out : ∀ id, sto.length ≤ id → ρ id = none
  inj : ∀ i j g t t', ρ i = some (g, t) → ρ j = some (g, t') → i = j
  disj : ∀ i g t, ρ i = some (g, t) → ∀ o, h g o = none

structure Later (h : Mem) (ρ : Own) (sto : List Blk) (w : World) (h' : Mem) (ρ' : Own) (sto' : List Blk) (w' : World) : Prop where
  hle : ∀ b o v, h b o = some v → h' b o = some v
  hnew : ∀ b o, h b o = none → h' b o ≠ none → (∃ j t, ρ j = some (b, t)) ∨ w.heap.size ≤ b
  keep : ∀ v a, Lf ρ sto v a → Lf ρ' sto' v a
  os : w'.os = w.os
  tape : w'.tape = w.tape
  output : w'.output = w.output
  size : w.heap.size ≤ w'.heap.size
  block : ∀ k, k < w.heap.size → (∀ i t, ρ i ≠ some (k, t)) → w'.heap[k]? = w.heap[k]?
  newown : ∀ i g t, ρ' i = some (g, t) → (∃ j t', ρ j = some (g, t')) ∨ w.heap.size ≤ g

theorem Later.refl (h : Mem) (ρ : Own) (sto : List Blk) (w : World) : Later h ρ sto w h ρ sto w :=
  ⟨fun _ _ _ x => x, fun _ _ a b => (b a).elim, fun _ _ x => x, rfl, rfl, rfl, Nat.le_refl _, fun _ _ _ => rfl, fun i _ t x => .inl ⟨i, t, x⟩⟩

theorem Later.trans {h ρ sto w h1 ρ1 sto1 w1 h2 ρ2 sto2 w2} (a : Later h ρ sto w h1 ρ1 sto1 w1) (b : Later h1 ρ1 sto1 w1 h2 ρ2 sto2 w2) : Later h ρ sto w h2 ρ2 sto2 w2 where
  hle := fun x y z e => b.hle x y z (a.hle x y z e)
  hnew := fun x y e n => by
    cases hq : h1 x y with
    | some v => exact a.hnew x y e (by simp [hq])
    | none =>
      rcases b.hnew x y hq n with ⟨j, t, hj⟩ | hs
      · exact a.newown j x t hj
      · exact .inr (Nat.le_trans a.size hs)
  keep := fun v x l => b.keep v x (a.keep v x l)
  os := b.os.trans a.os
  tape := b.tape.trans a.tape
  output := b.output.trans a.output
  size := Nat.le_trans a.size b.size
  block := fun k hk hn => by
    rw [b.block k (Nat.lt_of_lt_of_le hk a.size) ?_, a.block k hk hn]
    intro i t e
    rcases a.newown i k t e with ⟨j, t', hj⟩ | hs
    · exact hn j t' hj
    · omega
  newown := fun i g t e => by
    rcases b.newown i g t e with ⟨j, t', hj⟩ | hs
    · exact a.newown j g t' hj
    · exact .inr (Nat.le_trans a.size hs)

section
variable {h h' : Mem} {ρ ρ' : Own} {sto sto' : List Blk} {w w' : World}

theorem Mine.lt (m : Mine h ρ sto w) {i g t} (e : ρ i = some (g, t)) : g < w.heap.size := by
  have hi : i < sto.length := by
    rcases Nat.lt_or_ge i sto.length with x | x
    · exact x
    · simp [m.out i x] at e
  have ho := m.own i _ (List.getElem?_eq_getElem hi)
  cases hb : sto[i] with
  | arr es l =>
    rw [hb] at ho
    rcases ho with ⟨_, hn⟩ | ⟨g', tot, cur, tt, h1, h2, _⟩
    · simp [hn] at e
    · rw [h1] at e; cases e
      exact h2.lt
  | mp es =>
    rw [hb] at ho
    obtain ⟨g', en, cl, h1, h2, _⟩ := ho
    rw [h1] at e; cases e
    exact (Array.getElem?_eq_some_iff.1 h2).1
  | dead => rw [hb] at ho; simp only [OwnB] at ho; simp [ho] at e

theorem Mine.memlt (m : Mine h ρ sto w) {b o v} (e : h b o = some v) : b < w.heap.size := by
  have := World.block_lt_of_cell? w ⟨b, o, none⟩ (m.mem b o v e).1
  exact this

/-- a block of one's own, kept: its number and its cells the same -/
theorem OwnB.mono (hh : ∀ b o v, h b o = some v → h' b o = some v) (hl : ∀ v a, Lf ρ sto v a → Lf ρ' sto' v a) {id : Nat} {blk : Blk} (e : ρ' id = ρ id)
    (hw : ∀ g t, ρ id = some (g, t) → w'.heap[g]? = w.heap[g]?) (o : OwnB h ρ sto w id blk) : OwnB h' ρ' sto' w' id blk := by
  cases blk with
  | arr es l =>
    rcases o with ⟨h1, h2⟩ | ⟨g, tot, cur, t, h1, h2, h3, h4, h5, h6, h7, h8, h9⟩
    · exact .inl ⟨h1, e.trans h2⟩
    · exact .inr ⟨g, tot, cur, t, e.trans h1, h2.via (hw g tot h1), h3, h4, h5, h6, h7, h8, h9.mono hh hl⟩
  | mp es =>
    obtain ⟨g, en, cl, h1, h2, h3, h4⟩ := o
    refine ⟨g, en, cl, e.trans h1, (hw g 0 h1).trans h2, h3, fun k x y hx hy => ?_⟩
    obtain ⟨p, q⟩ := h4 k x y hx hy
    exact ⟨p.mono hh hl, q.mono hh hl⟩
  | dead => exact e.trans o

/-- the world's streams, its old blocks -/
structure Same (w w' : World) : Prop where
  os : w'.os = w.os
  tape : w'.tape = w.tape
  output : w'.output = w.output
  size : w.heap.size ≤ w'.heap.size
  block : ∀ k, k < w.heap.size → w'.heap[k]? = w.heap[k]?

theorem Same.refl (w : World) : Same w w := ⟨rfl, rfl, rfl, Nat.le_refl _, fun _ _ => rfl⟩
theorem Same.alloc (w : World) (o : Obj) : Same w (w.alloc o) := ⟨rfl, rfl, rfl, by simp, fun k hk => Below.heap_alloc w o k hk⟩
theorem Same.drew (w : World) : Same w w.drew := ⟨rfl, rfl, rfl, Nat.le_refl _, fun _ _ => rfl⟩
theorem Same.trans {w1 w2 w3 : World} (a : Same w1 w2) (b : Same w2 w3) : Same w1 w3 :=
  ⟨b.os.trans a.os, b.tape.trans a.tape, b.output.trans a.output, Nat.le_trans a.size b.size, fun k hk => (b.block k (Nat.lt_of_lt_of_le hk a.size)).trans (a.block k hk)⟩
theorem Same.cell {w w' : World} (s : Same w w') {b o : Nat} {v : Value} (e : w.cell? ⟨b, o, none⟩ = some v) : w'.cell? ⟨b, o, none⟩ = some v := by
  have := World.block_lt_of_cell? w ⟨b, o, none⟩ e
  exact (World.cell?_of_block (s.block b this)).trans e

/-- the world has new blocks, nothing else: all stands -/
theorem Mine.same (m : Mine h ρ sto w) (s : Same w w') : Mine h ρ sto w' where
  mem := fun b o v e => ⟨s.cell (m.mem b o v e).1, (m.mem b o v e).2⟩
  own := fun id blk e => (m.own id blk e).mono (fun _ _ _ x => x) (fun _ _ x => x) rfl (fun g t hg => s.block g (m.lt hg))
  out := m.out
  inj := m.inj
  disj := m.disj

theorem Later.same (s : Same w w') : Later h ρ sto w h ρ sto w' :=
  ⟨fun _ _ _ x => x, fun _ _ a b => (b a).elim, fun _ _ x => x, s.os, s.tape, s.output, s.size, fun k hk _ => s.block k hk, fun i _ t x => .inl ⟨i, t, x⟩⟩

/-- more frozen cells: those of new blocks -/
def Mem.add (h : Mem) (b : Nat) (cs : List Value) : Mem := fun b' o => if b' = b then cs[o]? else h b' o

theorem Mine.freezeNew (m : Mine h ρ sto w) (cs : List Value) (t : TypeId) (h1 : ∀ v ∈ cs, v.oneCell' = true) :
    Mine (Mem.add h w.heap.size cs) ρ sto (w.alloc (.cells cs.toArray t)) ∧ Later h ρ sto w (Mem.add h w.heap.size cs) ρ sto (w.alloc (.cells cs.toArray t)) := by
  have hle : ∀ b o v, h b o = some v → Mem.add h w.heap.size cs b o = some v := by
    intro b o v e
    have := m.memlt e
    simp [Mem.add, Nat.ne_of_lt this, e]
  have s := Same.alloc w (.cells cs.toArray t)
  refine ⟨⟨?_, ?_, m.out, m.inj, ?_⟩, ⟨hle, ?_, fun _ _ x => x, rfl, rfl, rfl, s.size, fun k hk _ => s.block k hk, fun i _ t x => .inl ⟨i, t, x⟩⟩⟩
  · intro b o v e
    by_cases hb : b = w.heap.size
    · subst hb
      simp only [Mem.add, if_true] at e
      exact ⟨by rw [World.cell?_alloc_new]; simpa using e, h1 v (List.mem_of_getElem? e)⟩
    · simp only [Mem.add, hb, if_false] at e
      exact ⟨s.cell (m.mem b o v e).1, (m.mem b o v e).2⟩
  · exact fun id blk e => (m.own id blk e).mono hle (fun _ _ x => x) rfl (fun g t hg => s.block g (m.lt hg))
  · intro i g t e o
    have := m.lt e
    simp [Mem.add, Nat.ne_of_lt this, m.disj i g t e o]
  · intro b o e n
    by_cases hb : b = w.heap.size
    · exact .inr (by omega)
    · simp [Mem.add, hb, e] at n

theorem LfC_push {b : Blk} {x : Option (Nat × Nat)} {v : Value} {a : AV} (l : LfC ρ sto v a) : LfC (upd ρ sto.length x) (sto ++ [b]) v a := by
  have key : ∀ id, id < sto.length → (sto ++ [b])[id]? = sto[id]? ∧ upd ρ sto.length x id = ρ id := by
    intro id hid
    exact ⟨List.getElem?_append_left hid, by simp [upd, Nat.ne_of_lt hid]⟩
  cases a <;> simp only [LfC] at l ⊢
  case sl id off len cap =>
    cases hq : sto[id]? with
    | none => simp [hq] at l
    | some y =>
      obtain ⟨e1, e2⟩ := key id (List.getElem?_eq_some_iff.1 hq).1
      rw [e1, e2, hq]; rw [hq] at l; exact l
  case ptr id n i off =>
    cases hq : sto[id]? with
    | none => simp [hq] at l
    | some y =>
      obtain ⟨e1, e2⟩ := key id (List.getElem?_eq_some_iff.1 hq).1
      rw [e1, e2, hq]; rw [hq] at l; exact l
  case mp id =>
    cases hq : sto[id]? with
    | none => simp [hq] at l
    | some y =>
      obtain ⟨e1, e2⟩ := key id (List.getElem?_eq_some_iff.1 hq).1
      rw [e1, e2, hq]; rw [hq] at l; exact l

theorem Lf_push {b : Blk} {x : Option (Nat × Nat)} {v : Value} {a : AV} (l : Lf ρ sto v a) : Lf (upd ρ sto.length x) (sto ++ [b]) v a := ⟨l.1, LfC_push l.2⟩

/-- a new block of one's own, of whatever kind; what is to be shown of it is said of the state that comes -/
theorem Mine.push (m : Mine h ρ sto w) (o : Obj) (b : Blk) (x : Option Nat)
    (hb : OwnB h (upd ρ sto.length (x.map fun t => (w.heap.size, t))) (sto ++ [b]) (w.alloc o) sto.length b) :
    Mine h (upd ρ sto.length (x.map fun t => (w.heap.size, t))) (sto ++ [b]) (w.alloc o) ∧ Later h ρ sto w h (upd ρ sto.length (x.map fun t => (w.heap.size, t))) (sto ++ [b]) (w.alloc o) := by
  have s := Same.alloc w o
  have hk : ∀ v a, Lf ρ sto v a → Lf (upd ρ sto.length (x.map fun t => (w.heap.size, t))) (sto ++ [b]) v a := fun _ _ => Lf_push
  have hnone : ∀ i, upd ρ sto.length (x.map fun t => (w.heap.size, t)) i = if i = sto.length then x.map (fun t => (w.heap.size, t)) else ρ i := fun _ => rfl
  have hown : ∀ i g t, upd ρ sto.length (x.map fun t => (w.heap.size, t)) i = some (g, t) → (i = sto.length ∧ g = w.heap.size) ∨ (i ≠ sto.length ∧ ρ i = some (g, t)) := by
    intro i g t e
    rw [hnone] at e
    split at e
    · rename_i hi
      cases x with
      | none => simp at e
      | some t' => simp at e; exact .inl ⟨hi, e.1.symm⟩
    · rename_i hi; exact .inr ⟨hi, e⟩
  refine ⟨⟨fun b o v e => ⟨s.cell (m.mem b o v e).1, (m.mem b o v e).2⟩, ?_, ?_, ?_, ?_⟩, ⟨fun _ _ _ x => x, fun _ _ a b => (b a).elim, hk, rfl, rfl, rfl, s.size, fun k hk _ => s.block k hk, ?_⟩⟩
  · intro id blk e
    by_cases hid : id < sto.length
    · rw [List.getElem?_append_left hid] at e
      exact (m.own id blk e).mono (fun _ _ _ x => x) hk (by simp [upd, Nat.ne_of_lt hid]) (fun g t hg => s.block g (m.lt hg))
    · have hlt := (List.getElem?_eq_some_iff.1 e).1
      simp at hlt
      have hid' : id = sto.length := by omega
      subst hid'
      simp at e
      subst e
      exact hb
  · intro id hid
    simp at hid
    rw [hnone, if_neg (by omega)]
    exact m.out id (by omega)
  · intro i j g t t' hi hj
    rcases hown i g t hi with ⟨h1, h2⟩ | ⟨h1, h2⟩ <;> rcases hown j g t' hj with ⟨h3, h4⟩ | ⟨h3, h4⟩
    · omega
    · have := m.lt h4; omega
    · have := m.lt h2; omega
    · exact m.inj i j g t t' h2 h4
  · intro i g t e o
    rcases hown i g t e with ⟨h1, h2⟩ | ⟨h1, h2⟩
    · cases hq : h g o with
      | none => rfl
      | some v => have := m.memlt hq; omega
    · exact m.disj i g t h2 o
  · intro i g t e
    rcases hown i g t e with ⟨h1, h2⟩ | ⟨h1, h2⟩
    · exact .inr (by omega)
    · exact .inl ⟨i, t, h2⟩

/-- ids and handles: what a changed table of blocks means for a reference -/
theorem LfC_set {id : Nat} {b b' : Blk} (hb : sto[id]? = some b) (hρ : ∀ i, i ≠ id → ρ' i = ρ i)
    (ok : match b, b' with
      | .arr e l, .arr e' l' => (e' = e ∧ l'.length = l.length ∧ ρ' id = ρ id) ∨ l.length < l'.length
      | .mp _, .mp _ => ρ' id = ρ id
      | _, .dead => True
      | _, _ => False) {v : Value} {a : AV} (l : LfC ρ sto v a) : LfC ρ' (sto.set id b') v a := by
  have hid := (List.getElem?_eq_some_iff.1 hb).1
  have other : ∀ i, i ≠ id → (sto.set id b')[i]? = sto[i]? := fun i hi => by rw [List.getElem?_set_ne (Ne.symm hi)]
  have this' : (sto.set id b')[id]? = some b' := by simp [hid]
  cases a <;> simp only [LfC] at l ⊢
  case sl i off len cap =>
    by_cases hi : i = id
    · subst hi
      rw [this']; rw [hb] at l
      cases b <;> cases b' <;> simp only at ok l ⊢
      · rename_i e l0 e' l1
        rcases ok with ⟨rfl, h2, h3⟩ | h2
        · rw [h2, h3]; exact l
        · exact ⟨by omega, fun hh => by omega⟩
    · rw [other i hi, hρ i hi]; exact l
  case ptr i n j off =>
    by_cases hi : i = id
    · subst hi
      rw [this']; rw [hb] at l
      cases b <;> cases b' <;> simp only at ok l ⊢
      · rename_i e l0 e' l1
        rcases ok with ⟨rfl, h2, h3⟩ | h2
        · rw [h2, h3]; exact l
        · exact ⟨by omega, fun hh => by omega⟩
    · rw [other i hi, hρ i hi]; exact l
  case mp i =>
    by_cases hi : i = id
    · subst hi
      rw [this']; rw [hb] at l
      cases b <;> cases b' <;> simp only at ok l ⊢
      · rw [ok]; exact l
    · rw [other i hi, hρ i hi]; exact l

/-- block 'id' is written over: its row 'g' is the only one that changes -/
theorem Mine.write (m : Mine h ρ sto w) {id : Nat} {b b' : Blk} (hb : sto[id]? = some b) {g tot : Nat} (hg : ρ id = some (g, tot))
    (ok : match b, b' with
      | .arr e l, .arr e' l' => (e' = e ∧ l'.length = l.length) ∨ l.length < l'.length
      | .mp _, .mp _ => True
      | _, _ => False)
    (hos : w'.os = w.os) (htape : w'.tape = w.tape) (hout : w'.output = w.output) (hsz : w'.heap.size = w.heap.size) (hblk : ∀ k, k ≠ g → w'.heap[k]? = w.heap[k]?)
    (hn : OwnB h ρ (sto.set id b') w' id b') : Mine h ρ (sto.set id b') w' ∧ Later h ρ sto w h ρ (sto.set id b') w' := by
  have hid := (List.getElem?_eq_some_iff.1 hb).1
  have hk : ∀ v a, Lf ρ sto v a → Lf ρ (sto.set id b') v a := fun v a l => ⟨l.1, LfC_set hb (fun _ _ => rfl) (by
    cases b <;> cases b' <;> simp only at ok ⊢
    rcases ok with ⟨h1, h2⟩ | h1
    · exact .inl ⟨h1, h2, trivial⟩
    · exact .inr h1) l.2⟩
  refine ⟨⟨?_, ?_, ?_, m.inj, m.disj⟩, ⟨fun _ _ _ x => x, fun _ _ a b => (b a).elim, hk, hos, htape, hout, Nat.le_of_eq hsz.symm, ?_, fun i _ t x => .inl ⟨i, t, x⟩⟩⟩
  · intro b o v e
    refine ⟨?_, (m.mem b o v e).2⟩
    have hne : b ≠ g := fun hq => by subst hq; simp [m.disj id b tot hg o] at e
    exact (World.cell?_of_block (hblk b hne)).trans (m.mem b o v e).1
  · intro i blk e
    by_cases hi : i = id
    · subst hi
      simp [hid] at e
      subst e
      exact hn
    · rw [List.getElem?_set_ne (Ne.symm hi)] at e
      refine (m.own i blk e).mono (fun _ _ _ x => x) hk rfl (fun g' t hg' => hblk g' fun hq => ?_)
      subst hq
      exact hi (m.inj i id g' t tot hg' hg)
  · intro i hi
    simp at hi
    exact m.out i hi
  · intro k hk' hno
    exact hblk k fun hq => hno id tot (by rw [hq]; exact hg)

/-- block 'id' moves to a new row (it has grown) -/
theorem Mine.move (m : Mine h ρ sto w) {id : Nat} {e e' : Nat} {l l' : List AV} (hb : sto[id]? = some (.arr e l)) (hlen : l.length < l'.length) (tot : Nat) (s : Same w w') (hnew : w.heap.size < w'.heap.size)
    (hn : OwnB h (upd ρ id (some (w.heap.size, tot))) (sto.set id (.arr e' l')) w' id (.arr e' l')) :
    Mine h (upd ρ id (some (w.heap.size, tot))) (sto.set id (.arr e' l')) w' ∧ Later h ρ sto w h (upd ρ id (some (w.heap.size, tot))) (sto.set id (.arr e' l')) w' := by
  have hid := (List.getElem?_eq_some_iff.1 hb).1
  have hk : ∀ v a, Lf ρ sto v a → Lf (upd ρ id (some (w.heap.size, tot))) (sto.set id (.arr e' l')) v a := fun v a lf => ⟨lf.1, LfC_set hb (fun i hi => by simp [upd, hi]) (Or.inr hlen : (e' = e ∧ l'.length = l.length ∧ _) ∨ _) lf.2⟩
  have hown : ∀ i g t, upd ρ id (some (w.heap.size, tot)) i = some (g, t) → (i = id ∧ g = w.heap.size) ∨ (i ≠ id ∧ ρ i = some (g, t)) := by
    intro i g t e
    unfold upd at e
    split at e
    · rename_i hi; simp at e; exact .inl ⟨hi, e.1.symm⟩
    · rename_i hi; exact .inr ⟨hi, e⟩
  refine ⟨⟨fun b o v e => ⟨s.cell (m.mem b o v e).1, (m.mem b o v e).2⟩, ?_, ?_, ?_, ?_⟩, ⟨fun _ _ _ x => x, fun _ _ a b => (b a).elim, hk, s.os, s.tape, s.output, s.size, fun k hk _ => s.block k hk, ?_⟩⟩
  · intro i blk e
    by_cases hi : i = id
    · subst hi
      simp [hid] at e
      subst e
      exact hn
    · rw [List.getElem?_set_ne (Ne.symm hi)] at e
      exact (m.own i blk e).mono (fun _ _ _ x => x) hk (by simp [upd, hi]) (fun g' t hg' => s.block g' (m.lt hg'))
  · intro i hi
    simp at hi
    have : i ≠ id := by omega
    simp [upd, this, m.out i hi]
  · intro i j g t t' hi hj
    rcases hown i g t hi with ⟨h1, h2⟩ | ⟨h1, h2⟩ <;> rcases hown j g t' hj with ⟨h3, h4⟩ | ⟨h3, h4⟩
    · omega
    · have := m.lt h4; omega
    · have := m.lt h2; omega
    · exact m.inj i j g t t' h2 h4
  · intro i g t e o
    rcases hown i g t e with ⟨h1, h2⟩ | ⟨h1, h2⟩
    · cases hq : h g o with
      | none => rfl
      | some v => have := m.memlt hq; omega
    · exact m.disj i g t h2 o
  · intro i g t e
    rcases hown i g t e with ⟨h1, h2⟩ | ⟨h1, h2⟩
    · exact .inr (by omega)
    · exact .inl ⟨i, t, h2⟩
end

end Go.Av
/- What an operation makes of plain data. Own work of this seat. -/
set_option linter.unusedSimpArgs false
set_option linter.unusedVariables false
namespace Go.Av
open Go Go.RowKit

abbrev Env := List (Nat × AV)

def ofConst : Value → AV
  | .int k n => .int k n
  | .bool b => .bool b
  | .string s => .str s.data.toList
  | v => .raw v
def get : Env → Nat → AV
  | [], _ => .any
  | (k, v) :: r, t => bif k == t then v else get r t
def ev (e : Env) : Operand → AV
  | .tmp t => get e t
  | .const v => ofConst v
  | .global g => .raw (.pointer (some ⟨g, 0, none⟩))
  | .func f => .fn (.func f) []
def evs (e : Env) : List Operand → List AV
  | [] => []
  | x :: r => ev e x :: evs e r
def evp (e : Env) : List (Nat × Operand) → List (Nat × AV)
  | [] => []
  | (i, x) :: r => (i, ev e x) :: evp e r
def put (e : Env) (d : Option Tmp) (v : AV) : Env :=
  match d with
  | some d => (d, v) :: e
  | none => e

/-- may it lie in one cell? -/
def one : AV → Bool
  | .agg _ | .tup _ | .any => false
  | .raw v => v.oneCell'
  | _ => true

/-- without references -/
def frozen : AV → Bool
  | .agg _ | .tup _ | .sl .. | .ptr .. | .mp _ | .fn .. => false
  | _ => true

def bytesLess : List UInt8 → List UInt8 → Bool
  | _, [] => false
  | [], _ :: _ => true
  | a :: x, b :: y => a < b || (a == b && bytesLess x y)

def inr : IntKind → Int → Prop
  | .i64, n => -9223372036854775808 ≤ n ∧ n ≤ 9223372036854775807
  | .i32, n => -2147483648 ≤ n ∧ n ≤ 2147483647
  | .u8, n => 0 ≤ n ∧ n ≤ 255
  | .u16, n => 0 ≤ n ∧ n ≤ 65535
  | k, n => k.wrap n = n

inductive Res where
  | ok (v : AV)
  | side (p : Prop) (v : AV)
  | sto (p : Prop) (v : AV) (sto : List Blk)
  | pick (b : Bool) (x y : AV)
  | call (f : FuncId) (args : List AV)
  | anyb (p : Prop)
  | stuck

def xarith (wr : Bool) (k : IntKind) (n : Int) : Res := bif wr then .ok (.int k (k.wrap n)) else .side (inr k n) (.int k n)
def xint (wr : Bool) (op : BinOp) (k : IntKind) (a b : Int) : Res :=
  match op with
  | .add => xarith wr k (a + b)
  | .sub => xarith wr k (a - b)
  | .mul => xarith wr k (a * b)
  | .quo => bif wr then .side (b ≠ 0 ∧ inr k (a.tdiv b)) (.int k (a.tdiv b)) else .side (0 ≤ a ∧ 0 < b ∧ inr k (a / b)) (.int k (a / b))
  | .rem => bif wr then .side (b ≠ 0) (.int k (a.tmod b)) else .side (0 ≤ a ∧ 0 < b) (.int k (a % b))
  | .eql => .ok (.bool (a == b))
  | .neq => .ok (.bool (a != b))
  | .lss => .ok (.bool (a < b))
  | .leq => .ok (.bool (a ≤ b))
  | .gtr => .ok (.bool (a > b))
  | .geq => .ok (.bool (a ≥ b))
  | _ => .stuck
def xstr (op : BinOp) (a b : List UInt8) : Res :=
  match op with
  | .add => .side ((a.length : Int) + b.length ≤ 9223372036854775807) (.str (a ++ b))
  | .eql => .ok (.bool (a == b))
  | .neq => .ok (.bool (a != b))
  | .lss => .ok (.bool (bytesLess a b))
  | .leq => .ok (.bool (bytesLess a b || a == b))
  | .gtr => .ok (.bool (!(bytesLess a b || a == b)))
  | .geq => .ok (.bool (!bytesLess a b))
  | _ => .stuck
def xbool (op : BinOp) (a b : Bool) (d : Option TypeDesc) : Res :=
  match op, d with
  | .eql, some .bool => .ok (.bool (a == b))
  | .neq, some .bool => .ok (.bool (!(a == b)))
  | _, _ => .stuck
def xbin (wr : Bool) (d : Option TypeDesc) (op : BinOp) (x y : AV) : Res :=
  match x, y with
  | .int k a, .int k' b => if k = k' then xint wr op k a b else .stuck
  | .str a, .str b => xstr op a b
  | .bool a, .bool b => xbool op a b d
  | _, _ => .stuck

/-- is a slice nil? 'neg': or not nil? -/
def xnileq (sto : List Blk) (neg : Bool) (x : AV) : Res := match x with
  | .fz _ (_ :: _) => .ok (.bool neg)
  | .fz _ [] => .anyb True
  | .sl id off _ cap => match sto.getD id .dead with
    | .arr _ l => .anyb (off + cap = l.length)
    | _ => .stuck
  | .raw (.slice none 0 0) => .ok (.bool !neg)
  | _ => .stuck
def xbin2 (wr : Bool) (sto : List Blk) (d : Option TypeDesc) (op : BinOp) (x y : AV) : Res := match y, d with
  | .raw (.slice none 0 0), some (.slice _) => match op with
    | .eql => xnileq sto false x
    | .neq => xnileq sto true x
    | _ => .stuck
  | _, _ => xbin wr d op x y

/-- two structs whose fields are plain: field by field -/
def leafEq : Option TypeDesc → AV → AV → Option Bool
  | some .bool, .bool a, .bool b => some (a == b)
  | some (.int _), .int k a, .int k' b => if k = k' then some (a == b) else none
  | some .string, .str a, .str b => some (a == b)
  | _, _, _ => none
def bothB : Option Bool → Option Bool → Option Bool
  | some a, some b => some (a && b)
  | _, _ => none
def eqFs (P : Program) : List Field → List AV → List AV → Option Bool
  | [], _, _ => some true
  | f :: fs, x :: xs, y :: ys => bothB (leafEq (P.underlying f.type) x y) (eqFs P fs xs ys)
  | _ :: _, _, _ => none
def offsOk : Nat → List Field → Bool
  | _, [] => true
  | i, f :: fs => f.name != "_" && (f.offset == i && offsOk (i + 1) fs)
/-- what the machine's own '==' asks of a struct's type -/
def eqPlain (P : Program) (t : TypeId) : Bool := match P.underlying t with
  | some (.struct fs) => !P.eqGuardType P.depth t && (!P.stoodInHeld t && offsOk 0 fs.toList)
  | _ => false
def xeqop (op : BinOp) (p : Prop) : Option Bool → Res
  | some b => match op with
    | .eql => .side p (.bool b)
    | .neq => .side p (.bool !b)
    | _ => .stuck
  | none => .stuck
def xeqs (P : Program) (t : TypeId) (op : BinOp) (xs ys : List AV) : Option TypeDesc → Res
  | some (.struct fs) => xeqop op (eqPlain P t = true) (eqFs P fs.toList xs ys)
  | _ => .stuck
def xbin3 (P : Program) (t : TypeId) (wr : Bool) (sto : List Blk) (op : BinOp) (x y : AV) : Res := match x with
  | .agg xs => match y with
    | .agg ys => xeqs P t op xs ys (P.underlying t)
    | _ => .stuck
  | _ => xbin2 wr sto (P.underlying t) op x y

/-- the zero value's cells, and the number of cells and of bytes, of a type -/
def zcells (P : Program) (t : TypeId) : List Value := match (P.info? t).bind (·.zero) with | some v => v.cells.toList | none => []
def zav (P : Program) (t : TypeId) : List AV := (zcells P t).map ofConst
def tsize (P : Program) (t : TypeId) : Nat := ((P.info? t).map (·.size)).getD 0
def tbytes (P : Program) (t : TypeId) : Nat := ((P.info? t).map (·.bytes)).getD 0
/-- a struct or an array? -/
def isRow : Option TypeDesc → Bool
  | some (.struct _) | some (.array _ _) => true
  | _ => false
def elemD : Option TypeDesc → TypeId
  | some (.slice e) | some (.array _ e) => e
  | _ => 0

def xnot : AV → Res
  | .bool b => .ok (.bool !b)
  | _ => .stuck
def xneg : AV → Res
  | .int k n => .side (inr k (0 - n)) (.int k (0 - n))
  | _ => .stuck
def xpick (c x y : AV) : Res := match c with | .bool t => .pick t x y | _ => .stuck
def xextract (x : AV) (i : Nat) : Res := match x with | .tup l => .side (i < l.length) (l.getD i .any) | _ => .stuck
/-- a part of so many cells, at an offset -/
def xpart (row : Bool) (cs : List AV) (off sz : Nat) : AV := bif row then .agg ((cs.drop off).take sz) else cs.getD off .any
def xpartOk (row : Bool) (cs : List AV) (off sz : Nat) : Prop := bif row then off + sz ≤ cs.length else off < cs.length
/-- a type that the table has -/
def has (d : Option TypeDesc) : Prop := d.isSome = true
def xindex (t te : Option TypeDesc) (sz : Nat) (x i : AV) : Res := match t, x, i with
  | some .string, .str l, .int _ n => .side (0 ≤ n ∧ n < l.length) (.int .u8 ((l.getD n.toNat 0).toNat))
  | some (.array len _), .agg l, .int _ n => .side (has te ∧ (0 ≤ n ∧ n < len) ∧ xpartOk (isRow te) l (n.toNat * sz) sz) (xpart (isRow te) l (n.toNat * sz) sz)
  | _, _, _ => .stuck
def fieldD (d : Option TypeDesc) (f : Nat) : Option (Nat × TypeId) := match d with
  | some (.struct fs) => (fs[f]?).map fun x => (x.offset, x.type)
  | _ => none
def xfieldF (P : Program) (x : AV) : Option (Nat × TypeId) → Res
  | some (off, t) => match x with
    | .agg l => .side (has (P.underlying t) ∧ xpartOk (isRow (P.underlying t)) l off (tsize P t)) (xpart (isRow (P.underlying t)) l off (tsize P t))
    | _ => .stuck
  | none => .stuck
/-- a variable of one's own: one element -/
def xnew (sto : List Blk) (l : List AV) (elem : AV) : Res := .sto (0 < l.length ∧ l.all one = true) (.ptr sto.length 1 0 0) (sto ++ [.arr l.length [elem]])
def xbox (row : Bool) (sto : List Blk) (v : AV) : Res := match row, v with
  | true, .agg l => xnew sto l (.agg l)
  | false, v => bif one v then xnew sto [v] v else .stuck
  | _, _ => .stuck
def xalloc (sto : List Blk) (row : Bool) (z : List AV) : Res := bif row then xnew sto z (.agg z) else (match z with | [v] => xnew sto [v] v | _ => .stuck)

def xptrAddIf (p : Prop) (sto : List Blk) (x : AV) (k : Nat) : Res := match x with
  | .ptr id n j off => match sto.getD id .dead with
    | .arr _ l => .side (p ∧ n = l.length) (.ptr id n j (off + k))
    | _ => .stuck
  | .pin e l j off => .side p (.pin e l j (off + k))
  | _ => .stuck
def xfieldAddr (P : Program) (d : Option (Nat × TypeId)) (sto : List Blk) (x : AV) : Res := match d with
  | some (off, t) => xptrAddIf (0 < tsize P t) sto x off
  | none => .stuck
def xindexAddr (d : Option TypeDesc) (sz : Nat) (sto : List Blk) (x i : AV) : Res := match d, i with
  | some (.array len _), .int _ n => xptrAddIf (0 < sz ∧ 0 ≤ n ∧ n < len) sto x (n.toNat * sz)
  | some (.slice _), .int _ n => match x with
    | .fz e l => .side (0 < sz ∧ e = sz ∧ 0 ≤ n ∧ n < l.length) (.pin e l n.toNat 0)
    | .sl id off len cap => match sto.getD id .dead with
      | .arr e l => .side (0 < sz ∧ e = sz ∧ off + cap = l.length ∧ 0 ≤ n ∧ n < len ∧ len ≤ cap) (.ptr id l.length (off + n.toNat) 0)
      | _ => .stuck
    | _ => .stuck
  | _, _ => .stuck
def xloadC (d : Option TypeDesc) (sz : Nat) (p : Prop) (cs : List AV) (off : Nat) : Res := .side (has d ∧ p ∧ xpartOk (isRow d) cs off sz) (xpart (isRow d) cs off sz)
def xload (d : Option TypeDesc) (sz : Nat) (sto : List Blk) (x : AV) : Res := match x with
  | .ptr id n j off => match sto.getD id .dead with
    | .arr _ l => xloadC d sz (n = l.length ∧ j < n) (cellsOf (l.getD j .any)) off
    | _ => .stuck
  | .pin _ l j off => xloadC d sz (j < l.length) (cellsOf (l.getD j .any)) off
  | _ => .stuck
def putCells (cs : List AV) (off : Nat) : List AV → List AV
  | [] => cs
  | v :: r => putCells (cs.set off v) (off + 1) r
def reElem (old : AV) (cs : List AV) : AV := match old with
  | .agg _ => .agg cs
  | _ => cs.getD 0 .any
def xstoreB (sto : List Blk) (sz id n j off : Nat) (vs : List AV) : Blk → Res
  | .arr e l => .sto (0 < sz ∧ n = l.length ∧ j < n ∧ vs.length = sz ∧ off + sz ≤ (cellsOf (l.getD j .any)).length ∧ vs.all one = true) (.raw undef) (sto.set id (.arr e (l.set j (reElem (l.getD j .any) (putCells (cellsOf (l.getD j .any)) off vs)))))
  | _ => .stuck
def xstore (sz : Nat) (sto : List Blk) (x v : AV) : Res := match x with
  | .ptr id n j off => xstoreB sto sz id n j off (cellsOf v) (sto.getD id .dead)
  | _ => .stuck
def byteOf : AV → UInt8
  | .int _ n => UInt8.ofNat n.toNat
  | _ => 0
def isByte : AV → Bool
  | .int .u8 _ => true
  | _ => false
def isU8 : Option TypeDesc → Bool
  | some (.int .u8) => true
  | _ => false
def xtext (sto : List Blk) (x : AV) : Res := match x with
  | .fz e l => .side (e = 1 ∧ l.all isByte = true) (.str (l.map byteOf))
  | .sl id off len cap => match sto.getD id .dead with
    | .arr e l => .side (e = 1 ∧ off + cap = l.length ∧ len ≤ cap ∧ ((l.drop off).take len).all isByte = true) (.str (((l.drop off).take len).map byteOf))
    | _ => .stuck
  | .raw (.slice none 0 0) => .ok (.str [])
  | _ => .stuck
/-- []byte(s) -/
def xbytes (sto : List Blk) : AV → Res
  | .str s => .sto (s.length ≤ 140737488355328) (.sl sto.length 0 s.length s.length) (sto ++ [.arr 1 (s.map fun b => .int .u8 b.toNat)])
  | _ => .stuck
def xconv (wr : Bool) (src dst e e2 : Option TypeDesc) (sto : List Blk) (x : AV) : Res := match dst with
  | some (.int k) => match src, x with
    | some (.int _), .int _ n => bif wr then .ok (.int k (k.wrap n)) else .side (inr k n) (.int k n)
    | _, _ => .stuck
  | some .string => match src, x with
    | some .string, .str s => .ok (.str s)
    | some (.slice _), x => bif isU8 e then xtext sto x else .stuck
    | some (.int _), .int _ n => .side (0 ≤ n ∧ n < 128) (.str [UInt8.ofNat n.toNat])
    | _, _ => .stuck
  | some (.slice _) => match src with
    | some .string => bif isU8 e2 then xbytes sto x else .stuck
    | _ => .stuck
  | _ => .stuck
def xlen (sto : List Blk) (x : AV) (d : Option TypeDesc) : Res := match d, x with
  | some .string, .str s => .ok (.int .i64 s.length)
  | some (.slice _), .fz _ l => .ok (.int .i64 l.length)
  | some (.slice _), .sl id off n cap => match sto.getD id .dead with
    | .arr _ l => .side (off + cap = l.length) (.int .i64 n)
    | _ => .stuck
  | some (.slice _), .raw (.slice none 0 0) => .ok (.int .i64 0)
  | some (.array n _), _ => .ok (.int .i64 n)
  | _, _ => .stuck
def xlen2 (P : Program) (e : Env) (sto : List Blk) : List Operand → List TypeId → Res
  | x :: _, t :: _ => xlen sto (ev e x) (P.underlying t)
  | _, _ => .stuck
def xcall (f : AV) (args : List AV) : Res := match f with
  | .fn (.func f) cap => .call f (args ++ cap)
  | _ => .stuck
/-- parts laid into cells -/
def xfill (place : Nat → Option (Nat × Nat)) (cells : List AV) : List (Nat × AV) → Option (List AV)
  | [] => some cells
  | (i, v) :: r => match place i with
    | none => none
    | some (off, sz) => bif (cellsOf v).length == sz && decide (off + sz ≤ cells.length) && (cellsOf v).all one then xfill place (putCells cells off (cellsOf v)) r else none
def fieldPlace? (P : Program) (fs : Array Field) (i : Nat) : Option (Nat × Nat) := (fs[i]?).map fun f => (f.offset, tsize P f.type)
def allHas (P : Program) : List Field → Prop
  | [] => True
  | f :: r => has (P.underlying f.type) ∧ allHas P r
def xbuild (P : Program) (d : Option TypeDesc) (z : List AV) (parts : List (Nat × AV)) : Res := match d with
  | some (.struct fs) => match xfill (fieldPlace? P fs) z parts with
    | some cs => .side (0 < z.length ∧ allHas P fs.toList) (.agg cs)
    | none => .stuck
  | some (.array _ e) => match xfill (fun i => some (i * tsize P e, tsize P e)) z parts with
    | some cs => .side (0 < z.length ∧ has (P.underlying e)) (.agg cs)
    | none => .stuck
  | _ => .stuck
/-- cells cut into elements -/
def cut (row : Bool) (sz : Nat) : Nat → List AV → List AV
  | 0, _ => []
  | n + 1, cs => (bif row then .agg (cs.take sz) else cs.getD 0 .any) :: cut row sz n (cs.drop sz)
def rep (z : List AV) : Nat → List AV
  | 0 => []
  | n + 1 => z ++ rep z n
/-- a slice literal: frozen ('frz'), or of one's own -/
def xbuildSlice (frz : Bool) (row : Bool) (sz : Nat) (sto : List Blk) (z : List AV) (len : Nat) (parts : List (Nat × AV)) : Res :=
  match xfill (fun i => some (i * sz, sz)) (rep z len) parts with
  | some cs => bif frz then .side ((0 < sz ∧ 0 < len ∧ z.length = sz ∧ len * sz ≤ 16777216 ∧ (rep z len).all one = true ∧ (row = false → sz = 1)) ∧ cs.all frozen = true) (.fz sz (cut row sz len cs))
    else .sto (0 < sz ∧ 0 < len ∧ z.length = sz ∧ len * sz ≤ 16777216 ∧ (rep z len).all one = true ∧ (row = false → sz = 1)) (.sl sto.length 0 len len) (sto ++ [.arr sz (cut row sz len cs)])
  | none => .stuck

/-- a slice literal without elements -/
def xempty (frz : Bool) (sto : List Blk) (sz : Nat) : Res :=
  bif frz then .side (0 < sz) (.fz sz []) else .sto (0 < sz) (.sl sto.length 0 0 0) (sto ++ [.arr sz []])

def xbuildSliceD (P : Program) (frz : Bool) (sto : List Blk) (len : Nat) (parts : List (Nat × AV)) : Option TypeDesc → Res
  | some (.slice el) => match len, parts with
    | 0, [] => xempty frz sto (tsize P el)
    | len, parts => xbuildSlice frz (isRow (P.underlying el)) (tsize P el) sto (zav P el) len parts
  | _ => .stuck

/-- what is read as a slice of elements of so many cells: its elements, and under which condition -/
def srcB (off n cap sz : Nat) : Blk → Option (List AV × Prop)
  | .arr e l => some ((l.drop off).take n, (e = sz ∨ l = []) ∧ off + cap = l.length ∧ n ≤ cap)
  | _ => none
def byteAV (b : UInt8) : AV := .int .u8 b.toNat
def srcOf (sto : List Blk) (sz : Nat) : AV → Option (List AV × Prop)
  | .fz e l => some (l, e = sz)
  | .sl id off n cap => srcB off n cap sz (sto.getD id .dead)
  | .raw (.slice none 0 0) => some ([], True)
  | .str s => some (s.map byteAV, sz = 1)
  | _ => none
def splice' (l : List AV) (k : Nat) (vs : List AV) : List AV := l.take k ++ vs ++ l.drop (k + vs.length)
/-- append to a block of one's own: at its end, or over its places -/
def xappB (sto : List Blk) (id off len cap sz bytes : Nat) (z : List AV) (L : List AV) (p : Prop) : Blk → Res
  | .arr e l => bif len == cap then .sto (p ∧ 0 < sz ∧ z.length = sz ∧ z.all one = true ∧ off = 0 ∧ cap = l.length ∧ (e = sz ∨ l = [] ∧ e = 0) ∧ (l.length + L.length) * bytes ≤ 140737488355328 ∧ l.length + L.length ≤ 9223372036854775807) (.sl id 0 (len + L.length) (cap + L.length)) (sto.set id (.arr sz (l ++ L)))
    else .sto (p ∧ 0 < sz ∧ e = sz ∧ off + cap = l.length ∧ len + L.length ≤ cap) (.sl id off (len + L.length) cap) (sto.set id (.arr sz (splice' l (off + len) L)))
  | _ => .stuck
def xappD (sto : List Blk) (sz bytes : Nat) (z : List AV) (L : List AV) (p : Prop) : AV → Res
  | .raw (.slice none 0 0) => .sto (p ∧ 0 < sz ∧ z.length = sz ∧ z.all one = true ∧ L.length * bytes ≤ 140737488355328 ∧ L.length ≤ 9223372036854775807) (.sl sto.length 0 L.length L.length) (sto ++ [.arr sz L])
  | .sl id off len cap => xappB sto id off len cap sz bytes z L p (sto.getD id .dead)
  | _ => .stuck
def xappS (sto : List Blk) (sz bytes : Nat) (z : List AV) (dst : AV) : Option (List AV × Prop) → Res
  | some (L, p) => xappD sto sz bytes z L p dst
  | none => .stuck
def notInt : Option TypeDesc → Bool
  | some (.slice _) | some .string => true
  | _ => false
def xapp (P : Program) (sto : List Blk) (dst src : AV) (tx : Option TypeDesc) : Option TypeDesc → Res
  | some (.slice el) => bif notInt tx then xappS sto (tsize P el) (tbytes P el) (zav P el) dst (srcOf sto (tsize P el) src) else .stuck
  | _ => .stuck
def xapp2 (P : Program) (e : Env) (sto : List Blk) : List Operand → List TypeId → Res
  | [x, y], [t, u] => xapp P sto (ev e x) (ev e y) (P.underlying u) (P.underlying t)
  | _, _ => .stuck
/-- a part of a slice or a string -/
def cutL {α : Type} (l : List α) : Option AV → Option AV → List α
  | some (.int _ a), some (.int _ b) => (l.take b.toNat).drop a.toNat
  | some (.int _ a), _ => l.drop a.toNat
  | _, some (.int _ b) => l.take b.toNat
  | _, _ => l
def loOf : Option AV → Option Int
  | none => some 0
  | some (.int _ a) => some a
  | _ => none
def hiOf (n : Int) : Option AV → Option Int
  | none => some n
  | some (.int _ b) => some b
  | _ => none
def xcutS (l : List UInt8) (lo hi : Option AV) : Option Int → Option Int → Res
  | some a, some b => .side (0 ≤ a ∧ a ≤ b ∧ b ≤ l.length) (.str (cutL l lo hi))
  | _, _ => .stuck
def xcutF (sz e : Nat) (l : List AV) (lo hi : Option AV) : Option Int → Option Int → Res
  | some a, some b => .side (0 < sz ∧ e = sz ∧ 0 ≤ a ∧ a ≤ b ∧ b ≤ l.length) (.fz e (cutL l lo hi))
  | _, _ => .stuck
def xcutB (sz id off len cap : Nat) : Blk → Option Int → Option Int → Res
  | .arr e l, some a, some b => .side (0 < sz ∧ e = sz ∧ off + cap = l.length ∧ len ≤ cap ∧ 0 ≤ a ∧ a ≤ b ∧ b ≤ cap) (.sl id (off + a.toNat) (b - a).toNat (cap - a.toNat))
  | _, _, _ => .stuck
def xcutN (sz : Nat) : Option Int → Option Int → Res
  | some a, some b => .side (0 < sz ∧ a = 0 ∧ b = 0) (.raw (.slice none 0 0))
  | _, _ => .stuck
/-- 's[:0:0]': nothing, and no room -/
def xcut0 (sz : Nat) (sto : List Blk) (x : AV) : Option AV → Option AV → Res
  | some (.int _ 0), some (.int _ 0) => match x with
    | .fz _ _ => .sto (0 < sz) (.sl sto.length 0 0 0) (sto ++ [.arr 0 []])
    | .sl id off len cap => match sto.getD id .dead with
      | .arr _ l => .sto (0 < sz ∧ off + cap = l.length) (.sl sto.length 0 0 0) (sto ++ [.arr 0 []])
      | _ => .stuck
    | .raw (.slice none 0 0) => .side (0 < sz) (.raw (.slice none 0 0))
    | _ => .stuck
  | _, _ => .stuck
def ixOf : Option AV → Option Int
  | some (.int _ b) => some b
  | _ => none
/-- 's[a:b:m]': that it stands; of the value nothing is said -/
def xcut3 (sz : Nat) (sto : List Blk) (x : AV) : Option Int → Option Int → Option Int → Res
  | some a, some b, some m => match x with
    | .fz _ l => .side (0 < sz ∧ 0 ≤ a ∧ a ≤ b ∧ b ≤ m ∧ m ≤ l.length) .any
    | .sl id off len cap => match sto.getD id .dead with
      | .arr _ l => .side (0 < sz ∧ off + cap = l.length ∧ len ≤ cap ∧ 0 ≤ a ∧ a ≤ b ∧ b ≤ m ∧ m ≤ cap) .any
      | _ => .stuck
    | _ => .stuck
  | _, _, _ => .stuck
def xcut (P : Program) (sto : List Blk) (x : AV) (lo hi mx : Option AV) (d : Option TypeDesc) : Res := match mx, d with
  | none, some .string => match x with
    | .str l => xcutS l lo hi (loOf lo) (hiOf l.length hi)
    | _ => .stuck
  | none, some (.slice el) => match x with
    | .fz e l => xcutF (tsize P el) e l lo hi (loOf lo) (hiOf l.length hi)
    | .sl id off len cap => xcutB (tsize P el) id off len cap (sto.getD id .dead) (loOf lo) (hiOf len hi)
    | .raw (.slice none 0 0) => xcutN (tsize P el) (loOf lo) (hiOf 0 hi)
    | _ => .stuck
  | some m, some (.slice el) => match lo with
    | none => xcut0 (tsize P el) sto x hi (some m)
    | some lo' => xcut3 (tsize P el) sto x (ixOf (some lo')) (ixOf hi) (ixOf (some m))
  | _, _ => .stuck
def evo (e : Env) : Option Operand → Option AV
  | some x => some (ev e x)
  | none => none
/-- make([]T, n, c) -/
def zelem (row : Bool) (z : List AV) : AV := bif row then .agg z else z.getD 0 .any
def xmake (P : Program) (sto : List Blk) : Option TypeDesc → AV → AV → Res
  | some (.slice el), .int _ n, .int _ c => .sto (0 < tsize P el ∧ (zav P el).length = tsize P el ∧ (isRow (P.underlying el) = false → tsize P el = 1) ∧ (zav P el).all one = true ∧ 0 ≤ n ∧ n ≤ c ∧ c ≤ 9223372036854775807 ∧ (tbytes P el : Int) * c ≤ 140737488355328)
      (.sl sto.length 0 n.toNat n.toNat) (sto ++ [.arr (tsize P el) (List.replicate n.toNat (zelem (isRow (P.underlying el)) (zav P el)))])
  | _, _, _ => .stuck
def xmax (big : Bool) : List AV → Res
  | [.int k a, .int k' b] => bif decide (k = k') then .ok (.int k (bif big then (if b > a then b else a) else (if b < a then b else a))) else .stuck
  | _ => .stuck
/-- copy -/
def xcopyB (sto : List Blk) (id off len cap sz : Nat) (L : List AV) (p : Prop) : Blk → Res
  | .arr e l => .sto (p ∧ 0 < sz ∧ e = sz ∧ off + cap = l.length ∧ len ≤ cap) (.int .i64 (min L.length len : Nat)) (sto.set id (.arr sz (splice' l off (L.take len))))
  | _ => .stuck
def xcopyS (sto : List Blk) (sz : Nat) (dst : AV) : Option (List AV × Prop) → Res
  | some (L, p) => match dst with
    | .sl id off len cap => xcopyB sto id off len cap sz L p (sto.getD id .dead)
    | _ => .stuck
  | none => .stuck
def xcopy2 (P : Program) (e : Env) (sto : List Blk) : List Operand → List TypeId → Res
  | [x, y], [t, _] => match P.underlying t with
    | some (.slice el) => xcopyS sto (tsize P el) (ev e x) (srcOf sto (tsize P el) (ev e y))
    | _ => .stuck
  | _, _ => .stuck
/-- clear of a slice -/
def xclearB (sto : List Blk) (id off len cap sz : Nat) (row : Bool) (z : List AV) : Blk → Res
  | .arr e l => .sto (0 < sz ∧ z.length = sz ∧ (row = false → sz = 1) ∧ z.all one = true ∧ e = sz ∧ off + cap = l.length ∧ len ≤ cap) (.tup []) (sto.set id (.arr sz (splice' l off (List.replicate len (zelem row z)))))
  | _ => .stuck
def xclear2 (P : Program) (e : Env) (sto : List Blk) : List Operand → List TypeId → Res
  | [x], [t] => match P.underlying t with
    | some (.slice el) => match ev e x with
      | .sl id off len cap => xclearB sto id off len cap (tsize P el) (isRow (P.underlying el)) (zav P el) (sto.getD id .dead)
      | _ => .stuck
    | _ => .stuck
  | _, _ => .stuck
/-- maps whose keys are strings, whole numbers or bools -/
def keyEq : TypeDesc → AV → AV → Option Bool
  | .string, .str a, .str b => some (a == b)
  | .int _, .int k a, .int k' b => bif decide (k = k') then some (a == b) else none
  | .bool, .bool a, .bool b => some (a == b)
  | _, _, _ => none
def isKey : TypeDesc → AV → Bool
  | .string, .str _ => true
  | .int k, .int k' _ => decide (k' = k)
  | .bool, .bool _ => true
  | _, _ => false
def mfind (d : TypeDesc) (k : AV) : List (AV × AV) → Nat → Option (Option (Nat × AV))
  | [], _ => some none
  | x :: r, i => match keyEq d k x.1 with
    | some true => some (some (i, x.2))
    | some false => mfind d k r (i + 1)
    | none => none
def xmkmap (sto : List Blk) : Res := .sto True (.mp sto.length) (sto ++ [.mp []])
def xmputF (sto : List Blk) (id : Nat) (es : List (AV × AV)) (k v : AV) : Option (Option (Nat × AV)) → Res
  | some (some (i, _)) => .sto True (.raw undef) (sto.set id (.mp (es.set i (k, v))))
  | some none => .sto True (.raw undef) (sto.set id (.mp (es ++ [(k, v)])))
  | none => .stuck
def xmputB (d : TypeDesc) (sto : List Blk) (id : Nat) (k v : AV) : Blk → Res
  | .mp es => bif isKey d k then xmputF sto id es k v (mfind d k es 0) else .stuck
  | _ => .stuck
def xmput (P : Program) (sto : List Blk) (m k v : AV) : Option TypeDesc → Res
  | some (.map kt _) => match P.underlying kt, m with
    | some d, .mp id => xmputB d sto id k v (sto.getD id .dead)
    | _, _ => .stuck
  | _ => .stuck
/-- a type whose zero value is one cell -/
def zleaf (P : Program) (t : TypeId) : Bool := match (P.info? t).bind (·.zero) with
  | some (.agg _) => false
  | some _ => true
  | none => false
def xlookF (ok : Bool) (z : AV) (p : Prop) : Option (Option (Nat × AV)) → Res
  | some (some (_, v)) => .ok (bif ok then .tup [v, .bool true] else v)
  | some none => .side p (bif ok then .tup [z, .bool false] else z)
  | none => .stuck
def xlookB (d : TypeDesc) (k : AV) (ok : Bool) (z : AV) (p : Prop) : Blk → Res
  | .mp es => bif isKey d k then xlookF ok z p (mfind d k es 0) else .stuck
  | _ => .stuck
def xlook (P : Program) (sto : List Blk) (m k : AV) (ok : Bool) : Option TypeDesc → Res
  | some (.map kt vt) => match P.underlying kt, m with
    | some d, .mp id => xlookB d k ok ((zav P vt).getD 0 .any) (zleaf P vt = true) (sto.getD id .dead)
    | _, _ => .stuck
  | _ => .stuck
def xnil (sto : List Blk) (x : AV) : Res := match x with
  | .ptr id n j off => match sto.getD id .dead with
    | .arr _ l => .side (n = l.length) (.ptr id n j off)
    | _ => .stuck
  | .pin e l j off => .ok (.pin e l j off)
  | _ => .stuck

def xop (wr frz : Bool) (P : Program) (e : Env) (sto : List Blk) (op : Op) : Res :=
  match op with
  | .move x | .assign x => .ok (ev e x)
  | .pick c a b => xpick (ev e c) (ev e a) (ev e b)
  | .binOp op t x y _ => xbin3 P t wr sto op (ev e x) (ev e y)
  | .unOp .not _ x => xnot (ev e x)
  | .unOp .neg _ x => xneg (ev e x)
  | .extract x i => xextract (ev e x) i
  | .index t x i => xindex (P.underlying t) (P.underlying (elemD (P.underlying t))) (tsize P (elemD (P.underlying t))) (ev e x) (ev e i)
  | .field t x f => xfieldF P (ev e x) (fieldD (P.underlying t) f)
  | .box t x => xbox (isRow (P.underlying t)) sto (ev e x)
  | .alloc t => xalloc sto (isRow (P.underlying t)) (zav P t)
  | .fieldAddr t x f => xfieldAddr P (fieldD (P.underlying t) f) sto (ev e x)
  | .indexAddr t x i => xindexAddr (P.underlying t) (tsize P (elemD (P.underlying t))) sto (ev e x) (ev e i)
  | .load t x => xload (P.underlying t) (tsize P t) sto (ev e x)
  | .store t x v => xstore (tsize P t) sto (ev e x) (ev e v)
  | .convert a b x => xconv wr (P.underlying a) (P.underlying b) (P.underlying (elemD (P.underlying a))) (P.underlying (elemD (P.underlying b))) sto (ev e x)
  | .build t parts => xbuild P (P.underlying t) (zav P t) (evp e parts.toList)
  | .buildSlice t len parts => xbuildSliceD P frz sto len (evp e parts.toList) (P.underlying t)
  | .slice t x lo hi mx => xcut P sto (ev e x) (evo e lo) (evo e hi) (evo e mx) (P.underlying t)
  | .makeSlice t n c => xmake P sto (P.underlying t) (ev e n) (ev e c)
  | .nilCheck x => xnil sto (ev e x)
  | .makeMap _ none => xmkmap sto
  | .mapUpdate t m k v => xmput P sto (ev e m) (ev e k) (ev e v) (P.underlying t)
  | .lookup t m k ok => xlook P sto (ev e m) (ev e k) ok (P.underlying t)
  | .makeFunc f first cap => match first.toList with | [] => .ok (.fn f (evs e cap.toList)) | _ => .stuck
  | .call c => match c.callee with
    | .builtin .len => xlen2 P e sto c.args.toList c.argTypes.toList
    | .builtin .append => xapp2 P e sto c.args.toList c.argTypes.toList
    | .builtin .copy => xcopy2 P e sto c.args.toList c.argTypes.toList
    | .builtin .clear => xclear2 P e sto c.args.toList c.argTypes.toList
    | .builtin .max => xmax true (evs e c.args.toList)
    | .builtin .min => xmax false (evs e c.args.toList)
    | .value f => xcall (ev e f) (evs e c.args.toList)
    | _ => .stuck
  | _ => .stuck

/-- lists of bytes as written, told apart -/
theorem beq_c_n {a : UInt8} {l : List UInt8} : ((a :: l) == []) = false := rfl
theorem beq_n_c {a : UInt8} {l : List UInt8} : (([] : List UInt8) == (a :: l)) = false := rfl
theorem bne_c_n {a : UInt8} {l : List UInt8} : ((a :: l) != []) = true := rfl
theorem bne_n_c {a : UInt8} {l : List UInt8} : (([] : List UInt8) != (a :: l)) = true := rfl
theorem one_nil : (Value.slice none 0 0).oneCell' = true := rfl
end Go.Av
/- Each operation makes of values what its counterpart makes of plain data. Own work of this seat. -/
set_option linter.unusedSimpArgs false
set_option linter.unusedVariables false
namespace Go.Av
open Go Go.RowKit

section
variable {h : Mem} {ρ : Own} {sto : List Blk} {w : World} {P : Program}

def EnvOk (h : Mem) (ρ : Own) (sto : List Blk) (e : Env) (a : Act) : Prop := ∀ t, RV h (Lf ρ sto) false (a.tmps.getD t undef) (get e t)

theorem inv_int {fl u k n} (r : RV h (Lf ρ sto) fl u (.int k n)) : u = .int k n := by cases r with | leaf l => exact l.2.elim | int => rfl
theorem inv_bool {fl u b} (r : RV h (Lf ρ sto) fl u (.bool b)) : u = .bool b := by cases r with | leaf l => exact l.2.elim | bool => rfl
theorem inv_str {fl u s} (r : RV h (Lf ρ sto) fl u (.str s)) : u = .string ⟨s.toArray⟩ := by cases r with | leaf l => exact l.2.elim | str => rfl
theorem inv_raw {fl u v} (r : RV h (Lf ρ sto) fl u (.raw v)) : u = v := by cases r with | leaf l => exact l.2.elim | raw => rfl
theorem inv_agg {fl u l} (r : RV h (Lf ρ sto) fl u (.agg l)) : ∃ vs : List Value, u = .agg vs.toArray ∧ RL h (Lf ρ sto) fl vs l := by
  cases r with | leaf l => exact l.2.elim | agg vs l r => exact ⟨vs, rfl, r⟩
theorem inv_tup {fl u l} (r : RV h (Lf ρ sto) fl u (.tup l)) : ∃ vs : List Value, u = .tuple vs.toArray ∧ RL h (Lf ρ sto) fl vs l := by
  cases r with | leaf l => exact l.2.elim | tup vs l r => exact ⟨vs, rfl, r⟩
theorem inv_fn {fl u f l} (r : RV h (Lf ρ sto) fl u (.fn f l)) : ∃ vs : List Value, u = .func f #[] vs.toArray ∧ RL h (Lf ρ sto) fl vs l := by
  cases r with | leaf l => exact l.2.elim | fn f vs l r => exact ⟨vs, rfl, r⟩
theorem inv_fz {fl u e l} (r : RV h (Lf ρ sto) fl u (.fz e l)) : (l = [] ∧ u = .slice none 0 0) ∨
    ∃ b o c vs, u = .slice (some ⟨b, o, none⟩) l.length c ∧ RL h (Lf ρ sto) true vs (flat l) ∧ (∀ x ∈ l, (cellsOf x).length = e) ∧ (∀ (k : Nat) v, vs[k]? = some v → h b (o + k) = some v) ∧ l.length ≤ c := by
  cases r with
  | leaf l => exact l.2.elim
  | fznil => exact .inl ⟨rfl, rfl⟩
  | fz b o c e l vs h1 h2 h3 h4 => exact .inr ⟨b, o, c, vs, rfl, h1, h2, h3, h4⟩
theorem inv_pin {fl u e l i off} (r : RV h (Lf ρ sto) fl u (.pin e l i off)) :
    ∃ b o vs, u = .pointer (some ⟨b, o + (i * e + off), none⟩) ∧ RL h (Lf ρ sto) true vs (flat l) ∧ (∀ x ∈ l, (cellsOf x).length = e) ∧ (∀ (k : Nat) v, vs[k]? = some v → h b (o + k) = some v) ∧ i < l.length := by
  cases r with
  | leaf l => exact l.2.elim
  | pin b o e l vs i off h1 h2 h3 h4 => exact ⟨b, o, vs, rfl, h1, h2, h3, h4⟩
theorem inv_sl {fl u id off len cap} (r : RV h (Lf ρ sto) fl u (.sl id off len cap)) : Lf ρ sto u (.sl id off len cap) := by cases r with | leaf l => exact l
theorem inv_ptr {fl u id n i off} (r : RV h (Lf ρ sto) fl u (.ptr id n i off)) : Lf ρ sto u (.ptr id n i off) := by cases r with | leaf l => exact l
theorem inv_mp {fl u id} (r : RV h (Lf ρ sto) fl u (.mp id)) : Lf ρ sto u (.mp id) := by cases r with | leaf l => exact l

theorem ofConst_ok {fl : Bool} (v : Value) : RV h (Lf ρ sto) fl v (ofConst v) := by
  cases v with
  | int k n => exact .int k n
  | bool b => exact .bool b
  | string s => exact .str s.data.toList
  | _ => exact .raw _

theorem ev_ok {e : Env} {a : Act} (he : EnvOk h ρ sto e a) (x : Operand) : RV h (Lf ρ sto) false (a.eval x) (ev e x) := by
  cases x with
  | tmp t => exact he t
  | const v => exact ofConst_ok v
  | global g => exact .raw _
  | func f => exact .fn (.func f) [] [] .nil

theorem evs_ok {e : Env} {a : Act} (he : EnvOk h ρ sto e a) (xs : List Operand) : RL h (Lf ρ sto) false (xs.map a.eval) (evs e xs) := by
  induction xs with
  | nil => exact .nil
  | cons x xs ih => exact .cons (ev_ok he x) ih

/-- a value that may lie in one cell -/
theorem one_ok {fl u a} (r : RV h (Lf ρ sto) fl u a) (h1 : one a = true) : u.oneCell' = true := by
  cases a with
  | int => rw [inv_int r]; rfl
  | bool => rw [inv_bool r]; rfl
  | str => rw [inv_str r]; rfl
  | raw v => rw [inv_raw r]; exact h1
  | agg => cases h1
  | tup => cases h1
  | any => cases h1
  | fn f l => obtain ⟨vs, rfl, _⟩ := inv_fn r; rfl
  | fz e l => rcases inv_fz r with ⟨_, rfl⟩ | ⟨b, o, c, vs, rfl, _⟩ <;> rfl
  | pin => obtain ⟨b, o, vs, rfl, _⟩ := inv_pin r; rfl
  | sl => exact (inv_sl r).1
  | ptr => exact (inv_ptr r).1
  | mp => exact (inv_mp r).1

end
end Go.Av
/- The operations that only compute, and the loads. Own work of this seat. -/
set_option linter.unusedSimpArgs false
set_option linter.unusedVariables false
namespace Go.Av
open Go Go.RowKit

section
variable {h : Mem} {ρ : Own} {sto : List Blk} {w : World} {P : Program}

/-- an operation yields a value that is 'v', and leaves the table of blocks 's' -/
def Okv (h : Mem) (ρ : Own) (sto : List Blk) (w : World) (r : Result Next) (v : AV) (s : List Blk) : Prop :=
  ∃ u w' h' ρ', (r = .ok (.value u) w' ∨ (r = .ok .skip w' ∧ u = undef)) ∧ Mine h' ρ' s w' ∧ Later h ρ sto w h' ρ' s w' ∧ RV h' (Lf ρ' s) false u v

theorem okv_pure (m : Mine h ρ sto w) {r : Result Next} {u : Value} {v : AV} (hr : r = .ok (.value u) w) (rv : RV h (Lf ρ sto) false u v) : Okv h ρ sto w r v sto :=
  ⟨u, w, h, ρ, .inl hr, m, .refl .., rv⟩

def hasBody (P : Program) (f : FuncId) : Bool := match P.funcs[f]? with
  | some fn => fn.body.isSome && !(fn.name == "runtime.NumGoroutine")
  | none => false

def Res.Sound (P : Program) (h : Mem) (ρ : Own) (sto : List Blk) (w : World) (r : Result Next) : Res → Prop
  | .ok v => Okv h ρ sto w r v sto
  | .side p v => p → Okv h ρ sto w r v sto
  | .sto p v s => p → Okv h ρ sto w r v s
  | .pick b x y => Okv h ρ sto w r (if b then x else y) sto
  | .call f args => ∃ vs : List Value, RL h (Lf ρ sto) false vs args ∧ (hasBody P f = true → r = .ok (.enter f vs.toArray) w)
  | .anyb p => p → ∃ b, Okv h ρ sto w r (.bool b) sto
  | .stuck => True

theorem andThen_assoc {α β γ : Type} (r : Result α) (f : α → World → Result β) (g : β → World → Result γ) : (r.andThen f).andThen g = r.andThen fun a w => (f a w).andThen g := by
  cases r <;> rfl

theorem info_of_underlying {t : TypeId} {d : TypeDesc} (hd : P.underlying t = some d) : ∃ i, P.info? t = some i := by
  unfold Program.underlying at hd
  split at hd
  · exact ⟨_, by assumption⟩
  · exact ⟨_, by assumption⟩
  · simp at hd

theorem sizeOf_run {t : TypeId} {d : TypeDesc} (hd : P.underlying t = some d) (w : World) : (sizeOf t).run P w = .ok (tsize P t) w := by
  obtain ⟨i, hi⟩ := info_of_underlying hd
  simp [sizeOf, typeInfo, hi, tsize]

theorem sizeOf_run' {t : TypeId} (ht : 0 < tsize P t) (w : World) : (sizeOf t).run P w = .ok (tsize P t) w := by
  cases hi : P.info? t with
  | none => simp [tsize, hi] at ht
  | some i => simp [sizeOf, typeInfo, hi, tsize]

theorem isAgg_run {t : TypeId} {d : TypeDesc} (hd : P.underlying t = some d) (w : World) : (isAgg t).run P w = .ok (isRow (some d)) w := by
  unfold isAgg
  rw [Sem.run_bind, run_underlying hd w]
  cases d <;> rfl

theorem extract_list (vs : List Value) (a n : Nat) : vs.toArray.extract a (a + n) = ((vs.drop a).take n).toArray := by
  simp [List.extract_toArray, List.extract]

theorem part_run {t : TypeId} {vs : List Value} {cs : List AV} {off : Nat} {fl : Bool} (hd : has (P.underlying t)) (r : RL h (Lf ρ sto) fl vs cs)
    (ok : xpartOk (isRow (P.underlying t)) cs off (tsize P t)) :
    ∃ u, (part t vs.toArray off).run P w = .ok u w ∧ RV h (Lf ρ sto) fl u (xpart (isRow (P.underlying t)) cs off (tsize P t)) := by
  cases hq : P.underlying t with
  | none => simp [has, hq] at hd
  | some d =>
    rw [hq] at ok
    unfold part
    rw [Sem.run_bind, isAgg_run hq w]
    simp only [Result.andThen_ok]
    cases hr : isRow (some d) with
    | true =>
      simp only [if_true, Sem.run_bind, sizeOf_run hq w, Result.andThen_ok, Sem.run_pure, extract_list]
      exact ⟨_, rfl, .agg _ _ ((r.drop off).take _)⟩
    | false =>
      simp only [hr, xpartOk, cond_false] at ok
      have hlen := r.length
      have : off < vs.length := by omega
      simp only [Bool.false_eq_true, if_false]
      refine ⟨vs[off], ?_, ?_⟩
      · simp [this]
      · have := r.getD off undef
        simpa [xpart, List.getD, ‹off < vs.length›] using this

theorem wrap_inr {k : IntKind} {n : Int} (hi : inr k n) : k.wrap n = n := by
  cases k with
  | i64 => exact IntWalk.i64_in n hi
  | i32 => exact IntWalk.i32_in n hi
  | u8 => exact IntWalk.u8_in n hi
  | u16 => exact IntWalk.u16_in n hi
  | _ => exact hi

theorem xarith_ok {wr : Bool} {k : IntKind} {n : Int} (m : Mine h ρ sto w) {r : Result Next} (hr : r = .ok (.value (.int k (k.wrap n))) w) :
    Res.Sound P h ρ sto w r (xarith wr k n) := by
  cases wr with
  | true => exact okv_pure m hr (.int _ _)
  | false =>
    simp only [xarith, cond_false, Res.Sound]
    intro hi
    have := wrap_inr hi
    exact okv_pure m hr (by rw [this]; exact .int _ _)

theorem bytesLess_eq : ∀ a b, Op.bytesLess a b = bytesLess a b
  | _, [] => by unfold Op.bytesLess bytesLess; rfl
  | [], _ :: _ => by simp [Op.bytesLess, bytesLess]
  | a :: x, b :: y => by simp [Op.bytesLess, bytesLess, bytesLess_eq x y]

theorem guard_int (op : BinOp) (t : TypeId) (x y : Operand) (k k' : IntKind) (a b : Int) : (eqGuard op t x y (.int k a) (.int k' b)).run P w = .ok () w := by
  unfold eqGuard; split <;> rfl

theorem xint_ok {wr : Bool} {op : BinOp} {t : TypeId} {k : IntKind} {a b : Int} (m : Mine h ρ sto w) {r : Result Next}
    (hr : r = ((Go.binOp op t (.int k a) (.int k b)).run P w).andThen fun v w' => .ok (.value v) w') : Res.Sound P h ρ sto w r (xint wr op k a b) := by
  cases op <;> simp only [xint] <;> try trivial
  case add => exact xarith_ok m (by rw [hr]; simp [Go.binOp, Op.intArith])
  case sub => exact xarith_ok m (by rw [hr]; simp [Go.binOp, Op.intArith])
  case mul => exact xarith_ok m (by rw [hr]; simp [Go.binOp, Op.intArith])
  case quo =>
    cases wr with
    | true =>
      intro ⟨hb, hi⟩
      have := wrap_inr hi
      exact okv_pure m (by rw [hr]; simp [Go.binOp, Op.intDiv, hb, this]) (.int _ _)
    | false =>
      intro ⟨ha, hb, hi⟩
      have h0 : b ≠ 0 := by omega
      have h1 : a.tdiv b = a / b := Int.tdiv_eq_ediv_of_nonneg ha
      have := wrap_inr hi
      exact okv_pure m (by rw [hr]; simp [Go.binOp, Op.intDiv, h0, h1, this]) (.int _ _)
  case rem =>
    cases wr with
    | true =>
      intro hb
      exact okv_pure m (by rw [hr]; simp [Go.binOp, Op.intDiv, hb]) (.int _ _)
    | false =>
      intro ⟨ha, hb⟩
      have h0 : b ≠ 0 := by omega
      have h1 : a.tmod b = a % b := Int.tmod_eq_emod_of_nonneg ha
      exact okv_pure m (by rw [hr]; simp [Go.binOp, Op.intDiv, h0, h1]) (.int _ _)
  all_goals exact okv_pure m (by rw [hr]; simp [Go.binOp, Op.intCmp]) (.bool _)

theorem xstr_ok {op : BinOp} {t : TypeId} {a b : List UInt8} (m : Mine h ρ sto w) {r : Result Next}
    (hr : r = ((Go.binOp op t (.string ⟨a.toArray⟩) (.string ⟨b.toArray⟩)).run P w).andThen fun v w' => .ok (.value v) w') : Res.Sound P h ρ sto w r (xstr op a b) := by
  cases op <;> simp only [xstr] <;> try trivial
  case add =>
    intro hb
    have h1 : ¬ (((a.length + b.length : Nat) : Int) > 9223372036854775807) := by omega
    have h2 : (ByteArray.mk a.toArray).size = a.length := rfl
    have h3 : (ByteArray.mk b.toArray).size = b.length := rfl
    have h4 : (ByteArray.mk a.toArray) ++ (ByteArray.mk b.toArray) = ByteArray.mk (a ++ b).toArray := by
      apply ByteArray.ext; simp [ByteArray.data_append]
    refine okv_pure m (u := .string ⟨(a ++ b).toArray⟩) ?_ (.str _)
    rw [hr]
    have h5 : IntKind.max .i64 = 9223372036854775807 := by decide
    simp only [Go.binOp, Op.stringOp, h2, h3, h5, if_neg h1, h4]
    rfl
  all_goals exact okv_pure m (by rw [hr]; simp [Go.binOp, Op.stringOp, bytesLess_eq, bne]) (.bool _)

theorem equalIn_bool {t : TypeId} (hd : P.underlying t = some .bool) (d : Nat) (p q : Bool) : (Op.equalIn (d + 1) t (.bool p) (.bool q)).run P w = .ok (p == q) w := by
  simp [Op.equalIn, run_underlying hd]
theorem equal_bool {t : TypeId} (hd : P.underlying t = some .bool) (p q : Bool) : (Op.equal t (.bool p) (.bool q)).run P w = .ok (p == q) w :=
  equalIn_bool hd 9999 p q

theorem xbin_ok {wr : Bool} {op : BinOp} {t yt : TypeId} {x y : Operand} {o : Oper} {e : Env} {a : Act} (ho : o.op = .binOp op t x y yt) (m : Mine h ρ sto w) (he : EnvOk h ρ sto e a) :
    Res.Sound P h ρ sto w ((execOp a.eval o).run P w) (xbin wr (P.underlying t) op (ev e x) (ev e y)) := by
  have hx := ev_ok he x
  have hy := ev_ok he y
  have hrun : (execOp a.eval o).run P w = ((do eqGuard op t x y (a.eval x) (a.eval y); Go.binOp op t (a.eval x) (a.eval y) : Sem Value).run P w).andThen fun v w' => .ok (.value v) w' := by
    simp [execOp, ho, andThen_assoc]
  rw [hrun]
  generalize a.eval x = u at *
  generalize a.eval y = v at *
  unfold xbin
  split
  · rename_i k p k' q h1 h2
    rw [h1] at hx; rw [h2] at hy
    rw [inv_int hx, inv_int hy]
    split
    · rename_i hk; subst hk
      exact xint_ok (t := t) m (by simp [guard_int])
    · trivial
  · rename_i p q h1 h2
    rw [h1] at hx; rw [h2] at hy
    rw [inv_str hx, inv_str hy]
    exact xstr_ok (t := t) m (by
      have : (eqGuard op t x y (.string ⟨p.toArray⟩) (.string ⟨q.toArray⟩)).run P w = .ok () w := by unfold eqGuard; split <;> rfl
      simp [this])
  · rename_i p q h1 h2
    rw [h1] at hx; rw [h2] at hy
    rw [inv_bool hx, inv_bool hy]
    have hg : (eqGuard op t x y (.bool p) (.bool q)).run P w = .ok () w := by unfold eqGuard; split <;> rfl
    unfold xbool
    split
    · rename_i hd
      exact okv_pure m (u := .bool (p == q)) (by
        rw [Sem.run_bind, hg]
        show ((do pure (Value.bool (← Op.equal t (.bool p) (.bool q))) : Sem Value).run P w).andThen _ = _
        rw [Sem.run_bind, equal_bool hd]; rfl) (.bool _)
    · rename_i hd
      exact okv_pure m (u := .bool (!(p == q))) (by
        rw [Sem.run_bind, hg]
        show ((do pure (Value.bool (!(← Op.equal t (.bool p) (.bool q)))) : Sem Value).run P w).andThen _ = _
        simp only [Sem.run_bind, equal_bool hd]; rfl) (.bool _)
    · trivial
  · trivial

/-- the place that a pointer of one's own, or into what is frozen, leads to -/
theorem ptr_place (m : Mine h ρ sto w) {u : Value} {id n j off : Nat} {e : Nat} {l : List AV} (hb : sto.getD id .dead = .arr e l) (r : RV h (Lf ρ sto) false u (.ptr id n j off)) (hn : n = l.length) :
    ∃ g tot cur t, ρ id = some (g, tot) ∧ u = .pointer (some ⟨g, j * e + off, none⟩) ∧ HRow w g cur t ∧ cur.size = tot * e ∧ l.length ≤ tot ∧ tot ≤ maxLen ∧ 0 < e ∧ j < n ∧
      sto[id]? = some (.arr e l) ∧ (∀ x ∈ l, (cellsOf x).length = e) ∧ (∀ v ∈ cur.toList, v.oneCell' = true) ∧ RL h (Lf ρ sto) false (cur.toList.take (l.length * e)) (flat l) := by
  have hs : sto[id]? = some (.arr e l) := by
    rw [List.getD_eq_getElem?_getD] at hb
    cases hq : sto[id]? with
    | none => simp [hq] at hb
    | some b => simp [hq] at hb; rw [hb]
  have hl := (inv_ptr r).2
  simp only [LfC, hs] at hl
  obtain ⟨_, hl⟩ := hl
  obtain ⟨hj, g, tot, h1, h2⟩ := hl hn
  rcases m.own id _ hs with ⟨_, hno⟩ | ⟨g', tot', cur, t, h3, h4, h5, h6, h7, h8, h9, h10, h11⟩
  · simp [hno] at h1
  · rw [h3] at h1
    simp only [Option.some.injEq, Prod.mk.injEq] at h1
    obtain ⟨rfl, rfl⟩ := h1
    exact ⟨g', tot', cur, t, h3, h2, h4, h5, h6, h7, h8, hj, hs, h9, h10, h11⟩

/-- reading cells of one element -/
theorem load_run {t : TypeId} {u : Value} {b o : Nat} {cs : List AV} {vs : List Value} {off : Nat} {fl : Bool} (hd : has (P.underlying t)) (hu : u = .pointer (some ⟨b, o + off, none⟩))
    (r : RL h (Lf ρ sto) fl vs cs) (hc : ∀ (k : Nat) v, vs[k]? = some v → w.cell? ⟨b, o + k, none⟩ = some v) (ok : xpartOk (isRow (P.underlying t)) cs off (tsize P t)) :
    ∃ v, (Instr.loadAt t u).run P w = .ok v w ∧ RV h (Lf ρ sto) fl v (xpart (isRow (P.underlying t)) cs off (tsize P t)) := by
  subst hu
  cases hq : P.underlying t with
  | none => simp [has, hq] at hd
  | some d =>
    rw [hq] at ok
    cases hr : isRow (some d) with
    | true =>
      simp only [hr, xpartOk, cond_true] at ok
      have hlen := r.length
      have hl : ((vs.drop off).take (tsize P t)).length = tsize P t := by simp; omega
      have hsz : (P.info? t).map (·.size) = some ((vs.drop off).take (tsize P t)).length := by
        obtain ⟨i, hi⟩ := info_of_underlying hq
        rw [hl]; simp [tsize, hi]
      have hrow : d.isRow = true := by cases d <;> simp_all [isRow, TypeDesc.isRow]
      refine ⟨_, run_loadAt_mid w b (o + off) t ((vs.drop off).take (tsize P t)) d ?_ hq hrow hsz, .agg _ _ ((r.drop off).take _)⟩
      intro j v hj
      rw [Nat.add_assoc]
      refine hc (off + j) v ?_
      rw [List.getElem?_take] at hj
      split at hj
      · rw [List.getElem?_drop] at hj; exact hj
      · simp at hj
    | false =>
      simp only [hr, xpartOk, cond_false] at ok
      have hlen := r.length
      have hlt : off < vs.length := by omega
      refine ⟨vs[off], ?_, ?_⟩
      · have hcell := hc off vs[off] (by simp [hlt])
        have hag : (isAgg t).run P w = .ok false w := by rw [isAgg_run hq w, hr]
        simp [Instr.loadAt, Instr.sureAddr, loadVar, hag, hcell]
      · have := r.getD off undef
        simpa [xpart, List.getD, hlt] using this

def LdOk (P : Program) (h : Mem) (ρ : Own) (sto : List Blk) (w : World) (t : TypeId) (u : Value) : Res → Prop
  | .side p z => p → ∃ v, (Instr.loadAt t u).run P w = .ok v w ∧ RV h (Lf ρ sto) false v z
  | _ => True
/-- what a load reads -/
theorem load_val {t : TypeId} {u : Value} {y : AV} (m : Mine h ρ sto w) (hx : RV h (Lf ρ sto) false u y) : LdOk P h ρ sto w t u (xload (P.underlying t) (tsize P t) sto y) := by
  unfold xload
  split
  · rename_i id n j off
    split
    · rename_i ee l hb
      intro ⟨hd, ⟨hn, hj⟩, ok⟩
      obtain ⟨g, tot, cur, tt, h1, h2, h3, h4, h5, h6, h7, h8, h9, h10, h11, h12⟩ := ptr_place m hb hx hn
      have hjl : j < l.length := by omega
      have hel : l[j]? = some (l.getD j .any) := by simp [List.getD, hjl]
      have hec : (cellsOf (l.getD j .any)).length = ee := h10 _ (List.mem_of_getElem? hel)
      have hcs : RL h (Lf ρ sto) false (((cur.toList.take (l.length * ee)).drop (j * ee)).take ee) (cellsOf (l.getD j .any)) := by
        have := (h12.drop (j * ee)).take ee
        rw [flat_drop h10 j] at this
        have e2 : l.drop j = l.getD j .any :: l.drop (j + 1) := by
          rw [List.drop_eq_getElem?_toList_append, hel]; rfl
        rw [e2] at this
        simp only [flat] at this
        rw [← hec, List.take_left] at this
        rw [← hec]; exact this
      obtain ⟨v, hv, rv⟩ := load_run (P := P) (w := w) (u := u) (b := g) (o := j * ee) hd h2 hcs (fun k v hk => by
        rw [h3.cell]
        rw [List.getElem?_take] at hk
        split at hk
        · rw [List.getElem?_drop, List.getElem?_take] at hk
          split at hk
          · simpa using hk
          · simp at hk
        · simp at hk) ok
      exact ⟨v, hv, rv⟩
    · trivial
  · rename_i ee l j off
    intro ⟨hd, hj, ok⟩
    obtain ⟨b, o, vs, h2, h3, h4, h5, h6⟩ := inv_pin hx
    have hel : l[j]? = some (l.getD j .any) := by simp [List.getD, hj]
    have hec : (cellsOf (l.getD j .any)).length = ee := h4 _ (List.mem_of_getElem? hel)
    have hcs : RL h (Lf ρ sto) true ((vs.drop (j * ee)).take ee) (cellsOf (l.getD j .any)) := by
      have := (h3.drop (j * ee)).take ee
      rw [flat_drop h4 j] at this
      have e2 : l.drop j = l.getD j .any :: l.drop (j + 1) := by
        rw [List.drop_eq_getElem?_toList_append, hel]; rfl
      rw [e2] at this
      simp only [flat] at this
      rw [← hec, List.take_left] at this
      rw [← hec]; exact this
    obtain ⟨v, hv, rv⟩ := load_run (P := P) (w := w) (u := u) (b := b) (o := o + j * ee) hd (by rw [h2, Nat.add_assoc]) hcs (fun k v hk => by
      rw [List.getElem?_take] at hk
      split at hk
      · rw [List.getElem?_drop] at hk
        rw [Nat.add_assoc]
        exact (m.mem b _ v (h5 _ v hk)).1
      · simp at hk) ok
    exact ⟨v, hv, rv.thaw (fun _ _ _ x => x)⟩
  · trivial

theorem load_ok {t : TypeId} {x : Operand} {o : Oper} {e : Env} {a : Act} (ho : o.op = .load t x) (m : Mine h ρ sto w) (he : EnvOk h ρ sto e a) :
    Res.Sound P h ρ sto w ((execOp a.eval o).run P w) (xload (P.underlying t) (tsize P t) sto (ev e x)) := by
  have hx := ev_ok he x
  have hrun : (execOp a.eval o).run P w = ((Instr.loadAt t (a.eval x)).run P w).andThen fun v w' => .ok (.value v) w' := by
    simp [execOp, ho]
  rw [hrun]
  generalize a.eval x = u at *
  unfold xload
  split
  · rename_i id n j off h1
    rw [h1] at hx
    split
    · rename_i ee l hb
      intro ⟨hd, ⟨hn, hj⟩, ok⟩
      obtain ⟨g, tot, cur, tt, h1, h2, h3, h4, h5, h6, h7, h8, h9, h10, h11, h12⟩ := ptr_place m hb hx hn
      have hjl : j < l.length := by omega
      have hel : l[j]? = some (l.getD j .any) := by simp [List.getD, hjl]
      have hec : (cellsOf (l.getD j .any)).length = ee := h10 _ (List.mem_of_getElem? hel)
      have hcs : RL h (Lf ρ sto) false (((cur.toList.take (l.length * ee)).drop (j * ee)).take ee) (cellsOf (l.getD j .any)) := by
        have := (h12.drop (j * ee)).take ee
        rw [flat_drop h10 j] at this
        have e2 : l.drop j = l.getD j .any :: l.drop (j + 1) := by
          rw [List.drop_eq_getElem?_toList_append, hel]; rfl
        rw [e2] at this
        simp only [flat] at this
        rw [← hec, List.take_left] at this
        rw [← hec]; exact this
      obtain ⟨v, hv, rv⟩ := load_run (P := P) (w := w) (u := u) (b := g) (o := j * ee) hd h2 hcs (fun k v hk => by
        rw [h3.cell]
        rw [List.getElem?_take] at hk
        split at hk
        · rw [List.getElem?_drop, List.getElem?_take] at hk
          split at hk
          · simpa using hk
          · simp at hk
        · simp at hk) ok
      exact okv_pure m (by rw [hv]; rfl) rv
    · trivial
  · rename_i ee l j off h1
    rw [h1] at hx
    intro ⟨hd, hj, ok⟩
    obtain ⟨b, o, vs, h2, h3, h4, h5, h6⟩ := inv_pin hx
    have hel : l[j]? = some (l.getD j .any) := by simp [List.getD, hj]
    have hec : (cellsOf (l.getD j .any)).length = ee := h4 _ (List.mem_of_getElem? hel)
    have hcs : RL h (Lf ρ sto) true ((vs.drop (j * ee)).take ee) (cellsOf (l.getD j .any)) := by
      have := (h3.drop (j * ee)).take ee
      rw [flat_drop h4 j] at this
      have e2 : l.drop j = l.getD j .any :: l.drop (j + 1) := by
        rw [List.drop_eq_getElem?_toList_append, hel]; rfl
      rw [e2] at this
      simp only [flat] at this
      rw [← hec, List.take_left] at this
      rw [← hec]; exact this
    obtain ⟨v, hv, rv⟩ := load_run (P := P) (w := w) (u := u) (b := b) (o := o + j * ee) hd (by rw [h2, Nat.add_assoc]) hcs (fun k v hk => by
      rw [List.getElem?_take] at hk
      split at hk
      · rw [List.getElem?_drop] at hk
        rw [Nat.add_assoc]
        exact (m.mem b _ v (h5 _ v hk)).1
      · simp at hk) ok
    exact okv_pure m (by rw [hv]; rfl) (rv.thaw (fun _ _ _ x => x))
  · trivial
end
end Go.Av
/- The operations that make or write memory of one's own; all operations together. Own work of this seat. -/
set_option linter.unusedSimpArgs false
set_option linter.unusedVariables false
namespace Go.Av
open Go Go.RowKit

/-- 'vs' laid over 'l' from place k on -/
def splice {α : Type} (l : List α) (k : Nat) (vs : List α) : List α := l.take k ++ vs ++ l.drop (k + vs.length)

theorem splice_get {α : Type} {l vs : List α} {k : Nat} (hk : k + vs.length ≤ l.length) (i : Nat) :
    (splice l k vs)[i]? = if i < k then l[i]? else if i < k + vs.length then vs[i - k]? else l[i]? := by
  unfold splice
  rw [List.getElem?_append, List.getElem?_append]
  simp only [List.length_append, List.length_take, Nat.min_eq_left (by omega : k ≤ l.length)]
  by_cases h1 : i < k
  · rw [if_pos (by omega), if_pos h1, if_pos h1, List.getElem?_take, if_pos h1]
  · by_cases h2 : i < k + vs.length
    · rw [if_pos h2, if_neg h1, if_neg h1, if_pos h2]
    · rw [if_neg h2, if_neg h1, if_neg h2, List.getElem?_drop]
      congr 1; omega

theorem splice_length {α : Type} {l vs : List α} {k : Nat} (hk : k + vs.length ≤ l.length) : (splice l k vs).length = l.length := by
  simp [splice]; omega

theorem putCells_eq : ∀ (vs cs : List AV) (off : Nat), off + vs.length ≤ cs.length → putCells cs off vs = splice cs off vs
  | [], cs, off, _ => by simp [putCells, splice]
  | v :: r, cs, off, h => by
    simp only [List.length_cons] at h
    rw [putCells, putCells_eq r (cs.set off v) (off + 1) (by simp; omega)]
    apply List.ext_getElem?
    intro i
    rw [splice_get (by simp; omega), splice_get (by simp; omega)]
    simp only [List.getElem?_set, List.length_cons]
    by_cases h1 : i < off
    · have h2 : ¬ off = i := by omega
      have h3 : i < off + 1 := by omega
      simp [h1, h2, h3]
    · by_cases h2 : i = off
      · subst h2
        have : i < cs.length := by omega
        simp [this]
      · have h3 : ¬ i < off + 1 := by omega
        have h4 : ¬ off = i := by omega
        have h5 : i - off = (i - (off + 1)) + 1 := by omega
        simp only [h1, h3, h4, if_false]
        by_cases h6 : i < off + 1 + r.length
        · rw [if_pos h6, if_pos (by omega), h5]; simp
        · rw [if_neg h6, if_neg (by omega)]

section
variable {h : Mem} {ρ : Own} {sto : List Blk} {w : World} {P : Program}

theorem RL.splice {fl vs l vs' l'} (r : RL h (Lf ρ sto) fl vs l) (r' : RL h (Lf ρ sto) fl vs' l') (k : Nat) : RL h (Lf ρ sto) fl (splice vs k vs') (splice l k l') := by
  unfold Go.Av.splice
  rw [r'.length]
  exact ((r.take k).append r').append (r.drop _)

theorem flat_splice {l : List AV} {e j : Nat} (hl : ∀ x ∈ l, (cellsOf x).length = e) (hj : j < l.length) {x : AV} (hx : (cellsOf x).length = e) :
    flat (l.set j x) = splice (flat l) (j * e) (cellsOf x) := by
  have h1 : l.set j x = l.take j ++ x :: l.drop (j + 1) := by rw [List.set_eq_take_append_cons_drop, if_pos hj]
  rw [h1, flat_append, flat]
  unfold splice
  rw [flat_take hl j, hx, show j * e + e = (j + 1) * e by rw [Nat.succ_mul], flat_drop hl (j + 1), List.append_assoc]

theorem splice_splice {l : List AV} {e j off : Nat} {vs : List AV} (hl : ∀ x ∈ l, (cellsOf x).length = e) (hj : j < l.length) (hv : off + vs.length ≤ e) :
    splice (flat l) (j * e) (splice (cellsOf (l.getD j .any)) off vs) = splice (flat l) (j * e + off) vs := by
  have hel : l[j]? = some (l.getD j .any) := by simp [List.getD, hj]
  have hec : (cellsOf (l.getD j .any)).length = e := hl _ (List.mem_of_getElem? hel)
  have hfl := flat_length hl
  have hsl := splice_length (l := cellsOf (l.getD j .any)) (k := off) (vs := vs) (by omega)
  have hb : (j + 1) * e ≤ l.length * e := Nat.mul_le_mul_right _ hj
  rw [Nat.succ_mul] at hb
  apply List.ext_getElem?
  intro i
  rw [splice_get (l := flat l) (k := j * e) (by omega), splice_get (l := flat l) (k := j * e + off) (vs := vs) (by omega), hsl, hec]
  by_cases h1 : i < j * e
  · rw [if_pos h1, if_pos (by omega)]
  · rw [if_neg h1]
    by_cases h2 : i < j * e + e
    · rw [if_pos h2, splice_get (by omega)]
      have hg : (flat l)[i]? = (cellsOf (l.getD j .any))[i - j * e]? := by
        have := flat_get hl (j := i - j * e) hel (by omega)
        rw [show j * e + (i - j * e) = i by omega] at this
        exact this
      by_cases h3 : i - j * e < off
      · rw [if_pos h3, if_pos (by omega), hg]
      · rw [if_neg h3]
        by_cases h4 : i - j * e < off + vs.length
        · rw [if_pos h4, if_neg (by omega), if_pos (by omega)]; congr 1; omega
        · rw [if_neg h4, if_neg (by omega), if_neg (by omega), hg]
    · rw [if_neg h2, if_neg (by omega), if_neg (by omega)]

theorem cellsOf_one {a : AV} (h1 : one a = true) : cellsOf a = [a] := by cases a <;> first | rfl | cases h1

theorem reElem_cells {old : AV} {cs : List AV} (hl : cs.length = (cellsOf old).length) (h1 : (∀ c, old ≠ .agg c) → cs.getD 0 .any = .any ∨ one (cs.getD 0 .any) = true) : cellsOf (reElem old cs) = cs := by
  have key : (∀ l, old ≠ .agg l) → cellsOf (reElem old cs) = cs := by
    intro hn
    have h2 : cellsOf old = [old] := by cases old <;> first | rfl | exact (hn _ rfl).elim
    have h3 : reElem old cs = cs.getD 0 .any := by cases old <;> first | rfl | exact (hn _ rfl).elim
    rw [h2] at hl
    match cs, hl with
    | [c], _ =>
      rw [h3]
      show cellsOf c = [c]
      rcases h1 hn with h4 | h4
      · have : c = .any := h4
        subst this; rfl
      · exact cellsOf_one h4
  cases old with
  | agg l => rfl
  | _ => exact key (by intro l h; cases h)

/-- the cells of a value -/
theorem cells_ok {fl u a} (r : RV h (Lf ρ sto) fl u a) (h1 : (cellsOf a).all one = true) : RL h (Lf ρ sto) fl u.cells.toList (cellsOf a) := by
  by_cases ha : ∃ l, a = .agg l
  · obtain ⟨l, rfl⟩ := ha
    obtain ⟨vs, rfl, rl⟩ := inv_agg r
    simpa [Value.cells, cellsOf] using rl
  · have hc : cellsOf a = [a] := by cases a <;> first | rfl | exact (ha ⟨_, rfl⟩).elim
    rw [hc] at h1 ⊢
    simp at h1
    have ho := one_ok r h1
    have : u.cells = #[u] := by cases u <;> first | rfl | cases ho
    rw [this]
    exact .cons r .nil

theorem all_one {fl vs l} (r : RL h (Lf ρ sto) fl vs l) (h1 : l.all one = true) : ∀ v ∈ vs, v.oneCell' = true := by
  induction l generalizing vs with
  | nil => cases r; simp
  | cons a l ih =>
    cases r with
    | cons r1 r2 =>
      simp at h1
      intro v hv
      simp at hv
      rcases hv with rfl | hv
      · exact one_ok r1 h1.1
      · exact ih r2 (by simpa using h1.2) v hv

/-- a new variable of one's own -/
theorem xnew_ok (m : Mine h ρ sto w) {vs : List Value} {l : List AV} {elem : AV} {t : TypeId} (rl : RL h (Lf ρ sto) false vs l) (hc : cellsOf elem = l) {r : Result Next}
    (hr : r = .ok (.value (.pointer (some ⟨w.heap.size, 0, none⟩))) (w.alloc (.cells vs.toArray t))) : Res.Sound P h ρ sto w r (xnew sto l elem) := by
  intro ⟨hl, h1⟩
  have hlen := rl.length
  have hone := all_one rl h1
  have hm := m.push (.cells vs.toArray t) (.arr l.length [elem]) (some 1) (by
    refine .inr ⟨w.heap.size, 1, vs.toArray, t, by simp [upd], .of (heap_alloc_new w _), by simp [hlen], by simp, by simp [maxLen], hl, by simp [hc], by simpa using hone, ?_⟩
    simp only [List.toList_toArray, List.length_cons, List.length_nil, Nat.zero_add, Nat.one_mul, flat, hc, List.append_nil]
    rw [← hlen, List.take_length]
    exact rl.mono (fun _ _ _ x => x) (fun _ _ => Lf_push))
  refine ⟨_, _, _, _, .inl hr, hm.1, hm.2, .leaf ⟨rfl, ?_⟩⟩
  simp [LfC, upd]

theorem box_ok {t : TypeId} {x : Operand} {o : Oper} {e : Env} {a : Act} (ho : o.op = .box t x) (m : Mine h ρ sto w) (he : EnvOk h ρ sto e a) :
    Res.Sound P h ρ sto w ((execOp a.eval o).run P w) (xbox (isRow (P.underlying t)) sto (ev e x)) := by
  have hx := ev_ok he x
  have hrun : (execOp a.eval o).run P w = .ok (.value (.pointer (some ⟨w.heap.size, 0, none⟩))) (w.alloc (.cells (a.eval x).cells t)) := by
    simp [execOp, ho, Instr.box, newVar, newRow]
  rw [hrun]
  generalize a.eval x = u at *
  unfold xbox
  split
  · rename_i l h1 h2
    rw [h2] at hx
    obtain ⟨vs, rfl, rl⟩ := inv_agg hx
    exact xnew_ok (t := t) m rl rfl (by simp [Value.cells])
  · rename_i v h1 h2
    cases hv : one (ev e x) with
    | false => trivial
    | true =>
      have hc := cells_ok hx (by rw [cellsOf_one hv]; simp [hv])
      rw [cellsOf_one hv] at hc
      exact xnew_ok (t := t) m hc (cellsOf_one hv) (by simp)
  · trivial

theorem consts_ok {fl : Bool} : ∀ vs : List Value, RL h (Lf ρ sto) fl vs (vs.map ofConst)
  | [] => .nil
  | v :: vs => .cons (ofConst_ok v) (consts_ok vs)

theorem alloc_ok {t : TypeId} {o : Oper} {a : Act} (ho : o.op = .alloc t) (m : Mine h ρ sto w) :
    Res.Sound P h ρ sto w ((execOp a.eval o).run P w) (xalloc sto (isRow (P.underlying t)) (zav P t)) := by
  have key : ∀ {l : List AV} {elem : AV}, l = zav P t → cellsOf elem = l → Res.Sound P h ρ sto w ((execOp a.eval o).run P w) (xnew sto l elem) := by
    intro l elem hl hc hp
    subst hl
    unfold zav zcells at hp
    cases hi : P.info? t with
    | none => simp [hi] at hp
    | some i =>
      cases hz : i.zero with
      | none => simp [hi, hz] at hp
      | some z =>
        have hzc : zcells P t = z.cells.toList := by simp [zcells, hi, hz]
        refine xnew_ok (P := P) (t := t) m (vs := z.cells.toList) (l := zav P t) (elem := elem) ?_ hc ?_ (by unfold zav zcells; exact hp)
        · unfold zav; rw [hzc]; exact consts_ok _
        · simp [execOp, ho, Instr.alloc, zeroValue, typeInfo, hi, hz, newVar, newRow]
  unfold xalloc
  cases isRow (P.underlying t) with
  | true => exact key rfl rfl
  | false =>
    simp only [cond_false]
    split
    · rename_i v hv
      intro hp
      refine key hv.symm (cellsOf_one ?_) hp
      have := hp.2
      simpa using this
    · trivial

theorem store_ok {t : TypeId} {x v : Operand} {o : Oper} {e : Env} {a : Act} (ho : o.op = .store t x v) (m : Mine h ρ sto w) (he : EnvOk h ρ sto e a) :
    Res.Sound P h ρ sto w ((execOp a.eval o).run P w) (xstore (tsize P t) sto (ev e x) (ev e v)) := by
  have hx := ev_ok he x
  have hv := ev_ok he v
  have hrun : (execOp a.eval o).run P w = ((Instr.storeAt t (a.eval x) (a.eval v)).run P w).andThen fun _ w' => .ok .skip w' := by
    simp [execOp, ho]
  rw [hrun]
  generalize a.eval x = u at *
  generalize a.eval v = val at *
  unfold xstore
  split
  · rename_i id n j off h1
    rw [h1] at hx
    unfold xstoreB
    split
    · rename_i ee l hb
      intro ⟨hpos, hn, hj, hsz, hoff, hone⟩
      obtain ⟨g, tot, cur, tt, h1, h2, h3, h4, h5, h6, h7, h8, h9, h10, h11, h12⟩ := ptr_place m hb hx hn
      have hjl : j < l.length := by omega
      have hel : l[j]? = some (l.getD j .any) := by simp [List.getD, hjl]
      have hec : (cellsOf (l.getD j .any)).length = ee := h10 _ (List.mem_of_getElem? hel)
      have hcs := cells_ok hv hone
      have hcl := hcs.length
      have hones := all_one hcs hone
      have hb2 : (j + 1) * ee ≤ l.length * ee := Nat.mul_le_mul_right _ hjl
      have hb3 : l.length * ee ≤ tot * ee := Nat.mul_le_mul_right _ h5
      rw [Nat.succ_mul] at hb2
      have hfit : (j * ee + off) + 0 + val.cells.toList.length ≤ cur.size := by rw [hcl]; omega
      have hst := run_storeCells_row P g (j * ee + off) tt val.cells.toList 0 cur w h3 hfit hones
      simp only [Nat.add_zero] at hst
      have hsize : (sizeOf t).run P w = .ok (tsize P t) w := sizeOf_run' hpos w
      have hrun2 : (Instr.storeAt t u val).run P w = .ok () (w.setRow g (splice cur.toList (j * ee + off) val.cells.toList).toArray) := by
        rw [h2]
        have hs2 : val.cells.size = tsize P t := by rw [← hsz, ← hcl]; simp
        simp only [Instr.storeAt, Instr.sureAddr, Sem.run_bind, Sem.run_pure, Result.andThen_ok, storeVar, hsize, hs2]
        simp only [ne_eq, not_true_eq_false, if_false, Sem.run_pure, Result.andThen_ok]
        exact hst
      have hspl : (splice cur.toList (j * ee + off) val.cells.toList).length = cur.size := by rw [splice_length (by simpa using hfit)]; simp
      have hw := h3.set (cs := (splice cur.toList (j * ee + off) val.cells.toList).toArray) (by simp [hspl])
      have hpl : (cellsOf (ev e v)).length = val.cells.toList.length := hcl.symm
      have hpc := putCells_eq (cellsOf (ev e v)) (cellsOf (l.getD j .any)) off (by omega)
      have hre : cellsOf (reElem (l.getD j .any) (putCells (cellsOf (l.getD j .any)) off (cellsOf (ev e v)))) = putCells (cellsOf (l.getD j .any)) off (cellsOf (ev e v)) := by
        have hsl := splice_length (l := cellsOf (l.getD j .any)) (k := off) (vs := cellsOf (ev e v)) (by omega)
        refine reElem_cells (by rw [hpc, hsl]) ?_
        intro hc0
        have hnot : (cellsOf (l.getD j .any)).length = 1 ∨ ∃ c, l.getD j .any = .agg c := by
          cases l.getD j .any <;> first | exact .inl rfl | exact .inr ⟨_, rfl⟩
        rcases hnot with h1c | ⟨c', hc'⟩
        · right
          have ho0 : off = 0 := by omega
          subst ho0
          match hq : cellsOf (ev e v), (by omega : (cellsOf (ev e v)).length = 1) with
          | [y], _ =>
            rw [hq] at hone hpc
            rw [hpc]
            simpa [splice] using hone
        · exact (hc0 _ hc').elim
      replace hre := hre.trans hpc
      generalize reElem (l.getD j .any) (putCells (cellsOf (l.getD j .any)) off (cellsOf (ev e v))) = el at hre ⊢
      have hlen2 : (l.set j el).length = l.length := by simp
      have helc : (cellsOf el).length = ee := by rw [hre, splice_length (by omega)]; exact hec
      have hm := m.write (w' := w.setRow g (splice cur.toList (j * ee + off) val.cells.toList).toArray) h9 h1 (b' := .arr ee (l.set j el)) (.inl ⟨rfl, hlen2⟩) rfl rfl rfl (by simp) (fun k hk => setRow_other w g k _ hk) (by
        refine .inr ⟨g, tot, _, tt, h1, hw, by simp [hspl, h4], by simpa using h5, h6, h7, ?_, ?_, ?_⟩
        · intro y hy
          rcases List.mem_or_eq_of_mem_set hy with hy | rfl
          · exact h10 y hy
          · exact helc
        · intro y hy
          simp only [List.toList_toArray, splice, List.mem_append] at hy
          rcases hy with (hy | hy) | hy
          · exact h11 y (List.mem_of_mem_take hy)
          · exact hones y hy
          · exact h11 y (List.mem_of_mem_drop hy)
        · have hfl := flat_length h10
          have hcurl : cur.toList.length = tot * ee := by simp [h4]
          rw [flat_splice h10 hjl helc, hre, splice_splice h10 hjl (by omega), hlen2]
          have e1 : (splice cur.toList (j * ee + off) val.cells.toList).take (l.length * ee) = splice (cur.toList.take (l.length * ee)) (j * ee + off) val.cells.toList := by
            apply List.ext_getElem?
            intro i
            rw [List.getElem?_take, splice_get (by simpa using hfit), splice_get (by rw [List.length_take, hcurl, Nat.min_eq_left hb3]; omega)]
            simp only [List.getElem?_take]
            by_cases hi : i < l.length * ee
            · simp [hi]
            · have : ¬ i < j * ee + off := by omega
              have h2' : ¬ i < j * ee + off + val.cells.toList.length := by omega
              simp only [hi, this, h2', if_false]
          simp only [List.toList_toArray]
          rw [e1]
          exact ((h12.splice hcs _).mono (fun _ _ _ x => x) (fun v a lf => ⟨lf.1, LfC_set h9 (fun _ _ => rfl) (Or.inl ⟨rfl, hlen2, rfl⟩ : (_ ∧ _ ∧ _) ∨ _) lf.2⟩)))
      refine ⟨undef, _, _, _, .inr ⟨by rw [hrun2]; rfl, rfl⟩, hm.1, hm.2, .raw _⟩
    · trivial
  · trivial

end
end Go.Av
