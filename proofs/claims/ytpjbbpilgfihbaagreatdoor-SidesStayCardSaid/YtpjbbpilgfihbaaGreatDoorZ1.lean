/- The library contracts laid at this seat, in the plain words that a tool of the kit has written. -/
import Derived.Shelf.Small.Wraps
import Derived.Shelf.Strings.Prefix
import Derived.Shelf.Strings.LastIndexAll
import Derived.Shelf.Strings.Split
import Derived.Shelf.Strings.Cut
import Derived.Shelf.Strings.Search3
import Derived.Shelf.Small.Strs
import Derived.Shelf.Strings.Builder1
import Derived.Shelf.Strconv.Atoi
import Derived.Shelf.Strconv.Itoa3
import Derived.Shelf.Strings.Repeat
import Derived.Test.YtpjbbpilgfihbaaGreatDoorProg
import Derived.Shelf.Strings.IndexAnyAll
import Derived.Shelf.Strings.SlTrimAscii
import Derived.Shelf.Strconv.AtoiErr
import Derived.Test.YtpjbbpilgfihbaaGreatDoorK3
import Derived.Test.YtpjbbpilgfihbaaGreatDoorK4
import Derived.Lib.ItoaNum
import Derived.Lib.Builder
import Derived.Test.YtpjbbpilgfihbaaGreatDoorCards
import Derived.Test.YtpjbbpilgfihbaaGreatDoorTie
import Derived.Shelf.Vars
import Derived.LaidSub
import Derived.Lib.LaidTab
import Derived.Stop.LaidErr
namespace Go.Proofs
open Go.Shelf
def Tryz.lays99_ren : Go.Shelf.Ren := ⟨fun | 99 => 79 | 206 => 121 | n => n, fun | 9 => 9 | 4 => 4 | 3 => 3 | n => n, fun | n => n⟩
theorem Tryz.lays99 : Go.Proofs.Lays.n99 Tryz.prog Tryz.lays99_ren := {
  mixed := by kernel_rfl
  f99 := Tryz.func79.trans (congrArg some (by kernel_rfl))
  f206 := Tryz.func121.trans (congrArg some (by kernel_rfl))
  t3 := Tryz.underlying3
  a3 := Tryz.isAgg3
  z3 := Tryz.sizeOf3
  v3 := Tryz.zeroValue3
  t4 := Tryz.underlying4
  a4 := Tryz.isAgg4
  z4 := Tryz.sizeOf4
  v4 := Tryz.zeroValue4
  t9 := Tryz.underlying9
  a9 := Tryz.isAgg9
  z9 := Tryz.sizeOf9
  v9 := Tryz.zeroValue9 }
def Tryz.lays103_ren : Go.Shelf.Ren := ⟨fun | 103 => 64 | 210 => 97 | 206 => 121 | n => n, fun | 9 => 9 | 4 => 4 | 24 => 105 | 3 => 3 | n => n, fun | n => n⟩
theorem Tryz.lays103 : Go.Proofs.Lays.n103 Tryz.prog Tryz.lays103_ren := {
  mixed := by kernel_rfl
  f103 := Tryz.func64.trans (congrArg some (by kernel_rfl))
  f206 := Tryz.func121.trans (congrArg some (by kernel_rfl))
  f210 := Tryz.func97.trans (congrArg some (by kernel_rfl))
  t3 := Tryz.underlying3
  a3 := Tryz.isAgg3
  z3 := Tryz.sizeOf3
  v3 := Tryz.zeroValue3
  t4 := Tryz.underlying4
  a4 := Tryz.isAgg4
  z4 := Tryz.sizeOf4
  v4 := Tryz.zeroValue4
  t9 := Tryz.underlying9
  a9 := Tryz.isAgg9
  z9 := Tryz.sizeOf9
  v9 := Tryz.zeroValue9
  t24 := Tryz.underlying105
  a24 := Tryz.isAgg105
  z24 := Tryz.sizeOf105
  v24 := Tryz.zeroValue105 }
def Tryz.lays100_ren : Go.Shelf.Ren := ⟨fun | 100 => 56 | 207 => 87 | n => n, fun | 9 => 9 | 4 => 4 | 3 => 3 | n => n, fun | n => n⟩
theorem Tryz.lays100 : Go.Proofs.Lays.n100 Tryz.prog Tryz.lays100_ren := {
  mixed := by kernel_rfl
  f100 := Tryz.func56.trans (congrArg some (by kernel_rfl))
  f207 := Tryz.func87.trans (congrArg some (by kernel_rfl))
  t3 := Tryz.underlying3
  a3 := Tryz.isAgg3
  z3 := Tryz.sizeOf3
  v3 := Tryz.zeroValue3
  t4 := Tryz.underlying4
  a4 := Tryz.isAgg4
  z4 := Tryz.sizeOf4
  v4 := Tryz.zeroValue4
  t9 := Tryz.underlying9
  a9 := Tryz.isAgg9
  z9 := Tryz.sizeOf9
  v9 := Tryz.zeroValue9 }
def Tryz.lays148_ren : Go.Shelf.Ren := ⟨fun | 148 => 170 | 222 => 192 | 223 => 193 | 269 => 206 | n => n, fun | 9 => 9 | 3 => 3 | 4 => 4 | 5 => 5 | 146 => 199 | 51 => 198 | 46 => 177 | n => n, fun | n => n⟩
theorem Tryz.lays148 : Go.Proofs.Lays.n148 Tryz.prog Tryz.lays148_ren := {
  mixed := by kernel_rfl
  f148 := Tryz.func170.trans (congrArg some (by kernel_rfl))
  f222 := Tryz.func192.trans (congrArg some (by kernel_rfl))
  f223 := Tryz.func193.trans (congrArg some (by kernel_rfl))
  f269 := Tryz.func206.trans (congrArg some (by kernel_rfl))
  t3 := Tryz.underlying3
  a3 := Tryz.isAgg3
  z3 := Tryz.sizeOf3
  v3 := Tryz.zeroValue3
  t4 := Tryz.underlying4
  a4 := Tryz.isAgg4
  z4 := Tryz.sizeOf4
  v4 := Tryz.zeroValue4
  t5 := Tryz.underlying5
  a5 := Tryz.isAgg5
  z5 := Tryz.sizeOf5
  v5 := Tryz.zeroValue5
  t9 := Tryz.underlying9
  a9 := Tryz.isAgg9
  z9 := Tryz.sizeOf9
  v9 := Tryz.zeroValue9
  t46 := Tryz.underlying177
  a46 := Tryz.isAgg177
  z46 := Tryz.sizeOf177
  v46 := Tryz.zeroValue177
  t51 := Tryz.underlying198
  a51 := Tryz.isAgg198
  z51 := Tryz.sizeOf198
  v51 := Tryz.zeroValue198
  t146 := Tryz.underlying199
  a146 := Tryz.isAgg199
  z146 := Tryz.sizeOf199
  v146 := Tryz.zeroValue199 }
def Tryz.lays146_ren : Go.Shelf.Ren := ⟨fun | 146 => 62 | 221 => 94 | 268 => 135 | 138 => 136 | 143 => 137 | 195 => 166 | 197 => 149 | 218 => 167 | 219 => 168 | 260 => 172 | 217 => 153 | 225 => 188 | 224 => 189 | 267 => 190 | 266 => 176 | 314 => 205 | n => n, fun | 9 => 9 | 31 => 75 | 3 => 3 | 4 => 4 | 0 => 0 | 105 => 164 | 21 => 21 | 5 => 5 | 46 => 177 | 119 => 208 | 139 => 211 | 138 => 210 | 146 => 199 | 51 => 198 | n => n, fun | 1 => 0 | 3 => 3 | 4 => 4 | n => n⟩
theorem Tryz.lays146 : Go.Proofs.Lays.n146 Tryz.prog Tryz.lays146_ren := {
  mixed := by kernel_rfl
  f138 := Tryz.func136.trans (congrArg some (by kernel_rfl))
  f143 := Tryz.func137.trans (congrArg some (by kernel_rfl))
  f146 := Tryz.func62.trans (congrArg some (by kernel_rfl))
  f195 := Tryz.func166.trans (congrArg some (by kernel_rfl))
  f197 := Tryz.func149.trans (congrArg some (by kernel_rfl))
  f217 := Tryz.func153.trans (congrArg some (by kernel_rfl))
  f218 := Tryz.func167.trans (congrArg some (by kernel_rfl))
  f219 := Tryz.func168.trans (congrArg some (by kernel_rfl))
  f221 := Tryz.func94.trans (congrArg some (by kernel_rfl))
  f224 := Tryz.func189.trans (congrArg some (by kernel_rfl))
  f225 := Tryz.func188.trans (congrArg some (by kernel_rfl))
  f260 := Tryz.func172.trans (congrArg some (by kernel_rfl))
  f266 := Tryz.func176.trans (congrArg some (by kernel_rfl))
  f267 := Tryz.func190.trans (congrArg some (by kernel_rfl))
  f268 := Tryz.func135.trans (congrArg some (by kernel_rfl))
  f314 := Tryz.func205.trans (congrArg some (by kernel_rfl))
  t0 := Tryz.underlying0
  a0 := Tryz.isAgg0
  z0 := Tryz.sizeOf0
  v0 := Tryz.zeroValue0
  t3 := Tryz.underlying3
  a3 := Tryz.isAgg3
  z3 := Tryz.sizeOf3
  v3 := Tryz.zeroValue3
  t4 := Tryz.underlying4
  a4 := Tryz.isAgg4
  z4 := Tryz.sizeOf4
  v4 := Tryz.zeroValue4
  t5 := Tryz.underlying5
  a5 := Tryz.isAgg5
  z5 := Tryz.sizeOf5
  v5 := Tryz.zeroValue5
  t9 := Tryz.underlying9
  a9 := Tryz.isAgg9
  z9 := Tryz.sizeOf9
  v9 := Tryz.zeroValue9
  t21 := Tryz.underlying21
  a21 := Tryz.isAgg21
  z21 := Tryz.sizeOf21
  v21 := Tryz.zeroValue21
  t31 := Tryz.underlying75
  a31 := Tryz.isAgg75
  z31 := Tryz.sizeOf75
  v31 := Tryz.zeroValue75
  t46 := Tryz.underlying177
  a46 := Tryz.isAgg177
  z46 := Tryz.sizeOf177
  v46 := Tryz.zeroValue177
  t51 := Tryz.underlying198
  a51 := Tryz.isAgg198
  z51 := Tryz.sizeOf198
  v51 := Tryz.zeroValue198
  t105 := Tryz.underlying164
  a105 := Tryz.isAgg164
  z105 := Tryz.sizeOf164
  v105 := Tryz.zeroValue164
  t119 := Tryz.underlying208
  a119 := Tryz.isAgg208
  z119 := Tryz.sizeOf208
  t138 := Tryz.underlying210
  a138 := Tryz.isAgg210
  z138 := Tryz.sizeOf210
  v138 := Tryz.zeroValue210
  t139 := Tryz.underlying211
  a139 := Tryz.isAgg211
  z139 := Tryz.sizeOf211
  v139 := Tryz.zeroValue211
  t146 := Tryz.underlying199
  a146 := Tryz.isAgg199
  z146 := Tryz.sizeOf199
  v146 := Tryz.zeroValue199
  g1 := by kernel_rfl
  g3 := by kernel_rfl
  g4 := by kernel_rfl }
def Tryz.lays145_ren : Go.Shelf.Ren := ⟨fun | 145 => 169 | 220 => 191 | 219 => 168 | 217 => 153 | 225 => 188 | 224 => 189 | 267 => 190 | 266 => 176 | 314 => 205 | n => n, fun | 9 => 9 | 4 => 4 | 59 => 184 | 3 => 3 | 5 => 5 | 46 => 177 | 146 => 199 | 51 => 198 | n => n, fun | 1 => 0 | n => n⟩
theorem Tryz.lays145 : Go.Proofs.Lays.n145 Tryz.prog Tryz.lays145_ren := {
  mixed := by kernel_rfl
  f145 := Tryz.func169.trans (congrArg some (by kernel_rfl))
  f217 := Tryz.func153.trans (congrArg some (by kernel_rfl))
  f219 := Tryz.func168.trans (congrArg some (by kernel_rfl))
  f220 := Tryz.func191.trans (congrArg some (by kernel_rfl))
  f224 := Tryz.func189.trans (congrArg some (by kernel_rfl))
  f225 := Tryz.func188.trans (congrArg some (by kernel_rfl))
  f266 := Tryz.func176.trans (congrArg some (by kernel_rfl))
  f267 := Tryz.func190.trans (congrArg some (by kernel_rfl))
  f314 := Tryz.func205.trans (congrArg some (by kernel_rfl))
  t3 := Tryz.underlying3
  a3 := Tryz.isAgg3
  z3 := Tryz.sizeOf3
  v3 := Tryz.zeroValue3
  t4 := Tryz.underlying4
  a4 := Tryz.isAgg4
  z4 := Tryz.sizeOf4
  v4 := Tryz.zeroValue4
  t5 := Tryz.underlying5
  a5 := Tryz.isAgg5
  z5 := Tryz.sizeOf5
  v5 := Tryz.zeroValue5
  t9 := Tryz.underlying9
  a9 := Tryz.isAgg9
  z9 := Tryz.sizeOf9
  v9 := Tryz.zeroValue9
  t46 := Tryz.underlying177
  a46 := Tryz.isAgg177
  z46 := Tryz.sizeOf177
  v46 := Tryz.zeroValue177
  t51 := Tryz.underlying198
  a51 := Tryz.isAgg198
  z51 := Tryz.sizeOf198
  v51 := Tryz.zeroValue198
  t59 := Tryz.underlying184
  a59 := Tryz.isAgg184
  z59 := Tryz.sizeOf184
  v59 := Tryz.zeroValue184
  t146 := Tryz.underlying199
  a146 := Tryz.isAgg199
  z146 := Tryz.sizeOf199
  v146 := Tryz.zeroValue199
  g1 := by kernel_rfl }
def Tryz.lays144_ren : Go.Shelf.Ren := ⟨fun | 144 => 115 | 143 => 137 | 219 => 168 | 217 => 153 | 225 => 188 | 224 => 189 | 267 => 190 | 266 => 176 | 314 => 205 | n => n, fun | 9 => 9 | 4 => 4 | 3 => 3 | 5 => 5 | 46 => 177 | 146 => 199 | 51 => 198 | n => n, fun | 1 => 0 | n => n⟩
theorem Tryz.lays144 : Go.Proofs.Lays.n144 Tryz.prog Tryz.lays144_ren := {
  mixed := by kernel_rfl
  f143 := Tryz.func137.trans (congrArg some (by kernel_rfl))
  f144 := Tryz.func115.trans (congrArg some (by kernel_rfl))
  f217 := Tryz.func153.trans (congrArg some (by kernel_rfl))
  f219 := Tryz.func168.trans (congrArg some (by kernel_rfl))
  f224 := Tryz.func189.trans (congrArg some (by kernel_rfl))
  f225 := Tryz.func188.trans (congrArg some (by kernel_rfl))
  f266 := Tryz.func176.trans (congrArg some (by kernel_rfl))
  f267 := Tryz.func190.trans (congrArg some (by kernel_rfl))
  f314 := Tryz.func205.trans (congrArg some (by kernel_rfl))
  t3 := Tryz.underlying3
  a3 := Tryz.isAgg3
  z3 := Tryz.sizeOf3
  v3 := Tryz.zeroValue3
  t4 := Tryz.underlying4
  a4 := Tryz.isAgg4
  z4 := Tryz.sizeOf4
  v4 := Tryz.zeroValue4
  t5 := Tryz.underlying5
  a5 := Tryz.isAgg5
  z5 := Tryz.sizeOf5
  v5 := Tryz.zeroValue5
  t9 := Tryz.underlying9
  a9 := Tryz.isAgg9
  z9 := Tryz.sizeOf9
  v9 := Tryz.zeroValue9
  t46 := Tryz.underlying177
  a46 := Tryz.isAgg177
  z46 := Tryz.sizeOf177
  v46 := Tryz.zeroValue177
  t51 := Tryz.underlying198
  a51 := Tryz.isAgg198
  z51 := Tryz.sizeOf198
  v51 := Tryz.zeroValue198
  t146 := Tryz.underlying199
  a146 := Tryz.isAgg199
  z146 := Tryz.sizeOf199
  v146 := Tryz.zeroValue199
  g1 := by kernel_rfl }
def Tryz.lays137_ren : Go.Shelf.Ren := ⟨fun | 137 => 119 | 217 => 153 | 266 => 176 | n => n, fun | 9 => 9 | 5 => 5 | 3 => 3 | n => n, fun | n => n⟩
theorem Tryz.lays137 : Go.Proofs.Lays.n137 Tryz.prog Tryz.lays137_ren := {
  mixed := by kernel_rfl
  f137 := Tryz.func119.trans (congrArg some (by kernel_rfl))
  f217 := Tryz.func153.trans (congrArg some (by kernel_rfl))
  f266 := Tryz.func176.trans (congrArg some (by kernel_rfl))
  t3 := Tryz.underlying3
  a3 := Tryz.isAgg3
  z3 := Tryz.sizeOf3
  v3 := Tryz.zeroValue3
  t5 := Tryz.underlying5
  a5 := Tryz.isAgg5
  z5 := Tryz.sizeOf5
  v5 := Tryz.zeroValue5
  t9 := Tryz.underlying9
  a9 := Tryz.isAgg9
  z9 := Tryz.sizeOf9
  v9 := Tryz.zeroValue9 }
def Tryz.lays169_ren : Go.Shelf.Ren := ⟨fun | 169 => 82 | n => n, fun | 70 => 115 | 9 => 9 | 0 => 0 | 72 => 118 | 37 => 116 | 127 => 153 | 3 => 3 | 5 => 5 | n => n, fun | n => n⟩
theorem Tryz.lays169 : Go.Proofs.Lays.n169 Tryz.prog Tryz.lays169_ren := {
  mixed := by kernel_rfl
  f169 := Tryz.func82.trans (congrArg some (by kernel_rfl))
  t0 := Tryz.underlying0
  a0 := Tryz.isAgg0
  z0 := Tryz.sizeOf0
  v0 := Tryz.zeroValue0
  t3 := Tryz.underlying3
  a3 := Tryz.isAgg3
  z3 := Tryz.sizeOf3
  v3 := Tryz.zeroValue3
  t9 := Tryz.underlying9
  a9 := Tryz.isAgg9
  z9 := Tryz.sizeOf9
  v9 := Tryz.zeroValue9
  t37 := Tryz.underlying116
  a37 := Tryz.isAgg116
  z37 := Tryz.sizeOf116
  v37 := Tryz.zeroValue116
  t70 := Tryz.underlying115
  a70 := Tryz.isAgg115
  z70 := Tryz.sizeOf115
  v70 := Tryz.zeroValue115
  t72 := Tryz.underlying118
  a72 := Tryz.isAgg118
  z72 := Tryz.sizeOf118
  v72 := Tryz.zeroValue118
  t127 := Tryz.underlying153
  a127 := Tryz.isAgg153
  z127 := Tryz.sizeOf153
  v127 := Tryz.zeroValue153 }
def Tryz.lays106_ren : Go.Shelf.Ren := ⟨fun | 106 => 60 | 213 => 90 | 265 => 132 | n => n, fun | 9 => 9 | 3 => 3 | n => n, fun | n => n⟩
theorem Tryz.lays106 : Go.Proofs.Lays.n106 Tryz.prog Tryz.lays106_ren := {
  mixed := by kernel_rfl
  f106 := Tryz.func60.trans (congrArg some (by kernel_rfl))
  f213 := Tryz.func90.trans (congrArg some (by kernel_rfl))
  f265 := Tryz.func132.trans (congrArg some (by kernel_rfl))
  t3 := Tryz.underlying3
  a3 := Tryz.isAgg3
  z3 := Tryz.sizeOf3
  v3 := Tryz.zeroValue3
  t9 := Tryz.underlying9
  a9 := Tryz.isAgg9
  z9 := Tryz.sizeOf9
  v9 := Tryz.zeroValue9 }
def Tryz.lays172_ren : Go.Shelf.Ren := ⟨fun | 172 => 88 | 244 => 130 | 245 => 131 | 247 => 157 | 279 => 158 | 280 => 159 | 281 => 160 | 282 => 161 | 287 => 178 | 316 => 179 | 171 => 93 | 205 => 180 | 321 => 197 | 322 => 198 | 243 => 134 | 246 => 165 | 283 => 184 | 284 => 185 | 285 => 186 | 286 => 187 | 129 => 201 | 317 => 200 | 318 => 202 | 319 => 203 | 320 => 204 | 337 => 208 | 338 => 209 | n => n, fun | 9 => 9 | 3 => 3 | 75 => 120 | 76 => 121 | 4 => 4 | 5 => 5 | 167 => 171 | 37 => 116 | 0 => 0 | 85 => 172 | 2 => 2 | 168 => 174 | 53 => 191 | 175 => 192 | 46 => 177 | 210 => 196 | 127 => 153 | 145 => 217 | 143 => 215 | 21 => 21 | 171 => 203 | 173 => 206 | 212 => 220 | 51 => 198 | 20 => 20 | 213 => 221 | 232 => 225 | 233 => 226 | 80 => 26 | n => n, fun | 15 => 1 | 16 => 2 | 17 => 5 | 18 => 6 | 19 => 7 | n => n⟩
theorem Tryz.lays172 : Go.Proofs.Lays.n172 Tryz.prog Tryz.lays172_ren := {
  mixed := by kernel_rfl
  f129 := Tryz.func201.trans (congrArg some (by kernel_rfl))
  f171 := Tryz.func93.trans (congrArg some (by kernel_rfl))
  f172 := Tryz.func88.trans (congrArg some (by kernel_rfl))
  f205 := Tryz.func180.trans (congrArg some (by kernel_rfl))
  f243 := Tryz.func134.trans (congrArg some (by kernel_rfl))
  f244 := Tryz.func130.trans (congrArg some (by kernel_rfl))
  f245 := Tryz.func131.trans (congrArg some (by kernel_rfl))
  f246 := Tryz.func165.trans (congrArg some (by kernel_rfl))
  f247 := Tryz.func157.trans (congrArg some (by kernel_rfl))
  f279 := Tryz.func158.trans (congrArg some (by kernel_rfl))
  f280 := Tryz.func159.trans (congrArg some (by kernel_rfl))
  f281 := Tryz.func160.trans (congrArg some (by kernel_rfl))
  f282 := Tryz.func161.trans (congrArg some (by kernel_rfl))
  f283 := Tryz.func184.trans (congrArg some (by kernel_rfl))
  f284 := Tryz.func185.trans (congrArg some (by kernel_rfl))
  f285 := Tryz.func186.trans (congrArg some (by kernel_rfl))
  f286 := Tryz.func187.trans (congrArg some (by kernel_rfl))
  f287 := Tryz.func178.trans (congrArg some (by kernel_rfl))
  f316 := Tryz.func179.trans (congrArg some (by kernel_rfl))
  f317 := Tryz.func200.trans (congrArg some (by kernel_rfl))
  f318 := Tryz.func202.trans (congrArg some (by kernel_rfl))
  f319 := Tryz.func203.trans (congrArg some (by kernel_rfl))
  f320 := Tryz.func204.trans (congrArg some (by kernel_rfl))
  f321 := Tryz.func197.trans (congrArg some (by kernel_rfl))
  f322 := Tryz.func198.trans (congrArg some (by kernel_rfl))
  f337 := Tryz.func208.trans (congrArg some (by kernel_rfl))
  f338 := Tryz.func209.trans (congrArg some (by kernel_rfl))
  t0 := Tryz.underlying0
  a0 := Tryz.isAgg0
  z0 := Tryz.sizeOf0
  v0 := Tryz.zeroValue0
  t2 := Tryz.underlying2
  a2 := Tryz.isAgg2
  z2 := Tryz.sizeOf2
  v2 := Tryz.zeroValue2
  t3 := Tryz.underlying3
  a3 := Tryz.isAgg3
  z3 := Tryz.sizeOf3
  v3 := Tryz.zeroValue3
  t4 := Tryz.underlying4
  a4 := Tryz.isAgg4
  z4 := Tryz.sizeOf4
  v4 := Tryz.zeroValue4
  t5 := Tryz.underlying5
  a5 := Tryz.isAgg5
  z5 := Tryz.sizeOf5
  v5 := Tryz.zeroValue5
  t9 := Tryz.underlying9
  a9 := Tryz.isAgg9
  z9 := Tryz.sizeOf9
  v9 := Tryz.zeroValue9
  t20 := Tryz.underlying20
  a20 := Tryz.isAgg20
  z20 := Tryz.sizeOf20
  v20 := Tryz.zeroValue20
  t21 := Tryz.underlying21
  a21 := Tryz.isAgg21
  z21 := Tryz.sizeOf21
  v21 := Tryz.zeroValue21
  t37 := Tryz.underlying116
  a37 := Tryz.isAgg116
  z37 := Tryz.sizeOf116
  v37 := Tryz.zeroValue116
  t46 := Tryz.underlying177
  a46 := Tryz.isAgg177
  z46 := Tryz.sizeOf177
  v46 := Tryz.zeroValue177
  t51 := Tryz.underlying198
  a51 := Tryz.isAgg198
  z51 := Tryz.sizeOf198
  v51 := Tryz.zeroValue198
  t53 := Tryz.underlying191
  a53 := Tryz.isAgg191
  z53 := Tryz.sizeOf191
  v53 := Tryz.zeroValue191
  t75 := Tryz.underlying120
  a75 := Tryz.isAgg120
  z75 := Tryz.sizeOf120
  v75 := Tryz.zeroValue120
  t76 := Tryz.underlying121
  a76 := Tryz.isAgg121
  z76 := Tryz.sizeOf121
  v76 := Tryz.zeroValue121
  t85 := Tryz.underlying172
  a85 := Tryz.isAgg172
  z85 := Tryz.sizeOf172
  v85 := Tryz.zeroValue172
  t127 := Tryz.underlying153
  a127 := Tryz.isAgg153
  z127 := Tryz.sizeOf153
  v127 := Tryz.zeroValue153
  t143 := Tryz.underlying215
  a143 := Tryz.isAgg215
  z143 := Tryz.sizeOf215
  v143 := Tryz.zeroValue215
  t145 := Tryz.underlying217
  a145 := Tryz.isAgg217
  z145 := Tryz.sizeOf217
  v145 := Tryz.zeroValue217
  t167 := Tryz.underlying171
  a167 := Tryz.isAgg171
  z167 := Tryz.sizeOf171
  v167 := Tryz.zeroValue171
  t168 := Tryz.underlying174
  a168 := Tryz.isAgg174
  z168 := Tryz.sizeOf174
  v168 := Tryz.zeroValue174
  t171 := Tryz.underlying203
  a171 := Tryz.isAgg203
  z171 := Tryz.sizeOf203
  v171 := Tryz.zeroValue203
  t173 := Tryz.underlying206
  a173 := Tryz.isAgg206
  z173 := Tryz.sizeOf206
  v173 := Tryz.zeroValue206
  t175 := Tryz.underlying192
  a175 := Tryz.isAgg192
  z175 := Tryz.sizeOf192
  v175 := Tryz.zeroValue192
  t210 := Tryz.underlying196
  a210 := Tryz.isAgg196
  z210 := Tryz.sizeOf196
  v210 := Tryz.zeroValue196
  t212 := Tryz.underlying220
  a212 := Tryz.isAgg220
  z212 := Tryz.sizeOf220
  v212 := Tryz.zeroValue220
  t213 := Tryz.underlying221
  a213 := Tryz.isAgg221
  z213 := Tryz.sizeOf221
  t232 := Tryz.underlying225
  a232 := Tryz.isAgg225
  z232 := Tryz.sizeOf225
  v232 := Tryz.zeroValue225
  t233 := Tryz.underlying226
  a233 := Tryz.isAgg226
  z233 := Tryz.sizeOf226
  v233 := Tryz.zeroValue226
  g15 := by kernel_rfl
  g16 := by kernel_rfl
  g17 := by kernel_rfl
  g18 := by kernel_rfl
  g19 := by kernel_rfl }
def Tryz.lays171_ren : Go.Shelf.Ren := ⟨fun | 171 => 93 | 243 => 134 | 246 => 165 | 283 => 184 | 284 => 185 | 285 => 186 | 286 => 187 | 129 => 201 | 317 => 200 | 318 => 202 | 319 => 203 | 320 => 204 | 337 => 208 | 338 => 209 | n => n, fun | 3 => 3 | 9 => 9 | 2 => 2 | 4 => 4 | 171 => 203 | 0 => 0 | 53 => 191 | 37 => 116 | 5 => 5 | 173 => 206 | 212 => 220 | 51 => 198 | 20 => 20 | 213 => 221 | 46 => 177 | 232 => 225 | 233 => 226 | n => n, fun | 17 => 5 | 18 => 6 | 19 => 7 | n => n⟩
theorem Tryz.lays171 : Go.Proofs.Lays.n171 Tryz.prog Tryz.lays171_ren := {
  mixed := by kernel_rfl
  f129 := Tryz.func201.trans (congrArg some (by kernel_rfl))
  f171 := Tryz.func93.trans (congrArg some (by kernel_rfl))
  f243 := Tryz.func134.trans (congrArg some (by kernel_rfl))
  f246 := Tryz.func165.trans (congrArg some (by kernel_rfl))
  f283 := Tryz.func184.trans (congrArg some (by kernel_rfl))
  f284 := Tryz.func185.trans (congrArg some (by kernel_rfl))
  f285 := Tryz.func186.trans (congrArg some (by kernel_rfl))
  f286 := Tryz.func187.trans (congrArg some (by kernel_rfl))
  f317 := Tryz.func200.trans (congrArg some (by kernel_rfl))
  f318 := Tryz.func202.trans (congrArg some (by kernel_rfl))
  f319 := Tryz.func203.trans (congrArg some (by kernel_rfl))
  f320 := Tryz.func204.trans (congrArg some (by kernel_rfl))
  f337 := Tryz.func208.trans (congrArg some (by kernel_rfl))
  f338 := Tryz.func209.trans (congrArg some (by kernel_rfl))
  t0 := Tryz.underlying0
  a0 := Tryz.isAgg0
  z0 := Tryz.sizeOf0
  v0 := Tryz.zeroValue0
  t2 := Tryz.underlying2
  a2 := Tryz.isAgg2
  z2 := Tryz.sizeOf2
  v2 := Tryz.zeroValue2
  t3 := Tryz.underlying3
  a3 := Tryz.isAgg3
  z3 := Tryz.sizeOf3
  v3 := Tryz.zeroValue3
  t4 := Tryz.underlying4
  a4 := Tryz.isAgg4
  z4 := Tryz.sizeOf4
  v4 := Tryz.zeroValue4
  t5 := Tryz.underlying5
  a5 := Tryz.isAgg5
  z5 := Tryz.sizeOf5
  v5 := Tryz.zeroValue5
  t9 := Tryz.underlying9
  a9 := Tryz.isAgg9
  z9 := Tryz.sizeOf9
  v9 := Tryz.zeroValue9
  t20 := Tryz.underlying20
  a20 := Tryz.isAgg20
  z20 := Tryz.sizeOf20
  v20 := Tryz.zeroValue20
  t37 := Tryz.underlying116
  a37 := Tryz.isAgg116
  z37 := Tryz.sizeOf116
  v37 := Tryz.zeroValue116
  t46 := Tryz.underlying177
  a46 := Tryz.isAgg177
  z46 := Tryz.sizeOf177
  v46 := Tryz.zeroValue177
  t51 := Tryz.underlying198
  a51 := Tryz.isAgg198
  z51 := Tryz.sizeOf198
  v51 := Tryz.zeroValue198
  t53 := Tryz.underlying191
  a53 := Tryz.isAgg191
  z53 := Tryz.sizeOf191
  v53 := Tryz.zeroValue191
  t171 := Tryz.underlying203
  a171 := Tryz.isAgg203
  z171 := Tryz.sizeOf203
  v171 := Tryz.zeroValue203
  t173 := Tryz.underlying206
  a173 := Tryz.isAgg206
  z173 := Tryz.sizeOf206
  v173 := Tryz.zeroValue206
  t212 := Tryz.underlying220
  a212 := Tryz.isAgg220
  z212 := Tryz.sizeOf220
  v212 := Tryz.zeroValue220
  t213 := Tryz.underlying221
  a213 := Tryz.isAgg221
  z213 := Tryz.sizeOf221
  t232 := Tryz.underlying225
  a232 := Tryz.isAgg225
  z232 := Tryz.sizeOf225
  v232 := Tryz.zeroValue225
  t233 := Tryz.underlying226
  a233 := Tryz.isAgg226
  z233 := Tryz.sizeOf226
  v233 := Tryz.zeroValue226
  g17 := by kernel_rfl
  g18 := by kernel_rfl
  g19 := by kernel_rfl }
def Tryz.laysM171_ren : Go.Shelf.Ren := ⟨fun | 171 => 93 | 243 => 134 | 246 => 165 | 283 => 184 | 284 => 185 | 285 => 186 | 286 => 187 | 129 => 201 | 317 => 200 | 318 => 202 | 319 => 203 | 320 => 204 | 337 => 208 | 338 => 209 | n => n, fun | 3 => 3 | 9 => 9 | 2 => 2 | 4 => 4 | 171 => 203 | 0 => 0 | 53 => 191 | 37 => 116 | 5 => 5 | 173 => 206 | 212 => 220 | 51 => 198 | 20 => 20 | 213 => 221 | 46 => 177 | 232 => 225 | 233 => 226 | n => n, fun | 17 => 5 | 18 => 6 | 19 => 7 | n => n⟩
theorem Tryz.laysM171 : Go.Proofs.LaysM.n171 Tryz.prog Tryz.laysM171_ren := {
  mixed := by kernel_rfl
  f129 := Tryz.func201.trans (congrArg some (by kernel_rfl))
  f171 := Tryz.func93.trans (congrArg some (by kernel_rfl))
  f243 := Tryz.func134.trans (congrArg some (by kernel_rfl))
  f246 := Tryz.func165.trans (congrArg some (by kernel_rfl))
  f283 := Tryz.func184.trans (congrArg some (by kernel_rfl))
  f284 := Tryz.func185.trans (congrArg some (by kernel_rfl))
  f285 := Tryz.func186.trans (congrArg some (by kernel_rfl))
  f286 := Tryz.func187.trans (congrArg some (by kernel_rfl))
  f317 := Tryz.func200.trans (congrArg some (by kernel_rfl))
  f318 := Tryz.func202.trans (congrArg some (by kernel_rfl))
  f319 := Tryz.func203.trans (congrArg some (by kernel_rfl))
  f320 := Tryz.func204.trans (congrArg some (by kernel_rfl))
  f337 := Tryz.func208.trans (congrArg some (by kernel_rfl))
  f338 := Tryz.func209.trans (congrArg some (by kernel_rfl))
  t0 := Tryz.underlying0
  a0 := Tryz.isAgg0
  z0 := Tryz.sizeOf0
  v0 := Tryz.zeroValue0
  t2 := Tryz.underlying2
  a2 := Tryz.isAgg2
  z2 := Tryz.sizeOf2
  v2 := Tryz.zeroValue2
  t3 := Tryz.underlying3
  a3 := Tryz.isAgg3
  z3 := Tryz.sizeOf3
  v3 := Tryz.zeroValue3
  t4 := Tryz.underlying4
  a4 := Tryz.isAgg4
  z4 := Tryz.sizeOf4
  v4 := Tryz.zeroValue4
  t5 := Tryz.underlying5
  a5 := Tryz.isAgg5
  z5 := Tryz.sizeOf5
  v5 := Tryz.zeroValue5
  t9 := Tryz.underlying9
  a9 := Tryz.isAgg9
  z9 := Tryz.sizeOf9
  v9 := Tryz.zeroValue9
  t20 := Tryz.underlying20
  a20 := Tryz.isAgg20
  z20 := Tryz.sizeOf20
  v20 := Tryz.zeroValue20
  t37 := Tryz.underlying116
  a37 := Tryz.isAgg116
  z37 := Tryz.sizeOf116
  v37 := Tryz.zeroValue116
  t46 := Tryz.underlying177
  a46 := Tryz.isAgg177
  z46 := Tryz.sizeOf177
  v46 := Tryz.zeroValue177
  t51 := Tryz.underlying198
  a51 := Tryz.isAgg198
  z51 := Tryz.sizeOf198
  v51 := Tryz.zeroValue198
  t53 := Tryz.underlying191
  a53 := Tryz.isAgg191
  z53 := Tryz.sizeOf191
  v53 := Tryz.zeroValue191
  t171 := Tryz.underlying203
  a171 := Tryz.isAgg203
  z171 := Tryz.sizeOf203
  v171 := Tryz.zeroValue203
  t173 := Tryz.underlying206
  a173 := Tryz.isAgg206
  z173 := Tryz.sizeOf206
  v173 := Tryz.zeroValue206
  t212 := Tryz.underlying220
  a212 := Tryz.isAgg220
  z212 := Tryz.sizeOf220
  v212 := Tryz.zeroValue220
  t213 := Tryz.underlying221
  a213 := Tryz.isAgg221
  z213 := Tryz.sizeOf221
  t232 := Tryz.underlying225
  a232 := Tryz.isAgg225
  z232 := Tryz.sizeOf225
  v232 := Tryz.zeroValue225
  t233 := Tryz.underlying226
  a233 := Tryz.isAgg226
  z233 := Tryz.sizeOf226
  v233 := Tryz.zeroValue226
  g17 := by kernel_rfl
  g18 := by kernel_rfl
  g19 := by kernel_rfl
  i0 := by kernel_rfl
  i2 := by kernel_rfl
  i3 := by kernel_rfl
  i4 := by kernel_rfl
  i5 := by kernel_rfl
  i9 := by kernel_rfl
  i20 := by kernel_rfl
  i37 := by kernel_rfl
  i46 := by kernel_rfl
  i51 := by kernel_rfl
  i53 := by kernel_rfl
  i171 := by kernel_rfl
  i173 := by kernel_rfl
  i212 := by kernel_rfl
  i232 := by kernel_rfl
  i233 := by kernel_rfl
  m17 := by kernel_rfl
  m18 := by kernel_rfl
  m19 := by kernel_rfl }
def Tryz.lays105_ren : Go.Shelf.Ren := ⟨fun | 105 => 133 | 212 => 162 | 99 => 79 | 165 => 163 | 166 => 80 | 170 => 164 | 169 => 82 | 263 => 181 | 264 => 182 | 206 => 121 | 240 => 122 | 241 => 183 | 276 => 154 | 277 => 199 | n => n, fun | 9 => 9 | 3 => 3 | 4 => 4 | 20 => 20 | 0 => 0 | 46 => 177 | 109 => 178 | 5 => 5 | 72 => 118 | 76 => 121 | 51 => 198 | 146 => 199 | 53 => 191 | 148 => 201 | 70 => 115 | 37 => 116 | 75 => 120 | 127 => 153 | 164 => 167 | 80 => 26 | n => n, fun | n => n⟩
theorem Tryz.lays105 : Go.Proofs.Lays.n105 Tryz.prog Tryz.lays105_ren := {
  mixed := by kernel_rfl
  f99 := Tryz.func79.trans (congrArg some (by kernel_rfl))
  f105 := Tryz.func133.trans (congrArg some (by kernel_rfl))
  f165 := Tryz.func163.trans (congrArg some (by kernel_rfl))
  f166 := Tryz.func80.trans (congrArg some (by kernel_rfl))
  f169 := Tryz.func82.trans (congrArg some (by kernel_rfl))
  f170 := Tryz.func164.trans (congrArg some (by kernel_rfl))
  f206 := Tryz.func121.trans (congrArg some (by kernel_rfl))
  f212 := Tryz.func162.trans (congrArg some (by kernel_rfl))
  f240 := Tryz.func122.trans (congrArg some (by kernel_rfl))
  f241 := Tryz.func183.trans (congrArg some (by kernel_rfl))
  f263 := Tryz.func181.trans (congrArg some (by kernel_rfl))
  f264 := Tryz.func182.trans (congrArg some (by kernel_rfl))
  f276 := Tryz.func154.trans (congrArg some (by kernel_rfl))
  f277 := Tryz.func199.trans (congrArg some (by kernel_rfl))
  t0 := Tryz.underlying0
  a0 := Tryz.isAgg0
  z0 := Tryz.sizeOf0
  v0 := Tryz.zeroValue0
  t3 := Tryz.underlying3
  a3 := Tryz.isAgg3
  z3 := Tryz.sizeOf3
  v3 := Tryz.zeroValue3
  t4 := Tryz.underlying4
  a4 := Tryz.isAgg4
  z4 := Tryz.sizeOf4
  v4 := Tryz.zeroValue4
  t5 := Tryz.underlying5
  a5 := Tryz.isAgg5
  z5 := Tryz.sizeOf5
  v5 := Tryz.zeroValue5
  t9 := Tryz.underlying9
  a9 := Tryz.isAgg9
  z9 := Tryz.sizeOf9
  v9 := Tryz.zeroValue9
  t20 := Tryz.underlying20
  a20 := Tryz.isAgg20
  z20 := Tryz.sizeOf20
  v20 := Tryz.zeroValue20
  t37 := Tryz.underlying116
  a37 := Tryz.isAgg116
  z37 := Tryz.sizeOf116
  v37 := Tryz.zeroValue116
  t46 := Tryz.underlying177
  a46 := Tryz.isAgg177
  z46 := Tryz.sizeOf177
  v46 := Tryz.zeroValue177
  t51 := Tryz.underlying198
  a51 := Tryz.isAgg198
  z51 := Tryz.sizeOf198
  v51 := Tryz.zeroValue198
  t53 := Tryz.underlying191
  a53 := Tryz.isAgg191
  z53 := Tryz.sizeOf191
  v53 := Tryz.zeroValue191
  t70 := Tryz.underlying115
  a70 := Tryz.isAgg115
  z70 := Tryz.sizeOf115
  v70 := Tryz.zeroValue115
  t72 := Tryz.underlying118
  a72 := Tryz.isAgg118
  z72 := Tryz.sizeOf118
  v72 := Tryz.zeroValue118
  t75 := Tryz.underlying120
  a75 := Tryz.isAgg120
  z75 := Tryz.sizeOf120
  v75 := Tryz.zeroValue120
  t76 := Tryz.underlying121
  a76 := Tryz.isAgg121
  z76 := Tryz.sizeOf121
  v76 := Tryz.zeroValue121
  t109 := Tryz.underlying178
  a109 := Tryz.isAgg178
  z109 := Tryz.sizeOf178
  v109 := Tryz.zeroValue178
  t127 := Tryz.underlying153
  a127 := Tryz.isAgg153
  z127 := Tryz.sizeOf153
  v127 := Tryz.zeroValue153
  t146 := Tryz.underlying199
  a146 := Tryz.isAgg199
  z146 := Tryz.sizeOf199
  v146 := Tryz.zeroValue199
  t148 := Tryz.underlying201
  a148 := Tryz.isAgg201
  z148 := Tryz.sizeOf201
  v148 := Tryz.zeroValue201
  t164 := Tryz.underlying167
  a164 := Tryz.isAgg167
  z164 := Tryz.sizeOf167
  v164 := Tryz.zeroValue167 }
end Go.Proofs
/- The library contracts laid at this seat, in the plain words that a tool of the kit has written. -/
namespace Go.Proofs
open Go.Shelf
def Tryz.lays150_ren : Go.Shelf.Ren := ⟨fun | 150 => 152 | 153 => 175 | 152 => 173 | 226 => 195 | 227 => 110 | 228 => 148 | 137 => 119 | 119 => 194 | 224 => 189 | 225 => 188 | 217 => 153 | 266 => 176 | n => n, fun | 9 => 9 | 4 => 4 | 3 => 3 | 5 => 5 | 21 => 21 | 117 => 145 | 116 => 144 | 0 => 0 | 46 => 177 | 124 => 148 | n => n, fun | n => n⟩
theorem Tryz.lays150 : Go.Proofs.Lays.n150 Tryz.prog Tryz.lays150_ren := {
  mixed := by kernel_rfl
  f119 := Tryz.func194.trans (congrArg some (by kernel_rfl))
  f137 := Tryz.func119.trans (congrArg some (by kernel_rfl))
  f150 := Tryz.func152.trans (congrArg some (by kernel_rfl))
  f152 := Tryz.func173.trans (congrArg some (by kernel_rfl))
  f153 := Tryz.func175.trans (congrArg some (by kernel_rfl))
  f217 := Tryz.func153.trans (congrArg some (by kernel_rfl))
  f224 := Tryz.func189.trans (congrArg some (by kernel_rfl))
  f225 := Tryz.func188.trans (congrArg some (by kernel_rfl))
  f226 := Tryz.func195.trans (congrArg some (by kernel_rfl))
  f227 := Tryz.func110.trans (congrArg some (by kernel_rfl))
  f228 := Tryz.func148.trans (congrArg some (by kernel_rfl))
  f266 := Tryz.func176.trans (congrArg some (by kernel_rfl))
  t0 := Tryz.underlying0
  a0 := Tryz.isAgg0
  z0 := Tryz.sizeOf0
  v0 := Tryz.zeroValue0
  t3 := Tryz.underlying3
  a3 := Tryz.isAgg3
  z3 := Tryz.sizeOf3
  v3 := Tryz.zeroValue3
  t4 := Tryz.underlying4
  a4 := Tryz.isAgg4
  z4 := Tryz.sizeOf4
  v4 := Tryz.zeroValue4
  t5 := Tryz.underlying5
  a5 := Tryz.isAgg5
  z5 := Tryz.sizeOf5
  v5 := Tryz.zeroValue5
  t9 := Tryz.underlying9
  a9 := Tryz.isAgg9
  z9 := Tryz.sizeOf9
  v9 := Tryz.zeroValue9
  t21 := Tryz.underlying21
  a21 := Tryz.isAgg21
  z21 := Tryz.sizeOf21
  v21 := Tryz.zeroValue21
  t46 := Tryz.underlying177
  a46 := Tryz.isAgg177
  z46 := Tryz.sizeOf177
  v46 := Tryz.zeroValue177
  t116 := Tryz.underlying144
  a116 := Tryz.isAgg144
  z116 := Tryz.sizeOf144
  t117 := Tryz.underlying145
  a117 := Tryz.isAgg145
  z117 := Tryz.sizeOf145
  v117 := Tryz.zeroValue145
  t124 := Tryz.underlying148
  a124 := Tryz.isAgg148
  z124 := Tryz.sizeOf148
  v124 := Tryz.zeroValue148 }
def Tryz.lays160_ren : Go.Shelf.Ren := ⟨fun | 160 => 70 | 232 => 109 | 231 => 108 | 227 => 110 | 234 => 112 | 233 => 111 | 236 => 114 | 235 => 113 | 228 => 148 | 271 => 151 | 151 => 150 | 197 => 149 | 120 => 174 | 152 => 173 | 260 => 172 | 137 => 119 | 119 => 194 | 224 => 189 | 225 => 188 | 217 => 153 | 266 => 176 | n => n, fun | 9 => 9 | 4 => 4 | 3 => 3 | 5 => 5 | 117 => 145 | 116 => 144 | 0 => 0 | 124 => 148 | 21 => 21 | 105 => 164 | 46 => 177 | 119 => 208 | 139 => 211 | 138 => 210 | n => n, fun | 3 => 3 | 4 => 4 | n => n⟩
theorem Tryz.lays160 : Go.Proofs.Lays.n160 Tryz.prog Tryz.lays160_ren := {
  mixed := by kernel_rfl
  f119 := Tryz.func194.trans (congrArg some (by kernel_rfl))
  f120 := Tryz.func174.trans (congrArg some (by kernel_rfl))
  f137 := Tryz.func119.trans (congrArg some (by kernel_rfl))
  f151 := Tryz.func150.trans (congrArg some (by kernel_rfl))
  f152 := Tryz.func173.trans (congrArg some (by kernel_rfl))
  f160 := Tryz.func70.trans (congrArg some (by kernel_rfl))
  f197 := Tryz.func149.trans (congrArg some (by kernel_rfl))
  f217 := Tryz.func153.trans (congrArg some (by kernel_rfl))
  f224 := Tryz.func189.trans (congrArg some (by kernel_rfl))
  f225 := Tryz.func188.trans (congrArg some (by kernel_rfl))
  f227 := Tryz.func110.trans (congrArg some (by kernel_rfl))
  f228 := Tryz.func148.trans (congrArg some (by kernel_rfl))
  f231 := Tryz.func108.trans (congrArg some (by kernel_rfl))
  f232 := Tryz.func109.trans (congrArg some (by kernel_rfl))
  f233 := Tryz.func111.trans (congrArg some (by kernel_rfl))
  f234 := Tryz.func112.trans (congrArg some (by kernel_rfl))
  f235 := Tryz.func113.trans (congrArg some (by kernel_rfl))
  f236 := Tryz.func114.trans (congrArg some (by kernel_rfl))
  f260 := Tryz.func172.trans (congrArg some (by kernel_rfl))
  f266 := Tryz.func176.trans (congrArg some (by kernel_rfl))
  f271 := Tryz.func151.trans (congrArg some (by kernel_rfl))
  t0 := Tryz.underlying0
  a0 := Tryz.isAgg0
  z0 := Tryz.sizeOf0
  v0 := Tryz.zeroValue0
  t3 := Tryz.underlying3
  a3 := Tryz.isAgg3
  z3 := Tryz.sizeOf3
  v3 := Tryz.zeroValue3
  t4 := Tryz.underlying4
  a4 := Tryz.isAgg4
  z4 := Tryz.sizeOf4
  v4 := Tryz.zeroValue4
  t5 := Tryz.underlying5
  a5 := Tryz.isAgg5
  z5 := Tryz.sizeOf5
  v5 := Tryz.zeroValue5
  t9 := Tryz.underlying9
  a9 := Tryz.isAgg9
  z9 := Tryz.sizeOf9
  v9 := Tryz.zeroValue9
  t21 := Tryz.underlying21
  a21 := Tryz.isAgg21
  z21 := Tryz.sizeOf21
  v21 := Tryz.zeroValue21
  t46 := Tryz.underlying177
  a46 := Tryz.isAgg177
  z46 := Tryz.sizeOf177
  v46 := Tryz.zeroValue177
  t105 := Tryz.underlying164
  a105 := Tryz.isAgg164
  z105 := Tryz.sizeOf164
  v105 := Tryz.zeroValue164
  t116 := Tryz.underlying144
  a116 := Tryz.isAgg144
  z116 := Tryz.sizeOf144
  t117 := Tryz.underlying145
  a117 := Tryz.isAgg145
  z117 := Tryz.sizeOf145
  v117 := Tryz.zeroValue145
  t119 := Tryz.underlying208
  a119 := Tryz.isAgg208
  z119 := Tryz.sizeOf208
  t124 := Tryz.underlying148
  a124 := Tryz.isAgg148
  z124 := Tryz.sizeOf148
  v124 := Tryz.zeroValue148
  t138 := Tryz.underlying210
  a138 := Tryz.isAgg210
  z138 := Tryz.sizeOf210
  v138 := Tryz.zeroValue210
  t139 := Tryz.underlying211
  a139 := Tryz.isAgg211
  z139 := Tryz.sizeOf211
  v139 := Tryz.zeroValue211
  g3 := by kernel_rfl
  g4 := by kernel_rfl }
def Tryz.lays161_ren : Go.Shelf.Ren := ⟨fun | 161 => 143 | 231 => 108 | 227 => 110 | 233 => 111 | 235 => 113 | 228 => 148 | 197 => 149 | 151 => 150 | 260 => 172 | 152 => 173 | 137 => 119 | 119 => 194 | 224 => 189 | 225 => 188 | 217 => 153 | 266 => 176 | n => n, fun | 9 => 9 | 4 => 4 | 3 => 3 | 5 => 5 | 117 => 145 | 116 => 144 | 0 => 0 | 124 => 148 | 105 => 164 | 21 => 21 | 119 => 208 | 46 => 177 | 139 => 211 | 138 => 210 | n => n, fun | 3 => 3 | 4 => 4 | n => n⟩
theorem Tryz.lays161 : Go.Proofs.Lays.n161 Tryz.prog Tryz.lays161_ren := {
  mixed := by kernel_rfl
  f119 := Tryz.func194.trans (congrArg some (by kernel_rfl))
  f137 := Tryz.func119.trans (congrArg some (by kernel_rfl))
  f151 := Tryz.func150.trans (congrArg some (by kernel_rfl))
  f152 := Tryz.func173.trans (congrArg some (by kernel_rfl))
  f161 := Tryz.func143.trans (congrArg some (by kernel_rfl))
  f197 := Tryz.func149.trans (congrArg some (by kernel_rfl))
  f217 := Tryz.func153.trans (congrArg some (by kernel_rfl))
  f224 := Tryz.func189.trans (congrArg some (by kernel_rfl))
  f225 := Tryz.func188.trans (congrArg some (by kernel_rfl))
  f227 := Tryz.func110.trans (congrArg some (by kernel_rfl))
  f228 := Tryz.func148.trans (congrArg some (by kernel_rfl))
  f231 := Tryz.func108.trans (congrArg some (by kernel_rfl))
  f233 := Tryz.func111.trans (congrArg some (by kernel_rfl))
  f235 := Tryz.func113.trans (congrArg some (by kernel_rfl))
  f260 := Tryz.func172.trans (congrArg some (by kernel_rfl))
  f266 := Tryz.func176.trans (congrArg some (by kernel_rfl))
  t0 := Tryz.underlying0
  a0 := Tryz.isAgg0
  z0 := Tryz.sizeOf0
  v0 := Tryz.zeroValue0
  t3 := Tryz.underlying3
  a3 := Tryz.isAgg3
  z3 := Tryz.sizeOf3
  v3 := Tryz.zeroValue3
  t4 := Tryz.underlying4
  a4 := Tryz.isAgg4
  z4 := Tryz.sizeOf4
  v4 := Tryz.zeroValue4
  t5 := Tryz.underlying5
  a5 := Tryz.isAgg5
  z5 := Tryz.sizeOf5
  v5 := Tryz.zeroValue5
  t9 := Tryz.underlying9
  a9 := Tryz.isAgg9
  z9 := Tryz.sizeOf9
  v9 := Tryz.zeroValue9
  t21 := Tryz.underlying21
  a21 := Tryz.isAgg21
  z21 := Tryz.sizeOf21
  v21 := Tryz.zeroValue21
  t46 := Tryz.underlying177
  a46 := Tryz.isAgg177
  z46 := Tryz.sizeOf177
  v46 := Tryz.zeroValue177
  t105 := Tryz.underlying164
  a105 := Tryz.isAgg164
  z105 := Tryz.sizeOf164
  v105 := Tryz.zeroValue164
  t116 := Tryz.underlying144
  a116 := Tryz.isAgg144
  z116 := Tryz.sizeOf144
  t117 := Tryz.underlying145
  a117 := Tryz.isAgg145
  z117 := Tryz.sizeOf145
  v117 := Tryz.zeroValue145
  t119 := Tryz.underlying208
  a119 := Tryz.isAgg208
  z119 := Tryz.sizeOf208
  t124 := Tryz.underlying148
  a124 := Tryz.isAgg148
  z124 := Tryz.sizeOf148
  v124 := Tryz.zeroValue148
  t138 := Tryz.underlying210
  a138 := Tryz.isAgg210
  z138 := Tryz.sizeOf210
  v138 := Tryz.zeroValue210
  t139 := Tryz.underlying211
  a139 := Tryz.isAgg211
  z139 := Tryz.sizeOf211
  v139 := Tryz.zeroValue211
  g3 := by kernel_rfl
  g4 := by kernel_rfl }
def Tryz.laysC172_ren : Go.Shelf.Ren := ⟨fun | 172 => 88 | 244 => 130 | 245 => 131 | 247 => 157 | 279 => 158 | 280 => 159 | 281 => 160 | 282 => 161 | 287 => 178 | 316 => 179 | 171 => 93 | 205 => 180 | 321 => 197 | 322 => 198 | 243 => 134 | 246 => 165 | 283 => 184 | 284 => 185 | 285 => 186 | 286 => 187 | 129 => 201 | 317 => 200 | 318 => 202 | 319 => 203 | 320 => 204 | 337 => 208 | 338 => 209 | n => n, fun | 9 => 9 | 3 => 3 | 75 => 120 | 76 => 121 | 4 => 4 | 5 => 5 | 167 => 171 | 37 => 116 | 0 => 0 | 85 => 172 | 2 => 2 | 168 => 174 | 53 => 191 | 175 => 192 | 46 => 177 | 210 => 196 | 127 => 153 | 145 => 217 | 143 => 215 | 21 => 21 | 171 => 203 | 173 => 206 | 212 => 220 | 51 => 198 | 20 => 20 | 213 => 221 | 232 => 225 | 233 => 226 | 80 => 26 | n => n, fun | 15 => 1 | 16 => 2 | 17 => 5 | 18 => 6 | 19 => 7 | n => n⟩
theorem Tryz.laysC172 : Go.Proofs.LaysC.n172 Tryz.prog Tryz.laysC172_ren := {
  mixed := by kernel_rfl
  f129 := Tryz.func201.trans (congrArg some (by kernel_rfl))
  f171 := Tryz.func93.trans (congrArg some (by kernel_rfl))
  f172 := Tryz.func88.trans (congrArg some (by kernel_rfl))
  f205 := Tryz.func180.trans (congrArg some (by kernel_rfl))
  f243 := Tryz.func134.trans (congrArg some (by kernel_rfl))
  f244 := Tryz.func130.trans (congrArg some (by kernel_rfl))
  f245 := Tryz.func131.trans (congrArg some (by kernel_rfl))
  f246 := Tryz.func165.trans (congrArg some (by kernel_rfl))
  f247 := Tryz.func157.trans (congrArg some (by kernel_rfl))
  f279 := Tryz.func158.trans (congrArg some (by kernel_rfl))
  f280 := Tryz.func159.trans (congrArg some (by kernel_rfl))
  f281 := Tryz.func160.trans (congrArg some (by kernel_rfl))
  f282 := Tryz.func161.trans (congrArg some (by kernel_rfl))
  f283 := Tryz.func184.trans (congrArg some (by kernel_rfl))
  f284 := Tryz.func185.trans (congrArg some (by kernel_rfl))
  f285 := Tryz.func186.trans (congrArg some (by kernel_rfl))
  f286 := Tryz.func187.trans (congrArg some (by kernel_rfl))
  f287 := Tryz.func178.trans (congrArg some (by kernel_rfl))
  f316 := Tryz.func179.trans (congrArg some (by kernel_rfl))
  f317 := Tryz.func200.trans (congrArg some (by kernel_rfl))
  f318 := Tryz.func202.trans (congrArg some (by kernel_rfl))
  f319 := Tryz.func203.trans (congrArg some (by kernel_rfl))
  f320 := Tryz.func204.trans (congrArg some (by kernel_rfl))
  f321 := Tryz.func197.trans (congrArg some (by kernel_rfl))
  f322 := Tryz.func198.trans (congrArg some (by kernel_rfl))
  f337 := Tryz.func208.trans (congrArg some (by kernel_rfl))
  f338 := Tryz.func209.trans (congrArg some (by kernel_rfl))
  t0 := Tryz.underlying0
  a0 := Tryz.isAgg0
  z0 := Tryz.sizeOf0
  v0 := Tryz.zeroValue0
  t2 := Tryz.underlying2
  a2 := Tryz.isAgg2
  z2 := Tryz.sizeOf2
  v2 := Tryz.zeroValue2
  t3 := Tryz.underlying3
  a3 := Tryz.isAgg3
  z3 := Tryz.sizeOf3
  v3 := Tryz.zeroValue3
  t4 := Tryz.underlying4
  a4 := Tryz.isAgg4
  z4 := Tryz.sizeOf4
  v4 := Tryz.zeroValue4
  t5 := Tryz.underlying5
  a5 := Tryz.isAgg5
  z5 := Tryz.sizeOf5
  v5 := Tryz.zeroValue5
  t9 := Tryz.underlying9
  a9 := Tryz.isAgg9
  z9 := Tryz.sizeOf9
  v9 := Tryz.zeroValue9
  t20 := Tryz.underlying20
  a20 := Tryz.isAgg20
  z20 := Tryz.sizeOf20
  v20 := Tryz.zeroValue20
  t21 := Tryz.underlying21
  a21 := Tryz.isAgg21
  z21 := Tryz.sizeOf21
  v21 := Tryz.zeroValue21
  t37 := Tryz.underlying116
  a37 := Tryz.isAgg116
  z37 := Tryz.sizeOf116
  v37 := Tryz.zeroValue116
  t46 := Tryz.underlying177
  a46 := Tryz.isAgg177
  z46 := Tryz.sizeOf177
  v46 := Tryz.zeroValue177
  t51 := Tryz.underlying198
  a51 := Tryz.isAgg198
  z51 := Tryz.sizeOf198
  v51 := Tryz.zeroValue198
  t53 := Tryz.underlying191
  a53 := Tryz.isAgg191
  z53 := Tryz.sizeOf191
  v53 := Tryz.zeroValue191
  t75 := Tryz.underlying120
  a75 := Tryz.isAgg120
  z75 := Tryz.sizeOf120
  v75 := Tryz.zeroValue120
  t76 := Tryz.underlying121
  a76 := Tryz.isAgg121
  z76 := Tryz.sizeOf121
  v76 := Tryz.zeroValue121
  t85 := Tryz.underlying172
  a85 := Tryz.isAgg172
  z85 := Tryz.sizeOf172
  v85 := Tryz.zeroValue172
  t127 := Tryz.underlying153
  a127 := Tryz.isAgg153
  z127 := Tryz.sizeOf153
  v127 := Tryz.zeroValue153
  t143 := Tryz.underlying215
  a143 := Tryz.isAgg215
  z143 := Tryz.sizeOf215
  v143 := Tryz.zeroValue215
  t145 := Tryz.underlying217
  a145 := Tryz.isAgg217
  z145 := Tryz.sizeOf217
  v145 := Tryz.zeroValue217
  t167 := Tryz.underlying171
  a167 := Tryz.isAgg171
  z167 := Tryz.sizeOf171
  v167 := Tryz.zeroValue171
  t168 := Tryz.underlying174
  a168 := Tryz.isAgg174
  z168 := Tryz.sizeOf174
  v168 := Tryz.zeroValue174
  t171 := Tryz.underlying203
  a171 := Tryz.isAgg203
  z171 := Tryz.sizeOf203
  v171 := Tryz.zeroValue203
  t173 := Tryz.underlying206
  a173 := Tryz.isAgg206
  z173 := Tryz.sizeOf206
  v173 := Tryz.zeroValue206
  t175 := Tryz.underlying192
  a175 := Tryz.isAgg192
  z175 := Tryz.sizeOf192
  v175 := Tryz.zeroValue192
  t210 := Tryz.underlying196
  a210 := Tryz.isAgg196
  z210 := Tryz.sizeOf196
  v210 := Tryz.zeroValue196
  t212 := Tryz.underlying220
  a212 := Tryz.isAgg220
  z212 := Tryz.sizeOf220
  v212 := Tryz.zeroValue220
  t213 := Tryz.underlying221
  a213 := Tryz.isAgg221
  z213 := Tryz.sizeOf221
  t232 := Tryz.underlying225
  a232 := Tryz.isAgg225
  z232 := Tryz.sizeOf225
  v232 := Tryz.zeroValue225
  t233 := Tryz.underlying226
  a233 := Tryz.isAgg226
  z233 := Tryz.sizeOf226
  v233 := Tryz.zeroValue226
  g15 := by kernel_rfl
  g16 := by kernel_rfl
  g17 := by kernel_rfl
  g18 := by kernel_rfl
  g19 := by kernel_rfl
  t80 := Tryz.underlying26
  a80 := Tryz.isAgg26
  z80 := Tryz.sizeOf26
  v80 := Tryz.zeroValue26
  i0 := by kernel_rfl
  i2 := by kernel_rfl
  i3 := by kernel_rfl
  i4 := by kernel_rfl
  i5 := by kernel_rfl
  i9 := by kernel_rfl
  i20 := by kernel_rfl
  i21 := by kernel_rfl
  i37 := by kernel_rfl
  i46 := by kernel_rfl
  i51 := by kernel_rfl
  i53 := by kernel_rfl
  i75 := by kernel_rfl
  i76 := by kernel_rfl
  i80 := by kernel_rfl
  i85 := by kernel_rfl
  i127 := by kernel_rfl
  i143 := by kernel_rfl
  i145 := by kernel_rfl
  i167 := by kernel_rfl
  i168 := by kernel_rfl
  i171 := by kernel_rfl
  i173 := by kernel_rfl
  i175 := by kernel_rfl
  i210 := by kernel_rfl
  i212 := by kernel_rfl
  i232 := by kernel_rfl
  i233 := by kernel_rfl
  m15 := by kernel_rfl
  m16 := by kernel_rfl
  m17 := by kernel_rfl
  m18 := by kernel_rfl
  m19 := by kernel_rfl
  c0 := by kernel_rfl
  c2 := by kernel_rfl
  c3 := by kernel_rfl
  c4 := by kernel_rfl
  c5 := by kernel_rfl
  c9 := by kernel_rfl
  c20 := by kernel_rfl
  c21 := by kernel_rfl
  c37 := by kernel_rfl
  c46 := by kernel_rfl
  c51 := by kernel_rfl
  c53 := by kernel_rfl
  c75 := by kernel_rfl
  c76 := by kernel_rfl
  c80 := by kernel_rfl
  c85 := by kernel_rfl
  c127 := by kernel_rfl
  c143 := by kernel_rfl
  c145 := by kernel_rfl
  c167 := by kernel_rfl
  c168 := by kernel_rfl
  c171 := by kernel_rfl
  c173 := by kernel_rfl
  c175 := by kernel_rfl
  c210 := by kernel_rfl
  c212 := by kernel_rfl
  c213 := by kernel_rfl
  c232 := by kernel_rfl
  c233 := by kernel_rfl }
end Go.Proofs
/- Closed facts of this seat's program, written by a program of this seat: which functions have a body; cells, bytes and zero values of types. -/
set_option maxRecDepth 100000
set_option linter.unusedVariables false
namespace Go.Proofs.YtpjbbpilgfihbaaGreatDoor
open Go Go.Av Go.RowKit
theorem mixed : Tryz.prog.follows .mixedOrders = true := by kernel_rfl
theorem hB2 : hasBody Tryz.prog 2 = true := by kernel_rfl
theorem hB3 : hasBody Tryz.prog 3 = true := by kernel_rfl
theorem hB4 : hasBody Tryz.prog 4 = true := by kernel_rfl
theorem hB5 : hasBody Tryz.prog 5 = true := by kernel_rfl
theorem hB6 : hasBody Tryz.prog 6 = true := by kernel_rfl
theorem hB7 : hasBody Tryz.prog 7 = true := by kernel_rfl
theorem hB8 : hasBody Tryz.prog 8 = true := by kernel_rfl
theorem hB9 : hasBody Tryz.prog 9 = true := by kernel_rfl
theorem hB10 : hasBody Tryz.prog 10 = true := by kernel_rfl
theorem hB11 : hasBody Tryz.prog 11 = true := by kernel_rfl
theorem hB12 : hasBody Tryz.prog 12 = true := by kernel_rfl
theorem hB13 : hasBody Tryz.prog 13 = true := by kernel_rfl
theorem hB14 : hasBody Tryz.prog 14 = true := by kernel_rfl
theorem hB15 : hasBody Tryz.prog 15 = true := by kernel_rfl
theorem hB16 : hasBody Tryz.prog 16 = true := by kernel_rfl
theorem hB17 : hasBody Tryz.prog 17 = true := by kernel_rfl
theorem hB18 : hasBody Tryz.prog 18 = true := by kernel_rfl
theorem hB19 : hasBody Tryz.prog 19 = true := by kernel_rfl
theorem hB20 : hasBody Tryz.prog 20 = true := by kernel_rfl
theorem hB21 : hasBody Tryz.prog 21 = true := by kernel_rfl
theorem hB22 : hasBody Tryz.prog 22 = true := by kernel_rfl
theorem hB23 : hasBody Tryz.prog 23 = true := by kernel_rfl
theorem hB24 : hasBody Tryz.prog 24 = true := by kernel_rfl
theorem hB25 : hasBody Tryz.prog 25 = true := by kernel_rfl
theorem hB26 : hasBody Tryz.prog 26 = true := by kernel_rfl
theorem hB27 : hasBody Tryz.prog 27 = true := by kernel_rfl
theorem hB28 : hasBody Tryz.prog 28 = true := by kernel_rfl
theorem hB29 : hasBody Tryz.prog 29 = true := by kernel_rfl
theorem hB30 : hasBody Tryz.prog 30 = true := by kernel_rfl
theorem hB31 : hasBody Tryz.prog 31 = true := by kernel_rfl
theorem hB32 : hasBody Tryz.prog 32 = true := by kernel_rfl
theorem hB33 : hasBody Tryz.prog 33 = true := by kernel_rfl
theorem hB34 : hasBody Tryz.prog 34 = true := by kernel_rfl
theorem hB35 : hasBody Tryz.prog 35 = true := by kernel_rfl
theorem hB36 : hasBody Tryz.prog 36 = true := by kernel_rfl
theorem hB37 : hasBody Tryz.prog 37 = true := by kernel_rfl
theorem hB38 : hasBody Tryz.prog 38 = true := by kernel_rfl
theorem hB39 : hasBody Tryz.prog 39 = true := by kernel_rfl
theorem hB40 : hasBody Tryz.prog 40 = true := by kernel_rfl
theorem hB41 : hasBody Tryz.prog 41 = true := by kernel_rfl
theorem hB42 : hasBody Tryz.prog 42 = true := by kernel_rfl
theorem hB43 : hasBody Tryz.prog 43 = true := by kernel_rfl
theorem hB44 : hasBody Tryz.prog 44 = true := by kernel_rfl
theorem hB45 : hasBody Tryz.prog 45 = true := by kernel_rfl
theorem hB46 : hasBody Tryz.prog 46 = true := by kernel_rfl
theorem hB47 : hasBody Tryz.prog 47 = true := by kernel_rfl
theorem hB48 : hasBody Tryz.prog 48 = true := by kernel_rfl
theorem hB49 : hasBody Tryz.prog 49 = true := by kernel_rfl
theorem hB50 : hasBody Tryz.prog 50 = true := by kernel_rfl
theorem hB51 : hasBody Tryz.prog 51 = true := by kernel_rfl
theorem hB52 : hasBody Tryz.prog 52 = true := by kernel_rfl
theorem hB53 : hasBody Tryz.prog 53 = true := by kernel_rfl
theorem hB54 : hasBody Tryz.prog 54 = true := by kernel_rfl
theorem hB55 : hasBody Tryz.prog 55 = true := by kernel_rfl
theorem hB56 : hasBody Tryz.prog 56 = true := by kernel_rfl
theorem hB57 : hasBody Tryz.prog 57 = true := by kernel_rfl
theorem hB58 : hasBody Tryz.prog 58 = true := by kernel_rfl
theorem hB59 : hasBody Tryz.prog 59 = true := by kernel_rfl
theorem hB60 : hasBody Tryz.prog 60 = true := by kernel_rfl
theorem hB61 : hasBody Tryz.prog 61 = true := by kernel_rfl
theorem hB62 : hasBody Tryz.prog 62 = true := by kernel_rfl
theorem hB63 : hasBody Tryz.prog 63 = true := by kernel_rfl
theorem hB64 : hasBody Tryz.prog 64 = true := by kernel_rfl
theorem hB65 : hasBody Tryz.prog 65 = true := by kernel_rfl
theorem hB66 : hasBody Tryz.prog 66 = true := by kernel_rfl
theorem hB67 : hasBody Tryz.prog 67 = true := by kernel_rfl
theorem hB68 : hasBody Tryz.prog 68 = true := by kernel_rfl
theorem hB69 : hasBody Tryz.prog 69 = true := by kernel_rfl
theorem hB70 : hasBody Tryz.prog 70 = true := by kernel_rfl
theorem hB71 : hasBody Tryz.prog 71 = true := by kernel_rfl
theorem hB72 : hasBody Tryz.prog 72 = true := by kernel_rfl
theorem hB73 : hasBody Tryz.prog 73 = true := by kernel_rfl
theorem hB74 : hasBody Tryz.prog 74 = true := by kernel_rfl
theorem hB75 : hasBody Tryz.prog 75 = true := by kernel_rfl
theorem hB76 : hasBody Tryz.prog 76 = true := by kernel_rfl
theorem hB77 : hasBody Tryz.prog 77 = true := by kernel_rfl
theorem hB78 : hasBody Tryz.prog 78 = true := by kernel_rfl
theorem hB79 : hasBody Tryz.prog 79 = true := by kernel_rfl
theorem hB80 : hasBody Tryz.prog 80 = true := by kernel_rfl
theorem hB81 : hasBody Tryz.prog 81 = true := by kernel_rfl
theorem hB82 : hasBody Tryz.prog 82 = true := by kernel_rfl
theorem hB83 : hasBody Tryz.prog 83 = true := by kernel_rfl
theorem hB84 : hasBody Tryz.prog 84 = true := by kernel_rfl
theorem hB85 : hasBody Tryz.prog 85 = true := by kernel_rfl
theorem hB86 : hasBody Tryz.prog 86 = true := by kernel_rfl
theorem hB87 : hasBody Tryz.prog 87 = true := by kernel_rfl
theorem hB88 : hasBody Tryz.prog 88 = true := by kernel_rfl
theorem hB89 : hasBody Tryz.prog 89 = true := by kernel_rfl
theorem hB90 : hasBody Tryz.prog 90 = true := by kernel_rfl
theorem hB91 : hasBody Tryz.prog 91 = true := by kernel_rfl
theorem hB92 : hasBody Tryz.prog 92 = true := by kernel_rfl
theorem hB93 : hasBody Tryz.prog 93 = true := by kernel_rfl
theorem hB94 : hasBody Tryz.prog 94 = true := by kernel_rfl
theorem hB95 : hasBody Tryz.prog 95 = true := by kernel_rfl
theorem hB96 : hasBody Tryz.prog 96 = true := by kernel_rfl
theorem hB97 : hasBody Tryz.prog 97 = true := by kernel_rfl
theorem hB98 : hasBody Tryz.prog 98 = true := by kernel_rfl
theorem hB99 : hasBody Tryz.prog 99 = true := by kernel_rfl
theorem hB100 : hasBody Tryz.prog 100 = true := by kernel_rfl
theorem hB101 : hasBody Tryz.prog 101 = true := by kernel_rfl
theorem hB102 : hasBody Tryz.prog 102 = true := by kernel_rfl
theorem hB103 : hasBody Tryz.prog 103 = true := by kernel_rfl
theorem hB104 : hasBody Tryz.prog 104 = true := by kernel_rfl
theorem hB105 : hasBody Tryz.prog 105 = true := by kernel_rfl
theorem hB106 : hasBody Tryz.prog 106 = true := by kernel_rfl
theorem hB107 : hasBody Tryz.prog 107 = true := by kernel_rfl
theorem hB108 : hasBody Tryz.prog 108 = true := by kernel_rfl
theorem hB109 : hasBody Tryz.prog 109 = true := by kernel_rfl
theorem hB110 : hasBody Tryz.prog 110 = true := by kernel_rfl
theorem hB111 : hasBody Tryz.prog 111 = true := by kernel_rfl
theorem hB112 : hasBody Tryz.prog 112 = true := by kernel_rfl
theorem hB113 : hasBody Tryz.prog 113 = true := by kernel_rfl
theorem hB114 : hasBody Tryz.prog 114 = true := by kernel_rfl
theorem hB115 : hasBody Tryz.prog 115 = true := by kernel_rfl
theorem hB116 : hasBody Tryz.prog 116 = true := by kernel_rfl
theorem hB117 : hasBody Tryz.prog 117 = true := by kernel_rfl
theorem hB118 : hasBody Tryz.prog 118 = true := by kernel_rfl
theorem hB119 : hasBody Tryz.prog 119 = true := by kernel_rfl
theorem hB120 : hasBody Tryz.prog 120 = true := by kernel_rfl
theorem hB121 : hasBody Tryz.prog 121 = true := by kernel_rfl
theorem hB122 : hasBody Tryz.prog 122 = true := by kernel_rfl
theorem hB123 : hasBody Tryz.prog 123 = true := by kernel_rfl
theorem hB124 : hasBody Tryz.prog 124 = true := by kernel_rfl
theorem hB125 : hasBody Tryz.prog 125 = true := by kernel_rfl
theorem hB126 : hasBody Tryz.prog 126 = true := by kernel_rfl
theorem hB127 : hasBody Tryz.prog 127 = true := by kernel_rfl
theorem hB128 : hasBody Tryz.prog 128 = true := by kernel_rfl
theorem hB129 : hasBody Tryz.prog 129 = true := by kernel_rfl
theorem hB130 : hasBody Tryz.prog 130 = true := by kernel_rfl
theorem hB131 : hasBody Tryz.prog 131 = true := by kernel_rfl
theorem hB133 : hasBody Tryz.prog 133 = true := by kernel_rfl
theorem hB134 : hasBody Tryz.prog 134 = true := by kernel_rfl
theorem hB135 : hasBody Tryz.prog 135 = true := by kernel_rfl
theorem hB136 : hasBody Tryz.prog 136 = true := by kernel_rfl
theorem hB137 : hasBody Tryz.prog 137 = true := by kernel_rfl
theorem hB138 : hasBody Tryz.prog 138 = true := by kernel_rfl
theorem hB139 : hasBody Tryz.prog 139 = true := by kernel_rfl
theorem hB140 : hasBody Tryz.prog 140 = true := by kernel_rfl
theorem hB141 : hasBody Tryz.prog 141 = true := by kernel_rfl
theorem hB142 : hasBody Tryz.prog 142 = true := by kernel_rfl
theorem hB143 : hasBody Tryz.prog 143 = true := by kernel_rfl
theorem hB144 : hasBody Tryz.prog 144 = true := by kernel_rfl
theorem hB145 : hasBody Tryz.prog 145 = true := by kernel_rfl
theorem hB146 : hasBody Tryz.prog 146 = true := by kernel_rfl
theorem hB147 : hasBody Tryz.prog 147 = true := by kernel_rfl
theorem hB148 : hasBody Tryz.prog 148 = true := by kernel_rfl
theorem hB149 : hasBody Tryz.prog 149 = true := by kernel_rfl
theorem hB150 : hasBody Tryz.prog 150 = true := by kernel_rfl
theorem hB151 : hasBody Tryz.prog 151 = true := by kernel_rfl
theorem hB152 : hasBody Tryz.prog 152 = true := by kernel_rfl
theorem hB153 : hasBody Tryz.prog 153 = true := by kernel_rfl
theorem hB155 : hasBody Tryz.prog 155 = true := by kernel_rfl
theorem hB156 : hasBody Tryz.prog 156 = true := by kernel_rfl
theorem hB157 : hasBody Tryz.prog 157 = true := by kernel_rfl
theorem hB158 : hasBody Tryz.prog 158 = true := by kernel_rfl
theorem hB159 : hasBody Tryz.prog 159 = true := by kernel_rfl
theorem hB160 : hasBody Tryz.prog 160 = true := by kernel_rfl
theorem hB161 : hasBody Tryz.prog 161 = true := by kernel_rfl
theorem hB162 : hasBody Tryz.prog 162 = true := by kernel_rfl
theorem hB163 : hasBody Tryz.prog 163 = true := by kernel_rfl
theorem hB164 : hasBody Tryz.prog 164 = true := by kernel_rfl
theorem hB165 : hasBody Tryz.prog 165 = true := by kernel_rfl
theorem hB166 : hasBody Tryz.prog 166 = true := by kernel_rfl
theorem hB168 : hasBody Tryz.prog 168 = true := by kernel_rfl
theorem hB169 : hasBody Tryz.prog 169 = true := by kernel_rfl
theorem hB170 : hasBody Tryz.prog 170 = true := by kernel_rfl
theorem hB171 : hasBody Tryz.prog 171 = true := by kernel_rfl
theorem hB172 : hasBody Tryz.prog 172 = true := by kernel_rfl
theorem hB173 : hasBody Tryz.prog 173 = true := by kernel_rfl
theorem hB174 : hasBody Tryz.prog 174 = true := by kernel_rfl
theorem hB175 : hasBody Tryz.prog 175 = true := by kernel_rfl
theorem hB177 : hasBody Tryz.prog 177 = true := by kernel_rfl
theorem hB178 : hasBody Tryz.prog 178 = true := by kernel_rfl
theorem hB179 : hasBody Tryz.prog 179 = true := by kernel_rfl
theorem hB180 : hasBody Tryz.prog 180 = true := by kernel_rfl
theorem hB181 : hasBody Tryz.prog 181 = true := by kernel_rfl
theorem hB182 : hasBody Tryz.prog 182 = true := by kernel_rfl
theorem hB183 : hasBody Tryz.prog 183 = true := by kernel_rfl
theorem hB184 : hasBody Tryz.prog 184 = true := by kernel_rfl
theorem hB185 : hasBody Tryz.prog 185 = true := by kernel_rfl
theorem hB186 : hasBody Tryz.prog 186 = true := by kernel_rfl
theorem hB187 : hasBody Tryz.prog 187 = true := by kernel_rfl
theorem hB189 : hasBody Tryz.prog 189 = true := by kernel_rfl
theorem hB190 : hasBody Tryz.prog 190 = true := by kernel_rfl
theorem hB191 : hasBody Tryz.prog 191 = true := by kernel_rfl
theorem hB192 : hasBody Tryz.prog 192 = true := by kernel_rfl
theorem hB193 : hasBody Tryz.prog 193 = true := by kernel_rfl
theorem hB194 : hasBody Tryz.prog 194 = true := by kernel_rfl
theorem hB195 : hasBody Tryz.prog 195 = true := by kernel_rfl
theorem hB196 : hasBody Tryz.prog 196 = true := by kernel_rfl
theorem hB197 : hasBody Tryz.prog 197 = true := by kernel_rfl
theorem hB198 : hasBody Tryz.prog 198 = true := by kernel_rfl
theorem hB200 : hasBody Tryz.prog 200 = true := by kernel_rfl
theorem hB201 : hasBody Tryz.prog 201 = true := by kernel_rfl
theorem hB202 : hasBody Tryz.prog 202 = true := by kernel_rfl
theorem hB203 : hasBody Tryz.prog 203 = true := by kernel_rfl
theorem hB204 : hasBody Tryz.prog 204 = true := by kernel_rfl
theorem hB205 : hasBody Tryz.prog 205 = true := by kernel_rfl
theorem hB206 : hasBody Tryz.prog 206 = true := by kernel_rfl
theorem hB207 : hasBody Tryz.prog 207 = true := by kernel_rfl
theorem hB208 : hasBody Tryz.prog 208 = true := by kernel_rfl
theorem hB209 : hasBody Tryz.prog 209 = true := by kernel_rfl
theorem hB240 : hasBody Tryz.prog 240 = true := by kernel_rfl
theorem ts2 : tsize Tryz.prog 2 = 1 := by kernel_rfl
theorem tb2 : tbytes Tryz.prog 2 = 8 := by kernel_rfl
theorem zl2 : zleaf Tryz.prog 2 = true := by kernel_rfl
theorem za2 : zav Tryz.prog 2 = [.int .i64 0] := by kernel_rfl
theorem ts3 : tsize Tryz.prog 3 = 1 := by kernel_rfl
theorem tb3 : tbytes Tryz.prog 3 = 8 := by kernel_rfl
theorem zl3 : zleaf Tryz.prog 3 = true := by kernel_rfl
theorem za3 : zav Tryz.prog 3 = [.int .i64 0] := by kernel_rfl
theorem ts4 : tsize Tryz.prog 4 = 1 := by kernel_rfl
theorem tb4 : tbytes Tryz.prog 4 = 1 := by kernel_rfl
theorem zl4 : zleaf Tryz.prog 4 = true := by kernel_rfl
theorem za4 : zav Tryz.prog 4 = [.bool false] := by kernel_rfl
theorem ts5 : tsize Tryz.prog 5 = 1 := by kernel_rfl
theorem tb5 : tbytes Tryz.prog 5 = 1 := by kernel_rfl
theorem zl5 : zleaf Tryz.prog 5 = true := by kernel_rfl
theorem za5 : zav Tryz.prog 5 = [.int .u8 0] := by kernel_rfl
theorem ts6 : tsize Tryz.prog 6 = 1 := by kernel_rfl
theorem tb6 : tbytes Tryz.prog 6 = 1 := by kernel_rfl
theorem zl6 : zleaf Tryz.prog 6 = true := by kernel_rfl
theorem za6 : zav Tryz.prog 6 = [.int .u8 0] := by kernel_rfl
theorem ts7 : tsize Tryz.prog 7 = 4 := by kernel_rfl
theorem tb7 : tbytes Tryz.prog 7 = 24 := by kernel_rfl
theorem za7 : zav Tryz.prog 7 = [.int .i64 0, .int .i64 0, .bool false, .int .u8 0] := by kernel_rfl
theorem ts8 : tsize Tryz.prog 8 = 4 := by kernel_rfl
theorem tb8 : tbytes Tryz.prog 8 = 24 := by kernel_rfl
theorem za8 : zav Tryz.prog 8 = [.int .i64 0, .int .i64 0, .bool false, .int .u8 0] := by kernel_rfl
theorem ts9 : tsize Tryz.prog 9 = 1 := by kernel_rfl
theorem tb9 : tbytes Tryz.prog 9 = 16 := by kernel_rfl
theorem zl9 : zleaf Tryz.prog 9 = true := by kernel_rfl
theorem za9 : zav Tryz.prog 9 = [.str []] := by kernel_rfl
theorem ts10 : tsize Tryz.prog 10 = 1 := by kernel_rfl
theorem tb10 : tbytes Tryz.prog 10 = 16 := by kernel_rfl
theorem zl10 : zleaf Tryz.prog 10 = true := by kernel_rfl
theorem za10 : zav Tryz.prog 10 = [.str []] := by kernel_rfl
theorem ts11 : tsize Tryz.prog 11 = 1 := by kernel_rfl
theorem tb11 : tbytes Tryz.prog 11 = 16 := by kernel_rfl
theorem zl11 : zleaf Tryz.prog 11 = true := by kernel_rfl
theorem za11 : zav Tryz.prog 11 = [.str []] := by kernel_rfl
theorem ts12 : tsize Tryz.prog 12 = 1 := by kernel_rfl
theorem tb12 : tbytes Tryz.prog 12 = 8 := by kernel_rfl
theorem zl12 : zleaf Tryz.prog 12 = true := by kernel_rfl
theorem za12 : zav Tryz.prog 12 = [.int .u64 0] := by kernel_rfl
theorem ts13 : tsize Tryz.prog 13 = 2 := by kernel_rfl
theorem tb13 : tbytes Tryz.prog 13 = 24 := by kernel_rfl
theorem za13 : zav Tryz.prog 13 = [.str [], .int .u64 0] := by kernel_rfl
theorem ts14 : tsize Tryz.prog 14 = 2 := by kernel_rfl
theorem tb14 : tbytes Tryz.prog 14 = 24 := by kernel_rfl
theorem za14 : zav Tryz.prog 14 = [.str [], .int .u64 0] := by kernel_rfl
theorem ts18 : tsize Tryz.prog 18 = 1 := by kernel_rfl
theorem tb18 : tbytes Tryz.prog 18 = 8 := by kernel_rfl
theorem za18 : zav Tryz.prog 18 = [.raw (.pointer none)] := by kernel_rfl
theorem ts19 : tsize Tryz.prog 19 = 1 := by kernel_rfl
theorem tb19 : tbytes Tryz.prog 19 = 8 := by kernel_rfl
theorem za19 : zav Tryz.prog 19 = [.raw (.pointer none)] := by kernel_rfl
theorem ts21 : tsize Tryz.prog 21 = 1 := by kernel_rfl
theorem tb21 : tbytes Tryz.prog 21 = 4 := by kernel_rfl
theorem zl21 : zleaf Tryz.prog 21 = true := by kernel_rfl
theorem za21 : zav Tryz.prog 21 = [.int .i32 0] := by kernel_rfl
theorem ts22 : tsize Tryz.prog 22 = 1 := by kernel_rfl
theorem tb22 : tbytes Tryz.prog 22 = 24 := by kernel_rfl
theorem zl22 : zleaf Tryz.prog 22 = true := by kernel_rfl
theorem za22 : zav Tryz.prog 22 = [.raw (.slice none 0 0)] := by kernel_rfl
theorem ts24 : tsize Tryz.prog 24 = 2 := by kernel_rfl
theorem tb24 : tbytes Tryz.prog 24 = 32 := by kernel_rfl
theorem za24 : zav Tryz.prog 24 = [.raw (.slice none 0 0), .int .i64 0] := by kernel_rfl
theorem ts25 : tsize Tryz.prog 25 = 2 := by kernel_rfl
theorem tb25 : tbytes Tryz.prog 25 = 32 := by kernel_rfl
theorem za25 : zav Tryz.prog 25 = [.raw (.slice none 0 0), .int .i64 0] := by kernel_rfl
theorem ts27 : tsize Tryz.prog 27 = 1 := by kernel_rfl
theorem tb27 : tbytes Tryz.prog 27 = 8 := by kernel_rfl
theorem zl27 : zleaf Tryz.prog 27 = true := by kernel_rfl
theorem za27 : zav Tryz.prog 27 = [.int .i64 0] := by kernel_rfl
theorem ts35 : tsize Tryz.prog 35 = 1 := by kernel_rfl
theorem tb35 : tbytes Tryz.prog 35 = 24 := by kernel_rfl
theorem zl35 : zleaf Tryz.prog 35 = true := by kernel_rfl
theorem za35 : zav Tryz.prog 35 = [.raw (.slice none 0 0)] := by kernel_rfl
theorem ts36 : tsize Tryz.prog 36 = 2 := by kernel_rfl
theorem tb36 : tbytes Tryz.prog 36 = 40 := by kernel_rfl
theorem za36 : zav Tryz.prog 36 = [.str [], .raw (.slice none 0 0)] := by kernel_rfl
theorem ts37 : tsize Tryz.prog 37 = 2 := by kernel_rfl
theorem tb37 : tbytes Tryz.prog 37 = 40 := by kernel_rfl
theorem za37 : zav Tryz.prog 37 = [.str [], .raw (.slice none 0 0)] := by kernel_rfl
theorem ts39 : tsize Tryz.prog 39 = 1 := by kernel_rfl
theorem tb39 : tbytes Tryz.prog 39 = 24 := by kernel_rfl
theorem zl39 : zleaf Tryz.prog 39 = true := by kernel_rfl
theorem za39 : zav Tryz.prog 39 = [.raw (.slice none 0 0)] := by kernel_rfl
theorem ts41 : tsize Tryz.prog 41 = 4 := by kernel_rfl
theorem tb41 : tbytes Tryz.prog 41 = 40 := by kernel_rfl
theorem za41 : zav Tryz.prog 41 = [.str [], .int .i64 0, .int .i64 0, .int .i64 0] := by kernel_rfl
theorem ts42 : tsize Tryz.prog 42 = 4 := by kernel_rfl
theorem tb42 : tbytes Tryz.prog 42 = 40 := by kernel_rfl
theorem za42 : zav Tryz.prog 42 = [.str [], .int .i64 0, .int .i64 0, .int .i64 0] := by kernel_rfl
theorem ts63 : tsize Tryz.prog 63 = 1 := by kernel_rfl
theorem tb63 : tbytes Tryz.prog 63 = 8 := by kernel_rfl
theorem zl63 : zleaf Tryz.prog 63 = true := by kernel_rfl
theorem za63 : zav Tryz.prog 63 = [.raw (.map none)] := by kernel_rfl
theorem ts64 : tsize Tryz.prog 64 = 1 := by kernel_rfl
theorem tb64 : tbytes Tryz.prog 64 = 24 := by kernel_rfl
theorem zl64 : zleaf Tryz.prog 64 = true := by kernel_rfl
theorem za64 : zav Tryz.prog 64 = [.raw (.slice none 0 0)] := by kernel_rfl
theorem ts65 : tsize Tryz.prog 65 = 5 := by kernel_rfl
theorem tb65 : tbytes Tryz.prog 65 = 72 := by kernel_rfl
theorem za65 : zav Tryz.prog 65 = [.str [], .int .i64 0, .str [], .int .i64 0, .raw (.slice none 0 0)] := by kernel_rfl
theorem ts66 : tsize Tryz.prog 66 = 5 := by kernel_rfl
theorem tb66 : tbytes Tryz.prog 66 = 72 := by kernel_rfl
theorem za66 : zav Tryz.prog 66 = [.str [], .int .i64 0, .str [], .int .i64 0, .raw (.slice none 0 0)] := by kernel_rfl
theorem ts67 : tsize Tryz.prog 67 = 1 := by kernel_rfl
theorem tb67 : tbytes Tryz.prog 67 = 24 := by kernel_rfl
theorem zl67 : zleaf Tryz.prog 67 = true := by kernel_rfl
theorem za67 : zav Tryz.prog 67 = [.raw (.slice none 0 0)] := by kernel_rfl
theorem ts69 : tsize Tryz.prog 69 = 3 := by kernel_rfl
theorem tb69 : tbytes Tryz.prog 69 = 32 := by kernel_rfl
theorem za69 : zav Tryz.prog 69 = [.int .i64 0, .int .i64 0, .str []] := by kernel_rfl
theorem ts70 : tsize Tryz.prog 70 = 3 := by kernel_rfl
theorem tb70 : tbytes Tryz.prog 70 = 32 := by kernel_rfl
theorem za70 : zav Tryz.prog 70 = [.int .i64 0, .int .i64 0, .str []] := by kernel_rfl
theorem ts73 : tsize Tryz.prog 73 = 2 := by kernel_rfl
theorem tb73 : tbytes Tryz.prog 73 = 24 := by kernel_rfl
theorem za73 : zav Tryz.prog 73 = [.int .i64 0, .str []] := by kernel_rfl
theorem ts74 : tsize Tryz.prog 74 = 2 := by kernel_rfl
theorem tb74 : tbytes Tryz.prog 74 = 24 := by kernel_rfl
theorem za74 : zav Tryz.prog 74 = [.int .i64 0, .str []] := by kernel_rfl
theorem ts75 : tsize Tryz.prog 75 = 1 := by kernel_rfl
theorem tb75 : tbytes Tryz.prog 75 = 24 := by kernel_rfl
theorem zl75 : zleaf Tryz.prog 75 = true := by kernel_rfl
theorem za75 : zav Tryz.prog 75 = [.raw (.slice none 0 0)] := by kernel_rfl
theorem ts82 : tsize Tryz.prog 82 = 1 := by kernel_rfl
theorem tb82 : tbytes Tryz.prog 82 = 8 := by kernel_rfl
theorem zl82 : zleaf Tryz.prog 82 = true := by kernel_rfl
theorem za82 : zav Tryz.prog 82 = [.raw (.pointer none)] := by kernel_rfl
theorem ts96 : tsize Tryz.prog 96 = 2 := by kernel_rfl
theorem tb96 : tbytes Tryz.prog 96 = 24 := by kernel_rfl
theorem za96 : zav Tryz.prog 96 = [.int .i64 0, .str []] := by kernel_rfl
theorem ts97 : tsize Tryz.prog 97 = 2 := by kernel_rfl
theorem tb97 : tbytes Tryz.prog 97 = 24 := by kernel_rfl
theorem za97 : zav Tryz.prog 97 = [.int .i64 0, .str []] := by kernel_rfl
theorem ts103 : tsize Tryz.prog 103 = 3 := by kernel_rfl
theorem tb103 : tbytes Tryz.prog 103 = 48 := by kernel_rfl
theorem za103 : zav Tryz.prog 103 = [.str [], .raw (.slice none 0 0), .int .i64 0] := by kernel_rfl
theorem ts104 : tsize Tryz.prog 104 = 3 := by kernel_rfl
theorem tb104 : tbytes Tryz.prog 104 = 48 := by kernel_rfl
theorem za104 : zav Tryz.prog 104 = [.str [], .raw (.slice none 0 0), .int .i64 0] := by kernel_rfl
theorem ts109 : tsize Tryz.prog 109 = 1 := by kernel_rfl
theorem tb109 : tbytes Tryz.prog 109 = 8 := by kernel_rfl
theorem zl109 : zleaf Tryz.prog 109 = true := by kernel_rfl
theorem za109 : zav Tryz.prog 109 = [.raw (.map none)] := by kernel_rfl
theorem ts116 : tsize Tryz.prog 116 = 1 := by kernel_rfl
theorem tb116 : tbytes Tryz.prog 116 = 24 := by kernel_rfl
theorem zl116 : zleaf Tryz.prog 116 = true := by kernel_rfl
theorem za116 : zav Tryz.prog 116 = [.raw (.slice none 0 0)] := by kernel_rfl
theorem ts117 : tsize Tryz.prog 117 = 2 := by kernel_rfl
theorem tb117 : tbytes Tryz.prog 117 = 32 := by kernel_rfl
theorem za117 : zav Tryz.prog 117 = [.raw (.pointer none), .raw (.slice none 0 0)] := by kernel_rfl
theorem ts118 : tsize Tryz.prog 118 = 2 := by kernel_rfl
theorem tb118 : tbytes Tryz.prog 118 = 32 := by kernel_rfl
theorem za118 : zav Tryz.prog 118 = [.raw (.pointer none), .raw (.slice none 0 0)] := by kernel_rfl
theorem ts120 : tsize Tryz.prog 120 = 1 := by kernel_rfl
theorem tb120 : tbytes Tryz.prog 120 = 16 := by kernel_rfl
theorem zl120 : zleaf Tryz.prog 120 = true := by kernel_rfl
theorem za120 : zav Tryz.prog 120 = [.raw .nilIface] := by kernel_rfl
theorem ts124 : tsize Tryz.prog 124 = 1 := by kernel_rfl
theorem tb124 : tbytes Tryz.prog 124 = 24 := by kernel_rfl
theorem zl124 : zleaf Tryz.prog 124 = true := by kernel_rfl
theorem za124 : zav Tryz.prog 124 = [.raw (.slice none 0 0)] := by kernel_rfl
theorem ts126 : tsize Tryz.prog 126 = 2 := by kernel_rfl
theorem tb126 : tbytes Tryz.prog 126 = 16 := by kernel_rfl
theorem za126 : zav Tryz.prog 126 = [.int .i64 0, .int .i64 0] := by kernel_rfl
theorem ts128 : tsize Tryz.prog 128 = 1 := by kernel_rfl
theorem tb128 : tbytes Tryz.prog 128 = 24 := by kernel_rfl
theorem zl128 : zleaf Tryz.prog 128 = true := by kernel_rfl
theorem za128 : zav Tryz.prog 128 = [.raw (.slice none 0 0)] := by kernel_rfl
theorem ts130 : tsize Tryz.prog 130 = 4 := by kernel_rfl
theorem tb130 : tbytes Tryz.prog 130 = 72 := by kernel_rfl
theorem za130 : zav Tryz.prog 130 = [.int .i64 0, .raw (.slice none 0 0), .raw (.slice none 0 0), .str []] := by kernel_rfl
theorem ts131 : tsize Tryz.prog 131 = 4 := by kernel_rfl
theorem tb131 : tbytes Tryz.prog 131 = 72 := by kernel_rfl
theorem za131 : zav Tryz.prog 131 = [.int .i64 0, .raw (.slice none 0 0), .raw (.slice none 0 0), .str []] := by kernel_rfl
theorem ts153 : tsize Tryz.prog 153 = 1 := by kernel_rfl
theorem tb153 : tbytes Tryz.prog 153 = 8 := by kernel_rfl
theorem zl153 : zleaf Tryz.prog 153 = true := by kernel_rfl
theorem za153 : zav Tryz.prog 153 = [.raw (.pointer none)] := by kernel_rfl
theorem ts167 : tsize Tryz.prog 167 = 1 := by kernel_rfl
theorem tb167 : tbytes Tryz.prog 167 = 8 := by kernel_rfl
theorem zl167 : zleaf Tryz.prog 167 = true := by kernel_rfl
theorem za167 : zav Tryz.prog 167 = [.raw (.pointer none)] := by kernel_rfl
theorem ts171 : tsize Tryz.prog 171 = 1 := by kernel_rfl
theorem tb171 : tbytes Tryz.prog 171 = 8 := by kernel_rfl
theorem zl171 : zleaf Tryz.prog 171 = true := by kernel_rfl
theorem za171 : zav Tryz.prog 171 = [.int .i64 0] := by kernel_rfl
theorem ts177 : tsize Tryz.prog 177 = 1 := by kernel_rfl
theorem tb177 : tbytes Tryz.prog 177 = 8 := by kernel_rfl
theorem zl177 : zleaf Tryz.prog 177 = true := by kernel_rfl
theorem za177 : zav Tryz.prog 177 = [.int .u64 0] := by kernel_rfl
theorem ts183 : tsize Tryz.prog 183 = 1 := by kernel_rfl
theorem tb183 : tbytes Tryz.prog 183 = 8 := by kernel_rfl
theorem zl183 : zleaf Tryz.prog 183 = true := by kernel_rfl
theorem za183 : zav Tryz.prog 183 = [.raw (.pointer none)] := by kernel_rfl
theorem ts189 : tsize Tryz.prog 189 = 1 := by kernel_rfl
theorem tb189 : tbytes Tryz.prog 189 = 8 := by kernel_rfl
theorem zl189 : zleaf Tryz.prog 189 = true := by kernel_rfl
theorem za189 : zav Tryz.prog 189 = [.raw .nilFunc] := by kernel_rfl
theorem ts191 : tsize Tryz.prog 191 = 1 := by kernel_rfl
theorem tb191 : tbytes Tryz.prog 191 = 8 := by kernel_rfl
theorem zl191 : zleaf Tryz.prog 191 = true := by kernel_rfl
theorem za191 : zav Tryz.prog 191 = [.int .u64 0] := by kernel_rfl
theorem ts195 : tsize Tryz.prog 195 = 3 := by kernel_rfl
theorem tb195 : tbytes Tryz.prog 195 = 48 := by kernel_rfl
theorem za195 : zav Tryz.prog 195 = [.str [], .str [], .raw .nilIface] := by kernel_rfl
theorem ts196 : tsize Tryz.prog 196 = 3 := by kernel_rfl
theorem tb196 : tbytes Tryz.prog 196 = 48 := by kernel_rfl
theorem za196 : zav Tryz.prog 196 = [.str [], .str [], .raw .nilIface] := by kernel_rfl
theorem ts198 : tsize Tryz.prog 198 = 1 := by kernel_rfl
theorem tb198 : tbytes Tryz.prog 198 = 4 := by kernel_rfl
theorem zl198 : zleaf Tryz.prog 198 = true := by kernel_rfl
theorem za198 : zav Tryz.prog 198 = [.int .u32 0] := by kernel_rfl
theorem ts203 : tsize Tryz.prog 203 = 24 := by kernel_rfl
theorem tb203 : tbytes Tryz.prog 203 = 24 := by kernel_rfl
theorem ts209 : tsize Tryz.prog 209 = 2 := by kernel_rfl
theorem tb209 : tbytes Tryz.prog 209 = 2 := by kernel_rfl
theorem za209 : zav Tryz.prog 209 = [.int .u8 0, .int .u8 0] := by kernel_rfl
theorem ts210 : tsize Tryz.prog 210 = 2 := by kernel_rfl
theorem tb210 : tbytes Tryz.prog 210 = 2 := by kernel_rfl
theorem za210 : zav Tryz.prog 210 = [.int .u8 0, .int .u8 0] := by kernel_rfl
theorem ts211 : tsize Tryz.prog 211 = 32 := by kernel_rfl
theorem tb211 : tbytes Tryz.prog 211 = 32 := by kernel_rfl
theorem ts216 : tsize Tryz.prog 216 = 1 := by kernel_rfl
theorem tb216 : tbytes Tryz.prog 216 = 16 := by kernel_rfl
theorem za216 : zav Tryz.prog 216 = [.str []] := by kernel_rfl
theorem ts217 : tsize Tryz.prog 217 = 1 := by kernel_rfl
theorem tb217 : tbytes Tryz.prog 217 = 16 := by kernel_rfl
theorem za217 : zav Tryz.prog 217 = [.str []] := by kernel_rfl
theorem ts220 : tsize Tryz.prog 220 = 20 := by kernel_rfl
theorem tb220 : tbytes Tryz.prog 220 = 160 := by kernel_rfl
theorem ts225 : tsize Tryz.prog 225 = 32 := by kernel_rfl
theorem tb225 : tbytes Tryz.prog 225 = 32 := by kernel_rfl
theorem ts226 : tsize Tryz.prog 226 = 64 := by kernel_rfl
theorem tb226 : tbytes Tryz.prog 226 = 64 := by kernel_rfl
theorem ts227 : tsize Tryz.prog 227 = 4 := by kernel_rfl
theorem tb227 : tbytes Tryz.prog 227 = 40 := by kernel_rfl
theorem za227 : zav Tryz.prog 227 = [.raw (.pointer none), .raw (.pointer none), .raw (.pointer none), .str []] := by kernel_rfl
theorem ts228 : tsize Tryz.prog 228 = 4 := by kernel_rfl
theorem tb228 : tbytes Tryz.prog 228 = 40 := by kernel_rfl
theorem za228 : zav Tryz.prog 228 = [.raw (.pointer none), .raw (.pointer none), .raw (.pointer none), .str []] := by kernel_rfl
theorem ts232 : tsize Tryz.prog 232 = 1 := by kernel_rfl
theorem tb232 : tbytes Tryz.prog 232 = 1 := by kernel_rfl
theorem zl232 : zleaf Tryz.prog 232 = true := by kernel_rfl
theorem za232 : zav Tryz.prog 232 = [.int .u8 0] := by kernel_rfl
theorem ts233 : tsize Tryz.prog 233 = 1 := by kernel_rfl
theorem tb233 : tbytes Tryz.prog 233 = 1 := by kernel_rfl
theorem zl233 : zleaf Tryz.prog 233 = true := by kernel_rfl
theorem za233 : zav Tryz.prog 233 = [.int .u8 0] := by kernel_rfl
theorem ts235 : tsize Tryz.prog 235 = 1 := by kernel_rfl
theorem tb235 : tbytes Tryz.prog 235 = 4 := by kernel_rfl
theorem zl235 : zleaf Tryz.prog 235 = true := by kernel_rfl
theorem za235 : zav Tryz.prog 235 = [.int .i32 0] := by kernel_rfl
theorem ts236 : tsize Tryz.prog 236 = 1 := by kernel_rfl
theorem tb236 : tbytes Tryz.prog 236 = 4 := by kernel_rfl
theorem zl236 : zleaf Tryz.prog 236 = true := by kernel_rfl
theorem za236 : zav Tryz.prog 236 = [.int .i32 0] := by kernel_rfl
theorem ts237 : tsize Tryz.prog 237 = 11 := by kernel_rfl
theorem tb237 : tbytes Tryz.prog 237 = 48 := by kernel_rfl
theorem za237 : zav Tryz.prog 237 = [.int .u64 0, .int .u64 0, .int .u32 0, .int .u8 0, .int .u8 0, .int .u8 0, .int .u8 0, .raw .nilFunc, .raw (.pointer none), .int .i32 0, .int .i32 0] := by kernel_rfl
theorem ts238 : tsize Tryz.prog 238 = 11 := by kernel_rfl
theorem tb238 : tbytes Tryz.prog 238 = 48 := by kernel_rfl
theorem za238 : zav Tryz.prog 238 = [.int .u64 0, .int .u64 0, .int .u32 0, .int .u8 0, .int .u8 0, .int .u8 0, .int .u8 0, .raw .nilFunc, .raw (.pointer none), .int .i32 0, .int .i32 0] := by kernel_rfl
end Go.Proofs.YtpjbbpilgfihbaaGreatDoor
/- What the library's contracts on strings.Builder ask besides. Own work of this seat. -/
set_option maxRecDepth 100000
namespace Go.Proofs
open Go.Shelf
theorem Tryz.Builder_Extra_169 : Builder.Extra Tryz.prog Tryz.lays169_ren := {
  sizeBuilder := by kernel_rfl
  liesBuilder := by kernel_rfl
  t5 := Tryz.underlying5
  a5 := Tryz.isAgg5
  z5 := Tryz.sizeOf5
  v5 := Tryz.zeroValue5
  infoByte := by kernel_rfl
  cellsByte := by kernel_rfl
  sizeByte := by kernel_rfl
  neB5 := by decide }
theorem Tryz.Builder_Extra_105 : Builder.Extra Tryz.prog Tryz.lays105_ren := {
  sizeBuilder := by kernel_rfl
  liesBuilder := by kernel_rfl
  t5 := Tryz.underlying5
  a5 := Tryz.isAgg5
  z5 := Tryz.sizeOf5
  v5 := Tryz.zeroValue5
  infoByte := by kernel_rfl
  cellsByte := by kernel_rfl
  sizeByte := by kernel_rfl
  neB5 := by decide }
end Go.Proofs
/- What is leant on of the library's variables. Own work of this seat. -/
set_option linter.unusedSimpArgs false
set_option linter.unusedVariables false
namespace Go.Proofs.YtpjbbpilgfihbaaGreatDoor
open Go Go.Av Go.RowKit

structure LibOk (S : Std) : Prop where
  maxlen : ∃ m cs t z, S 0 = some (.cells cs t z) ∧ cs[0]? = some (.int .i64 m)
  pow10 : ∃ t z, S 5 = some (.cells (Lib.pow10Tab.map fun z => Value.int .u64 z).toArray t z)
  syn : ∃ te pe t z, S 1 = some (.cells #[.iface te pe] t z)

theorem LibOk.cell {S : Std} (hS : LibOk S) : ∃ m, ∀ w, Stands S w → w.cell? ⟨Tryz.lays144_ren.g 1, 0, none⟩ = some (.int .i64 m) := by
  obtain ⟨m, cs, t, z, h, h0⟩ := hS.maxlen
  exact ⟨m, fun w hw => (Lib.cell_of_heap (hw _ _ h) 0).trans h0⟩
end Go.Proofs.YtpjbbpilgfihbaaGreatDoor
/- What all laws of this seat share: the library's own variables, and the row's frame. Own work of this seat. -/
set_option maxRecDepth 100000
set_option linter.unusedSimpArgs false
set_option linter.unusedVariables false
namespace Go.Proofs.YtpjbbpilgfihbaaGreatDoor
open Go Go.Av Go.RowKit Go.ChangeShapes Go.WideShapes Go.ChangeAt

theorem own : ownKnob Tryz.prog.godebug = none := by kernel_rfl
theorem c3 : Tryz.prog.cellsOf 3 = 1 := by kernel_rfl

/-- the blocks of the package-level variables -/
def stdOf (W : World) : Std := fun k => if k < 1000 then W.heap[k]? else none
theorem stands (W : World) : Stands (stdOf W) W := fun k o e => by
  unfold stdOf at e
  split at e
  · exact e
  · cases e

theorem var_heap {P : Program} {W : World} {n : String} {g : Nat} {cs : Array Value} (hg : P.globalNamed n = some g) (h : W.var? P n = some cs) : ∃ t z, W.heap[g]? = some (.cells cs t z) := by
  simp only [World.var?, hg, Option.bind_some] at h
  split at h
  · rename_i c t z hq
    cases h
    exact ⟨t, z, hq⟩
  · cases h

theorem star_name : "*" ++ "errors.errorString" = "*errors.errorString" := by decide
theorem error_row (u : TypeId) (h : Tryz.prog.typeName? 3 u = some "*errors.errorString") : u = 215 :=
  typeName_ptr_named (nm := "errors.errorString") (by rw [star_name]; kernel_rfl) (by kernel_rfl) (by decide) u (by rw [star_name]; exact h)

theorem pow_data : Rows.laid_internal_strconv_uint64pow10 = Lib.tabData (H := Unit) .u64 Lib.pow10Tab := by kernel_rfl

theorem lib_ok {W : World} (h : W.ShapedOpen Tryz.prog) {laid : List (String × DataW Unit)} (hp : (laid.all fun x => x.2.handleName?.isNone) = true) (hL : laidMetH Tryz.prog laid W)
    (e1 : laid.filter (fun x => x.1 == "internal/strconv.uint64pow10") = [("internal/strconv.uint64pow10", Rows.laid_internal_strconv_uint64pow10)])
    (e2 : laid.filter (fun x => x.1 == "strconv.ErrSyntax") = [("strconv.ErrSyntax", Rows.laid_strconv_ErrSyntax)]) : LibOk (stdOf W) := by
  rw [MakeChecks.laidMetH_plain _ _ _ hp] at hL
  have h1 := hL.filter (fun x => x.1 == "internal/strconv.uint64pow10")
  have h2 := hL.filter (fun x => x.1 == "strconv.ErrSyntax")
  rw [e1, pow_data] at h1
  rw [e2] at h2
  refine ⟨?_, ?_, ?_⟩
  · have hg : Tryz.lays144_ren.g 1 = 0 := rfl
    obtain ⟨zero, t, hz⟩ : ∃ zero t, ((begin Tryz.prog (fun _ _ => 0) default).world.heap[0]?).bind Obj.row? = some (zero, t) ∧ zero.size = 1 ∧ Tryz.prog.buildable t = true ∧ Tryz.prog.cellTypes Tryz.prog.depth t = some [t] ∧ Tryz.prog.underlying t = some (.int .i64) := by
      refine ⟨#[.int .i64 0], 3, by kernel_rfl, by kernel_rfl, by kernel_rfl, by kernel_rfl, by kernel_rfl⟩
    obtain ⟨m, hm⟩ := Go.Proofs.cell_of_shapedOpen_int h (g := 0) (of_decide_eq_true (by kernel_rfl)) hz.1 hz.2.1 hz.2.2.1 hz.2.2.2.1 hz.2.2.2.2
    unfold World.cell? at hm
    split at hm
    · rename_i cs t z hq
      exact ⟨m, cs, t, z, hq, by simpa using hm⟩
    · cases hm
  · have ht := Lib.tabIs_of_head (g := 5) (t := 220) (e := 191) (n := 20) (by kernel_rfl) (by kernel_rfl) Tryz.underlying220 Tryz.underlying191 (by kernel_rfl) (by kernel_rfl) h1
    exact var_heap (by kernel_rfl) ht
  · obtain ⟨a0, s0, hv0, -, -, -⟩ := laid_sentinel h2 (g := 1) (by kernel_rfl) (by kernel_rfl) Tryz.underlying120 error_row Tryz.underlying215 Tryz.underlying217 rfl rfl Tryz.underlying9 (by kernel_rfl) (by kernel_rfl)
    obtain ⟨t, z, hh⟩ := var_heap (g := 1) (by kernel_rfl) hv0
    exact ⟨_, _, t, z, hh⟩
end Go.Proofs.YtpjbbpilgfihbaaGreatDoor
