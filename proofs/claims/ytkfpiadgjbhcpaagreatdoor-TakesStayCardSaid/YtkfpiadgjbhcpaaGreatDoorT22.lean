/- What strings are: plain, proper, sets. Own work of this seat. -/
import Derived.Test.YtkfpiadgjbhcpaaGreatDoorT21
import Derived.Test.YtkfpiadgjbhcpaaGreatDoorT15
import Derived.Shelf.Strings.IndexAnyAll
import Derived.Shelf.Strings.SlTrimAscii
import Derived.Shelf.Strconv.AtoiErr
import Derived.Test.YtkfpiadgjbhcpaaGreatDoorProg
set_option maxRecDepth 100000
set_option linter.unusedSimpArgs false
set_option linter.unusedVariables false
namespace Go.Proofs.YtkfpiadgjbhcpaaGreatDoor
open Go Go.Av Go.RowKit


def digI (n : Int) : Bool := decide (n ≥ 48) && decide (n ≤ 57)
def capI (n : Int) : Bool := decide (n ≥ 65) && decide (n ≤ 90)

theorem isDigit_pc (n : Int) : Pc Tryz.prog 218 [.int .u8 n] (· = .bool (digI n)) := by
  refine pc_intro (ct_intro Tryz.func218 rfl Tryz.ntmps218 hB218 (by simp) fun h ρ w => go (N := 9) Tryz.ntmps218 200 ?_)
  by_cases h1 : n ≥ 48
  · have d1 : decide (n ≥ 48) = true := by simpa using h1
    simp only [go_sem, d1]
    exact aret [2] rfl ⟨by simp [resV, Av.get, digI, h1], rfl⟩
  · have d1 : decide (n ≥ 48) = false := by simpa using h1
    simp only [go_sem, d1]
    exact aret [2] rfl ⟨by simp [resV, Av.get, digI, h1], rfl⟩

theorem isCapital_pc (n : Int) : Pc Tryz.prog 219 [.int .u8 n] (· = .bool (capI n)) := by
  refine pc_intro (ct_intro Tryz.func219 rfl Tryz.ntmps219 hB219 (by simp) fun h ρ w => go (N := 9) Tryz.ntmps219 200 ?_)
  by_cases h1 : n ≥ 65
  · have d1 : decide (n ≥ 65) = true := by simpa using h1
    simp only [go_sem, d1]
    exact aret [2] rfl ⟨by simp [resV, Av.get, capI, h1], rfl⟩
  · have d1 : decide (n ≥ 65) = false := by simpa using h1
    simp only [go_sem, d1]
    exact aret [2] rfl ⟨by simp [resV, Av.get, capI, h1], rfl⟩

def okB (c : UInt8) : Bool := !(decide ((c.toNat : Int) < 32)) && !(decide ((c.toNat : Int) > 126))
def plainL (s : List UInt8) : Bool := s.all okB && (!Lib.hasPrefix s [32] && (!Lib.hasSuffix s [32] && !Lib.contains s [32, 32]))

theorem all_take_succ {α : Type} {p : α → Bool} {s : List α} {i : Nat} (h : i < s.length) (h1 : (s.take i).all p = true) (h2 : p s[i] = true) : (s.take (i + 1)).all p = true := by
  rw [List.take_succ_eq_append_getElem h, List.all_append, h1]
  simpa using h2
theorem all_false_at {α : Type} {p : α → Bool} {s : List α} {i : Nat} (h : i < s.length) (h2 : p s[i] = false) : s.all p = false := by
  rw [List.all_eq_false]
  exact ⟨s[i], List.getElem_mem h, by simp [h2]⟩

theorem plain_pch {S : Std} (hS : LibOk S) (s : List UInt8) (hs : s.length < 1000000) : PcH Tryz.prog S 170 [.str s] (· = .bool (plainL s)) := by
  refine pch_intro (cth_intro Tryz.func170 rfl Tryz.ntmps170 hB170 (by simp) fun h ρ w hg => go (N := 33) Tryz.ntmps170 200 ?_)
  simp only [go_sem]
  refine aloop (ι := Nat) (fun i => s.length - i) (fun i => [(6, .int .i64 i), (5, .int .i64 s.length), (0, .str s)]) (fun _ => []) (fun i => i ≤ s.length ∧ (s.take i).all okB = true) 0 ⟨by omega, by simp⟩ ?_ ?_
  · refine Shift.weak ?_
    simp only [wk, go_sem]
  · rintro i ⟨g1, g2⟩ J hJ
    refine go (N := 33) Tryz.ntmps170 200 ?_
    by_cases hi : (i : Int) < s.length
    · have hil : i < s.length := by omega
      have hgd : s.getD i 0 = s[i] := by simp [List.getD, hil]
      by_cases hc1 : ((s[i].toNat : Int) < 32)
      · have d1 : decide ((s[i].toNat : Int) < 32) = true := by simpa using hc1
        simp only [go_sem, hi, hgd, d1]
        refine ⟨by omega, aret [2] rfl ⟨?_, rfl⟩⟩
        simp [resV, Av.get, plainL, all_false_at hil (p := okB) (by simp [okB]; omega)]
      · have d1 : decide ((s[i].toNat : Int) < 32) = false := by simpa using hc1
        by_cases hc2 : ((s[i].toNat : Int) > 126)
        · have d2 : decide ((s[i].toNat : Int) > 126) = true := by simpa using hc2
          simp only [go_sem, hi, hgd, d1, d2]
          refine ⟨by omega, by omega, aret [2] rfl ⟨?_, rfl⟩⟩
          simp [resV, Av.get, plainL, all_false_at hil (p := okB) (by simp [okB]; omega)]
        · have d2 : decide ((s[i].toNat : Int) > 126) = false := by simpa using hc2
          simp only [go_sem, hi, hgd, d1, d2]
          rw [show (i : Int) + 1 = ((i + 1 : Nat) : Int) by omega]
          repeat refine And.intro (by omega) ?_
          refine ainv (hJ (i + 1) ⟨by omega, all_take_succ hil g2 (by simp [okB]; omega)⟩ (by omega)) (Shift.weak ?_)
          simp only [wk, go_sem]
    · simp only [go_sem, hi]
      have hall : s.all okB = true := by rw [← g2, List.take_of_length_le (by omega)]
      refine pcall1 (hasPrefix_pc s [32]) rfl (N := 33) Tryz.ntmps170 rfl (go (N := 33) Tryz.ntmps170 200 ?_)
      cases e1 : Lib.hasPrefix s [32] with
      | true =>
        simp only [go_sem]
        refine aret [2] rfl ⟨?_, rfl⟩
        simp [resV, Av.get, plainL, e1]
      | false =>
        simp only [go_sem]
        refine pcall1 (hasSuffix_pc s [32] (by omega)) rfl (N := 33) Tryz.ntmps170 rfl (go (N := 33) Tryz.ntmps170 200 ?_)
        cases e2 : Lib.hasSuffix s [32] with
        | true =>
          simp only [go_sem]
          refine aret [2] rfl ⟨?_, rfl⟩
          simp [resV, Av.get, plainL, e2]
        | false =>
          simp only [go_sem]
          refine pcallH1 hg (contains_pch hS s [32, 32] (by omega)) rfl (N := 33) Tryz.ntmps170 rfl (go (N := 33) Tryz.ntmps170 200 ?_)
          simp only [go_sem]
          refine aret [2] rfl ⟨?_, rfl⟩
          simp [resV, Av.get, plainL, e1, e2, hall]

/-- one byte of a proper string -/
def okP (o : List UInt8) (c : UInt8) : Bool := capI c.toNat || (digI c.toNat || (((c.toNat : Int) == 32) || !(decide (Lib.indexByte o c < 0))))
def properL (s : List UInt8) (most : Int) (o : List UInt8) : Bool :=
  !(decide ((s.length : Int) < 1)) && (!(decide ((s.length : Int) > most)) && (capI (s.getD 0 0).toNat && (plainL s && s.all (okP o))))

theorem proper_pch {S : Std} (hS : LibOk S) (s : List UInt8) (most : Int) (o : List UInt8) (hs : s.length < 1000000) : PcH Tryz.prog S 271 [.str s, .int .i64 most, .str o] (· = .bool (properL s most o)) := by
  refine pch_intro (cth_intro Tryz.func271 rfl Tryz.ntmps271 hB271 (by simp) fun h ρ w hg => go (N := 60) Tryz.ntmps271 300 ?_)
  by_cases h1 : (s.length : Int) < 1
  · have d1 : decide ((s.length : Int) < 1) = true := by simpa using h1
    simp only [go_sem, d1]
    exact aret [6] rfl ⟨by simp [resV, Av.get, properL, h1], rfl⟩
  have d1 : decide ((s.length : Int) < 1) = false := by simpa using h1
  by_cases h2 : (s.length : Int) > most
  · have d2 : decide ((s.length : Int) > most) = true := by simpa using h2
    simp only [go_sem, d1, d2]
    exact aret [6] rfl ⟨by simp [resV, Av.get, properL, h2], rfl⟩
  have d2 : decide ((s.length : Int) > most) = false := by simpa using h2
  simp only [go_sem, d1, d2]
  have hpos : 0 < s.length := by omega
  refine ⟨by omega, ?_⟩
  refine pcall1 (isCapital_pc _) rfl (N := 60) Tryz.ntmps271 rfl (go (N := 60) Tryz.ntmps271 300 ?_)
  cases e1 : capI (s.getD 0 0).toNat with
  | false =>
    simp only [go_sem]
    exact aret [6] rfl ⟨by simp only [resV, Av.get, properL, e1]; simp, rfl⟩
  | true =>
  simp only [go_sem]
  refine pcallH1 hg (plain_pch hS s hs) rfl (N := 60) Tryz.ntmps271 rfl (go (N := 60) Tryz.ntmps271 300 ?_)
  cases e2 : plainL s with
  | false =>
    simp only [go_sem]
    exact aret [6] rfl ⟨by simp only [resV, Av.get, properL, e2]; simp, rfl⟩
  | true =>
  simp only [go_sem]
  have hval : properL s most o = s.all (okP o) := by simp only [properL, d1, d2, e1, e2]; simp
  rw [hval]
  refine aloop (ι := Nat) (fun i => s.length - i) (fun i => [(30, .int .i64 i), (29, .int .i64 s.length), (0, .str s), (2, .str o)]) (fun _ => []) (fun i => i ≤ s.length ∧ (s.take i).all (okP o) = true) 0 ⟨by omega, by simp⟩ ?_ ?_
  · refine Shift.weak ?_
    simp only [wk, go_sem]
  · rintro i ⟨g1, g2⟩ J hJ
    refine go (N := 60) Tryz.ntmps271 300 ?_
    by_cases hi : (i : Int) < s.length
    · have hil : i < s.length := by omega
      have hgd : s.getD i 0 = s[i] := by simp [List.getD, hil]
      simp only [go_sem, hi, hgd]
      refine ⟨by omega, ?_⟩
      refine pcall1 (isCapital_pc _) rfl (N := 60) Tryz.ntmps271 rfl (go (N := 60) Tryz.ntmps271 300 ?_)
      cases c1 : capI (s[i].toNat : Int) with
      | true =>
        simp only [go_sem]
        rw [show (i : Int) + 1 = ((i + 1 : Nat) : Int) by omega]
        repeat refine And.intro (by omega) ?_
        refine ainv (hJ (i + 1) ⟨by omega, all_take_succ hil g2 (by simp only [okP, c1]; rfl)⟩ (by omega)) (Shift.weak ?_)
        simp only [wk, go_sem]
      | false =>
        simp only [go_sem, hi, hgd]
        refine ⟨by omega, ?_⟩
        refine pcall1 (isDigit_pc _) rfl (N := 60) Tryz.ntmps271 rfl (go (N := 60) Tryz.ntmps271 300 ?_)
        cases c2 : digI (s[i].toNat : Int) with
        | true =>
          simp only [go_sem]
          rw [show (i : Int) + 1 = ((i + 1 : Nat) : Int) by omega]
          repeat refine And.intro (by omega) ?_
          refine ainv (hJ (i + 1) ⟨by omega, all_take_succ hil g2 (by simp only [okP, c1, c2]; rfl)⟩ (by omega)) (Shift.weak ?_)
          simp only [wk, go_sem]
        | false =>
          cases c3 : ((s[i].toNat : Int) == 32) with
          | true =>
            have c3' : ((s[i].toNat : Int) != 32) = false := by simpa using c3
            simp only [go_sem, hi, hgd, c3']
            rw [show (i : Int) + 1 = ((i + 1 : Nat) : Int) by omega]
            repeat refine And.intro (by omega) ?_
            refine ainv (hJ (i + 1) ⟨by omega, all_take_succ hil g2 (by simp only [okP, c1, c2, c3]; rfl)⟩ (by omega)) (Shift.weak ?_)
            simp only [wk, go_sem]
          | false =>
            have c3' : ((s[i].toNat : Int) != 32) = true := by simpa using c3
            simp only [go_sem, hi, hgd, c3']
            refine ⟨by omega, by omega, ?_⟩
            refine pcall1 (indexByte_pc o (s[i].toNat : Int)) rfl (N := 60) Tryz.ntmps271 rfl (go (N := 60) Tryz.ntmps271 300 ?_)
            have hb : ((s[i].toNat : Int)).toNat.toUInt8 = s[i] := by simp
            rw [hb]
            cases c4 : decide (Lib.indexByte o s[i] < 0) with
            | false =>
              simp only [go_sem, c4]
              rw [show (i : Int) + 1 = ((i + 1 : Nat) : Int) by omega]
              repeat refine And.intro (by omega) ?_
              refine ainv (hJ (i + 1) ⟨by omega, all_take_succ hil g2 (by simp only [okP, c1, c2, c3, c4]; rfl)⟩ (by omega)) (Shift.weak ?_)
              simp only [wk, go_sem]
            | true =>
              simp only [go_sem, c4]
              refine aret [6] rfl ⟨?_, rfl⟩
              simp [resV, Av.get, all_false_at hil (p := okP o) (by simp only [okP, c1, c2, c3, c4]; rfl)]
    · simp only [go_sem, hi]
      have hall : s.all (okP o) = true := by rw [← g2, List.take_of_length_le (by omega)]
      exact aret [6] rfl ⟨by simp [resV, Av.get, hall], rfl⟩

def isSetL (s : List UInt8) : Bool := properL s 60 [39, 46, 45, 47] && (!Lib.contains s [32, 45, 32] && !Lib.hasSuffix s [32, 45])

theorem isSet_pch {S : Std} (hS : LibOk S) (s : List UInt8) (hs : s.length < 1000000) : PcH Tryz.prog S 220 [.str s] (· = .bool (isSetL s)) := by
  refine pch_intro (cth_intro Tryz.func220 rfl Tryz.ntmps220 hB220 (by simp) fun h ρ w hg => go (N := 15) Tryz.ntmps220 300 ?_)
  simp only [go_sem]
  refine pcallH1 hg (proper_pch hS s 60 [39, 46, 45, 47] hs) rfl (N := 15) Tryz.ntmps220 rfl (go (N := 15) Tryz.ntmps220 300 ?_)
  cases e1 : properL s 60 [39, 46, 45, 47] with
  | false =>
    simp only [go_sem]
    exact aret [2] rfl ⟨by simp [resV, Av.get, isSetL, e1], rfl⟩
  | true =>
    simp only [go_sem]
    refine pcallH1 hg (contains_pch hS s [32, 45, 32] (by omega)) rfl (N := 15) Tryz.ntmps220 rfl (go (N := 15) Tryz.ntmps220 300 ?_)
    cases e2 : Lib.contains s [32, 45, 32] with
    | true =>
      simp only [go_sem]
      exact aret [2] rfl ⟨by simp [resV, Av.get, isSetL, e2], rfl⟩
    | false =>
      simp only [go_sem]
      refine pcall1 (hasSuffix_pc s [32, 45] (by omega)) rfl (N := 15) Tryz.ntmps220 rfl (go (N := 15) Tryz.ntmps220 300 ?_)
      simp only [go_sem]
      exact aret [2] rfl ⟨by simp [resV, Av.get, isSetL, e1, e2], rfl⟩
end Go.Proofs.YtkfpiadgjbhcpaaGreatDoor
namespace Go.Proofs
open Go.Shelf
def Tryz.lays150_ren : Go.Shelf.Ren := ⟨fun | 150 => 247 | 153 => 289 | 152 => 302 | 226 => 308 | 227 => 233 | 228 => 280 | 137 => 299 | 119 => 312 | 224 => 278 | 225 => 277 | 217 => 276 | 266 => 300 | n => n, fun | 9 => 9 | 4 => 4 | 3 => 3 | 5 => 5 | 21 => 21 | 117 => 308 | 116 => 307 | 0 => 0 | 46 => 260 | 124 => 311 | n => n, fun | n => n⟩
theorem Tryz.lays150 : Go.Proofs.Lays.n150 Tryz.prog Tryz.lays150_ren := {
  mixed := by kernel_rfl
  f119 := Tryz.func312.trans (congrArg some (by kernel_rfl))
  f137 := Tryz.func299.trans (congrArg some (by kernel_rfl))
  f150 := Tryz.func247.trans (congrArg some (by kernel_rfl))
  f152 := Tryz.func302.trans (congrArg some (by kernel_rfl))
  f153 := Tryz.func289.trans (congrArg some (by kernel_rfl))
  f217 := Tryz.func276.trans (congrArg some (by kernel_rfl))
  f224 := Tryz.func278.trans (congrArg some (by kernel_rfl))
  f225 := Tryz.func277.trans (congrArg some (by kernel_rfl))
  f226 := Tryz.func308.trans (congrArg some (by kernel_rfl))
  f227 := Tryz.func233.trans (congrArg some (by kernel_rfl))
  f228 := Tryz.func280.trans (congrArg some (by kernel_rfl))
  f266 := Tryz.func300.trans (congrArg some (by kernel_rfl))
  t0 := Tryz.underlying0
  a0 := Tryz.isAgg0
  z0 := Tryz.sizeOf0
  v0 := Tryz.zeroValue0
  t3 := Tryz.underlying3
  a3 := Tryz.isAgg3
  z3 := Tryz.sizeOf3
  v3 := Tryz.zeroValue3
  t4 := Tryz.underlying4
  a4 := Tryz.isAgg4
  z4 := Tryz.sizeOf4
  v4 := Tryz.zeroValue4
  t5 := Tryz.underlying5
  a5 := Tryz.isAgg5
  z5 := Tryz.sizeOf5
  v5 := Tryz.zeroValue5
  t9 := Tryz.underlying9
  a9 := Tryz.isAgg9
  z9 := Tryz.sizeOf9
  v9 := Tryz.zeroValue9
  t21 := Tryz.underlying21
  a21 := Tryz.isAgg21
  z21 := Tryz.sizeOf21
  v21 := Tryz.zeroValue21
  t46 := Tryz.underlying260
  a46 := Tryz.isAgg260
  z46 := Tryz.sizeOf260
  v46 := Tryz.zeroValue260
  t116 := Tryz.underlying307
  a116 := Tryz.isAgg307
  z116 := Tryz.sizeOf307
  t117 := Tryz.underlying308
  a117 := Tryz.isAgg308
  z117 := Tryz.sizeOf308
  v117 := Tryz.zeroValue308
  t124 := Tryz.underlying311
  a124 := Tryz.isAgg311
  z124 := Tryz.sizeOf311
  v124 := Tryz.zeroValue311 }
def Tryz.lays160_ren : Go.Shelf.Ren := ⟨fun | 160 => 241 | 232 => 285 | 231 => 232 | 227 => 233 | 234 => 286 | 233 => 234 | 236 => 287 | 235 => 235 | 228 => 280 | 271 => 305 | 151 => 281 | 197 => 229 | 120 => 313 | 152 => 302 | 260 => 275 | 137 => 299 | 119 => 312 | 224 => 278 | 225 => 277 | 217 => 276 | 266 => 300 | n => n, fun | 9 => 9 | 4 => 4 | 3 => 3 | 5 => 5 | 117 => 308 | 116 => 307 | 0 => 0 | 124 => 311 | 21 => 21 | 105 => 302 | 46 => 260 | 119 => 318 | 139 => 362 | 138 => 361 | n => n, fun | 3 => 6 | 4 => 7 | n => n⟩
theorem Tryz.lays160 : Go.Proofs.Lays.n160 Tryz.prog Tryz.lays160_ren := {
  mixed := by kernel_rfl
  f119 := Tryz.func312.trans (congrArg some (by kernel_rfl))
  f120 := Tryz.func313.trans (congrArg some (by kernel_rfl))
  f137 := Tryz.func299.trans (congrArg some (by kernel_rfl))
  f151 := Tryz.func281.trans (congrArg some (by kernel_rfl))
  f152 := Tryz.func302.trans (congrArg some (by kernel_rfl))
  f160 := Tryz.func241.trans (congrArg some (by kernel_rfl))
  f197 := Tryz.func229.trans (congrArg some (by kernel_rfl))
  f217 := Tryz.func276.trans (congrArg some (by kernel_rfl))
  f224 := Tryz.func278.trans (congrArg some (by kernel_rfl))
  f225 := Tryz.func277.trans (congrArg some (by kernel_rfl))
  f227 := Tryz.func233.trans (congrArg some (by kernel_rfl))
  f228 := Tryz.func280.trans (congrArg some (by kernel_rfl))
  f231 := Tryz.func232.trans (congrArg some (by kernel_rfl))
  f232 := Tryz.func285.trans (congrArg some (by kernel_rfl))
  f233 := Tryz.func234.trans (congrArg some (by kernel_rfl))
  f234 := Tryz.func286.trans (congrArg some (by kernel_rfl))
  f235 := Tryz.func235.trans (congrArg some (by kernel_rfl))
  f236 := Tryz.func287.trans (congrArg some (by kernel_rfl))
  f260 := Tryz.func275.trans (congrArg some (by kernel_rfl))
  f266 := Tryz.func300.trans (congrArg some (by kernel_rfl))
  f271 := Tryz.func305.trans (congrArg some (by kernel_rfl))
  t0 := Tryz.underlying0
  a0 := Tryz.isAgg0
  z0 := Tryz.sizeOf0
  v0 := Tryz.zeroValue0
  t3 := Tryz.underlying3
  a3 := Tryz.isAgg3
  z3 := Tryz.sizeOf3
  v3 := Tryz.zeroValue3
  t4 := Tryz.underlying4
  a4 := Tryz.isAgg4
  z4 := Tryz.sizeOf4
  v4 := Tryz.zeroValue4
  t5 := Tryz.underlying5
  a5 := Tryz.isAgg5
  z5 := Tryz.sizeOf5
  v5 := Tryz.zeroValue5
  t9 := Tryz.underlying9
  a9 := Tryz.isAgg9
  z9 := Tryz.sizeOf9
  v9 := Tryz.zeroValue9
  t21 := Tryz.underlying21
  a21 := Tryz.isAgg21
  z21 := Tryz.sizeOf21
  v21 := Tryz.zeroValue21
  t46 := Tryz.underlying260
  a46 := Tryz.isAgg260
  z46 := Tryz.sizeOf260
  v46 := Tryz.zeroValue260
  t105 := Tryz.underlying302
  a105 := Tryz.isAgg302
  z105 := Tryz.sizeOf302
  v105 := Tryz.zeroValue302
  t116 := Tryz.underlying307
  a116 := Tryz.isAgg307
  z116 := Tryz.sizeOf307
  t117 := Tryz.underlying308
  a117 := Tryz.isAgg308
  z117 := Tryz.sizeOf308
  v117 := Tryz.zeroValue308
  t119 := Tryz.underlying318
  a119 := Tryz.isAgg318
  z119 := Tryz.sizeOf318
  t124 := Tryz.underlying311
  a124 := Tryz.isAgg311
  z124 := Tryz.sizeOf311
  v124 := Tryz.zeroValue311
  t138 := Tryz.underlying361
  a138 := Tryz.isAgg361
  z138 := Tryz.sizeOf361
  v138 := Tryz.zeroValue361
  t139 := Tryz.underlying362
  a139 := Tryz.isAgg362
  z139 := Tryz.sizeOf362
  v139 := Tryz.zeroValue362
  g3 := by kernel_rfl
  g4 := by kernel_rfl }
def Tryz.lays161_ren : Go.Shelf.Ren := ⟨fun | 161 => 183 | 231 => 232 | 227 => 233 | 233 => 234 | 235 => 235 | 228 => 280 | 197 => 229 | 151 => 281 | 260 => 275 | 152 => 302 | 137 => 299 | 119 => 312 | 224 => 278 | 225 => 277 | 217 => 276 | 266 => 300 | n => n, fun | 9 => 9 | 4 => 4 | 3 => 3 | 5 => 5 | 117 => 308 | 116 => 307 | 0 => 0 | 124 => 311 | 105 => 302 | 21 => 21 | 119 => 318 | 46 => 260 | 139 => 362 | 138 => 361 | n => n, fun | 3 => 6 | 4 => 7 | n => n⟩
theorem Tryz.lays161 : Go.Proofs.Lays.n161 Tryz.prog Tryz.lays161_ren := {
  mixed := by kernel_rfl
  f119 := Tryz.func312.trans (congrArg some (by kernel_rfl))
  f137 := Tryz.func299.trans (congrArg some (by kernel_rfl))
  f151 := Tryz.func281.trans (congrArg some (by kernel_rfl))
  f152 := Tryz.func302.trans (congrArg some (by kernel_rfl))
  f161 := Tryz.func183.trans (congrArg some (by kernel_rfl))
  f197 := Tryz.func229.trans (congrArg some (by kernel_rfl))
  f217 := Tryz.func276.trans (congrArg some (by kernel_rfl))
  f224 := Tryz.func278.trans (congrArg some (by kernel_rfl))
  f225 := Tryz.func277.trans (congrArg some (by kernel_rfl))
  f227 := Tryz.func233.trans (congrArg some (by kernel_rfl))
  f228 := Tryz.func280.trans (congrArg some (by kernel_rfl))
  f231 := Tryz.func232.trans (congrArg some (by kernel_rfl))
  f233 := Tryz.func234.trans (congrArg some (by kernel_rfl))
  f235 := Tryz.func235.trans (congrArg some (by kernel_rfl))
  f260 := Tryz.func275.trans (congrArg some (by kernel_rfl))
  f266 := Tryz.func300.trans (congrArg some (by kernel_rfl))
  t0 := Tryz.underlying0
  a0 := Tryz.isAgg0
  z0 := Tryz.sizeOf0
  v0 := Tryz.zeroValue0
  t3 := Tryz.underlying3
  a3 := Tryz.isAgg3
  z3 := Tryz.sizeOf3
  v3 := Tryz.zeroValue3
  t4 := Tryz.underlying4
  a4 := Tryz.isAgg4
  z4 := Tryz.sizeOf4
  v4 := Tryz.zeroValue4
  t5 := Tryz.underlying5
  a5 := Tryz.isAgg5
  z5 := Tryz.sizeOf5
  v5 := Tryz.zeroValue5
  t9 := Tryz.underlying9
  a9 := Tryz.isAgg9
  z9 := Tryz.sizeOf9
  v9 := Tryz.zeroValue9
  t21 := Tryz.underlying21
  a21 := Tryz.isAgg21
  z21 := Tryz.sizeOf21
  v21 := Tryz.zeroValue21
  t46 := Tryz.underlying260
  a46 := Tryz.isAgg260
  z46 := Tryz.sizeOf260
  v46 := Tryz.zeroValue260
  t105 := Tryz.underlying302
  a105 := Tryz.isAgg302
  z105 := Tryz.sizeOf302
  v105 := Tryz.zeroValue302
  t116 := Tryz.underlying307
  a116 := Tryz.isAgg307
  z116 := Tryz.sizeOf307
  t117 := Tryz.underlying308
  a117 := Tryz.isAgg308
  z117 := Tryz.sizeOf308
  v117 := Tryz.zeroValue308
  t119 := Tryz.underlying318
  a119 := Tryz.isAgg318
  z119 := Tryz.sizeOf318
  t124 := Tryz.underlying311
  a124 := Tryz.isAgg311
  z124 := Tryz.sizeOf311
  v124 := Tryz.zeroValue311
  t138 := Tryz.underlying361
  a138 := Tryz.isAgg361
  z138 := Tryz.sizeOf361
  v138 := Tryz.zeroValue361
  t139 := Tryz.underlying362
  a139 := Tryz.isAgg362
  z139 := Tryz.sizeOf362
  v139 := Tryz.zeroValue362
  g3 := by kernel_rfl
  g4 := by kernel_rfl }
def Tryz.laysC172_ren : Go.Shelf.Ren := ⟨fun | 172 => 121 | 244 => 184 | 245 => 185 | 247 => 236 | 279 => 237 | 280 => 238 | 281 => 239 | 282 => 240 | 287 => 282 | 316 => 283 | 171 => 76 | 205 => 284 | 321 => 303 | 322 => 304 | 243 => 132 | 246 => 199 | 283 => 264 | 284 => 265 | 285 => 266 | 286 => 267 | 129 => 263 | 317 => 295 | 318 => 296 | 319 => 297 | 320 => 298 | 337 => 310 | 338 => 311 | n => n, fun | 9 => 9 | 3 => 3 | 75 => 134 | 76 => 135 | 4 => 4 | 5 => 5 | 167 => 312 | 37 => 130 | 0 => 0 | 85 => 313 | 2 => 2 | 168 => 315 | 53 => 298 | 175 => 340 | 46 => 260 | 210 => 344 | 127 => 203 | 145 => 368 | 143 => 366 | 21 => 21 | 171 => 333 | 173 => 335 | 212 => 358 | 51 => 295 | 20 => 20 | 213 => 359 | 232 => 384 | 233 => 385 | 80 => 140 | n => n, fun | 15 => 2 | 16 => 3 | 17 => 5 | 18 => 8 | 19 => 9 | n => n⟩
theorem Tryz.laysC172 : Go.Proofs.LaysC.n172 Tryz.prog Tryz.laysC172_ren := {
  mixed := by kernel_rfl
  f129 := Tryz.func263.trans (congrArg some (by kernel_rfl))
  f171 := Tryz.func76.trans (congrArg some (by kernel_rfl))
  f172 := Tryz.func121.trans (congrArg some (by kernel_rfl))
  f205 := Tryz.func284.trans (congrArg some (by kernel_rfl))
  f243 := Tryz.func132.trans (congrArg some (by kernel_rfl))
  f244 := Tryz.func184.trans (congrArg some (by kernel_rfl))
  f245 := Tryz.func185.trans (congrArg some (by kernel_rfl))
  f246 := Tryz.func199.trans (congrArg some (by kernel_rfl))
  f247 := Tryz.func236.trans (congrArg some (by kernel_rfl))
  f279 := Tryz.func237.trans (congrArg some (by kernel_rfl))
  f280 := Tryz.func238.trans (congrArg some (by kernel_rfl))
  f281 := Tryz.func239.trans (congrArg some (by kernel_rfl))
  f282 := Tryz.func240.trans (congrArg some (by kernel_rfl))
  f283 := Tryz.func264.trans (congrArg some (by kernel_rfl))
  f284 := Tryz.func265.trans (congrArg some (by kernel_rfl))
  f285 := Tryz.func266.trans (congrArg some (by kernel_rfl))
  f286 := Tryz.func267.trans (congrArg some (by kernel_rfl))
  f287 := Tryz.func282.trans (congrArg some (by kernel_rfl))
  f316 := Tryz.func283.trans (congrArg some (by kernel_rfl))
  f317 := Tryz.func295.trans (congrArg some (by kernel_rfl))
  f318 := Tryz.func296.trans (congrArg some (by kernel_rfl))
  f319 := Tryz.func297.trans (congrArg some (by kernel_rfl))
  f320 := Tryz.func298.trans (congrArg some (by kernel_rfl))
  f321 := Tryz.func303.trans (congrArg some (by kernel_rfl))
  f322 := Tryz.func304.trans (congrArg some (by kernel_rfl))
  f337 := Tryz.func310.trans (congrArg some (by kernel_rfl))
  f338 := Tryz.func311.trans (congrArg some (by kernel_rfl))
  t0 := Tryz.underlying0
  a0 := Tryz.isAgg0
  z0 := Tryz.sizeOf0
  v0 := Tryz.zeroValue0
  t2 := Tryz.underlying2
  a2 := Tryz.isAgg2
  z2 := Tryz.sizeOf2
  v2 := Tryz.zeroValue2
  t3 := Tryz.underlying3
  a3 := Tryz.isAgg3
  z3 := Tryz.sizeOf3
  v3 := Tryz.zeroValue3
  t4 := Tryz.underlying4
  a4 := Tryz.isAgg4
  z4 := Tryz.sizeOf4
  v4 := Tryz.zeroValue4
  t5 := Tryz.underlying5
  a5 := Tryz.isAgg5
  z5 := Tryz.sizeOf5
  v5 := Tryz.zeroValue5
  t9 := Tryz.underlying9
  a9 := Tryz.isAgg9
  z9 := Tryz.sizeOf9
  v9 := Tryz.zeroValue9
  t20 := Tryz.underlying20
  a20 := Tryz.isAgg20
  z20 := Tryz.sizeOf20
  v20 := Tryz.zeroValue20
  t21 := Tryz.underlying21
  a21 := Tryz.isAgg21
  z21 := Tryz.sizeOf21
  v21 := Tryz.zeroValue21
  t37 := Tryz.underlying130
  a37 := Tryz.isAgg130
  z37 := Tryz.sizeOf130
  v37 := Tryz.zeroValue130
  t46 := Tryz.underlying260
  a46 := Tryz.isAgg260
  z46 := Tryz.sizeOf260
  v46 := Tryz.zeroValue260
  t51 := Tryz.underlying295
  a51 := Tryz.isAgg295
  z51 := Tryz.sizeOf295
  v51 := Tryz.zeroValue295
  t53 := Tryz.underlying298
  a53 := Tryz.isAgg298
  z53 := Tryz.sizeOf298
  v53 := Tryz.zeroValue298
  t75 := Tryz.underlying134
  a75 := Tryz.isAgg134
  z75 := Tryz.sizeOf134
  v75 := Tryz.zeroValue134
  t76 := Tryz.underlying135
  a76 := Tryz.isAgg135
  z76 := Tryz.sizeOf135
  v76 := Tryz.zeroValue135
  t85 := Tryz.underlying313
  a85 := Tryz.isAgg313
  z85 := Tryz.sizeOf313
  v85 := Tryz.zeroValue313
  t127 := Tryz.underlying203
  a127 := Tryz.isAgg203
  z127 := Tryz.sizeOf203
  v127 := Tryz.zeroValue203
  t143 := Tryz.underlying366
  a143 := Tryz.isAgg366
  z143 := Tryz.sizeOf366
  v143 := Tryz.zeroValue366
  t145 := Tryz.underlying368
  a145 := Tryz.isAgg368
  z145 := Tryz.sizeOf368
  v145 := Tryz.zeroValue368
  t167 := Tryz.underlying312
  a167 := Tryz.isAgg312
  z167 := Tryz.sizeOf312
  v167 := Tryz.zeroValue312
  t168 := Tryz.underlying315
  a168 := Tryz.isAgg315
  z168 := Tryz.sizeOf315
  v168 := Tryz.zeroValue315
  t171 := Tryz.underlying333
  a171 := Tryz.isAgg333
  z171 := Tryz.sizeOf333
  v171 := Tryz.zeroValue333
  t173 := Tryz.underlying335
  a173 := Tryz.isAgg335
  z173 := Tryz.sizeOf335
  v173 := Tryz.zeroValue335
  t175 := Tryz.underlying340
  a175 := Tryz.isAgg340
  z175 := Tryz.sizeOf340
  v175 := Tryz.zeroValue340
  t210 := Tryz.underlying344
  a210 := Tryz.isAgg344
  z210 := Tryz.sizeOf344
  v210 := Tryz.zeroValue344
  t212 := Tryz.underlying358
  a212 := Tryz.isAgg358
  z212 := Tryz.sizeOf358
  v212 := Tryz.zeroValue358
  t213 := Tryz.underlying359
  a213 := Tryz.isAgg359
  z213 := Tryz.sizeOf359
  t232 := Tryz.underlying384
  a232 := Tryz.isAgg384
  z232 := Tryz.sizeOf384
  v232 := Tryz.zeroValue384
  t233 := Tryz.underlying385
  a233 := Tryz.isAgg385
  z233 := Tryz.sizeOf385
  v233 := Tryz.zeroValue385
  g15 := by kernel_rfl
  g16 := by kernel_rfl
  g17 := by kernel_rfl
  g18 := by kernel_rfl
  g19 := by kernel_rfl
  t80 := Tryz.underlying140
  a80 := Tryz.isAgg140
  z80 := Tryz.sizeOf140
  v80 := Tryz.zeroValue140
  i0 := by kernel_rfl
  i2 := by kernel_rfl
  i3 := by kernel_rfl
  i4 := by kernel_rfl
  i5 := by kernel_rfl
  i9 := by kernel_rfl
  i20 := by kernel_rfl
  i21 := by kernel_rfl
  i37 := by kernel_rfl
  i46 := by kernel_rfl
  i51 := by kernel_rfl
  i53 := by kernel_rfl
  i75 := by kernel_rfl
  i76 := by kernel_rfl
  i80 := by kernel_rfl
  i85 := by kernel_rfl
  i127 := by kernel_rfl
  i143 := by kernel_rfl
  i145 := by kernel_rfl
  i167 := by kernel_rfl
  i168 := by kernel_rfl
  i171 := by kernel_rfl
  i173 := by kernel_rfl
  i175 := by kernel_rfl
  i210 := by kernel_rfl
  i212 := by kernel_rfl
  i232 := by kernel_rfl
  i233 := by kernel_rfl
  m15 := by kernel_rfl
  m16 := by kernel_rfl
  m17 := by kernel_rfl
  m18 := by kernel_rfl
  m19 := by kernel_rfl
  c0 := by kernel_rfl
  c2 := by kernel_rfl
  c3 := by kernel_rfl
  c4 := by kernel_rfl
  c5 := by kernel_rfl
  c9 := by kernel_rfl
  c20 := by kernel_rfl
  c21 := by kernel_rfl
  c37 := by kernel_rfl
  c46 := by kernel_rfl
  c51 := by kernel_rfl
  c53 := by kernel_rfl
  c75 := by kernel_rfl
  c76 := by kernel_rfl
  c80 := by kernel_rfl
  c85 := by kernel_rfl
  c127 := by kernel_rfl
  c143 := by kernel_rfl
  c145 := by kernel_rfl
  c167 := by kernel_rfl
  c168 := by kernel_rfl
  c171 := by kernel_rfl
  c173 := by kernel_rfl
  c175 := by kernel_rfl
  c210 := by kernel_rfl
  c212 := by kernel_rfl
  c213 := by kernel_rfl
  c232 := by kernel_rfl
  c233 := by kernel_rfl }
end Go.Proofs
