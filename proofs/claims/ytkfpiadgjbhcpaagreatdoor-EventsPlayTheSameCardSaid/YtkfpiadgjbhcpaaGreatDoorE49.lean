/- The reading of a code. Turned from the seat of CodesRise by genIc.py. Own work of this seat. -/
import Derived.Test.YtkfpiadgjbhcpaaGreatDoorE48
import Derived.Test.YtkfpiadgjbhcpaaGreatDoorE22
set_option maxRecDepth 100000
set_option linter.unusedSimpArgs false
set_option linter.unusedVariables false
namespace Go.Proofs.YtkfpiadgjbhcpaaGreatDoor
open Go Go.Av Go.RowKit

/-- a digit's byte -/
def isDg (p : UInt8) : Prop := ¬ (p.toNat : Int) < 48 ∧ ¬ 57 < (p.toNat : Int)
def val2 (p q : UInt8) : Int := 10 * ((p.toNat : Int) - 48) + ((q.toNat : Int) - 48)
theorem val2_le {p q : UInt8} (hp : isDg p) (hq : isDg q) : 0 ≤ val2 p q ∧ val2 p q ≤ 99 := by
  unfold isDg at hp hq; unfold val2; omega
set_option maxHeartbeats 1000000 in
theorem readCode_pc1 (p0 q0 p1 q1 p2 q2 co p3 q3 : UInt8) (va vb vc vd : Int) (hva : val2 p0 q0 = va) (hvb : val2 p1 q1 = vb) (hvc : val2 p2 q2 = vc) (hvd : val2 p3 q3 = vd)
    (gp0 : isDg p0) (gq0 : isDg q0) (gp1 : isDg p1) (gq1 : isDg q1) (gp2 : isDg p2) (gq2 : isDg q2) (gp3 : isDg p3) (gq3 : isDg q3)
    (h0 : 0 ≤ (60 * (60 * va + vb) + vc) * 24 + vd) (h1 : (60 * (60 * va + vb) + vc) * 24 + vd < dayR 1) (hcd : codeL 1 ((60 * (60 * va + vb) + vc) * 24 + vd) = [p0, q0, 58, p1, q1, 58, p2, q2, co, p3, q3]) :
    Pc Tryz.prog 118 [.int .i64 1, .str [p0, q0, 58, p1, q1, 58, p2, q2, co, p3, q3]] (· = .tup [.int .i64 ((60 * (60 * va + vb) + vc) * 24 + vd), .bool true]) := by
  refine pc_intro (ct_intro Tryz.func118 rfl Tryz.ntmps118 hB118 (by simp) fun h ρ w => goB (N := 94) Tryz.ntmps118 300 ?_)
  have ba := val2_le gp0 gq0
  have bb := val2_le gp1 gq1
  have bc := val2_le gp2 gq2
  have bd := val2_le gp3 gq3
  rw [hva] at ba; rw [hvb] at bb; rw [hvc] at bc; rw [hvd] at bd
  unfold isDg at gp0 gq0 gp1 gq1 gp2 gq2 gp3 gq3
  unfold val2 at hva hvb hvc hvd
  simp only [go_sem]
  refine aloop (fun i : Nat => 5 - i) (fun i => [(0, .int .i64 1), (1, .str [p0, q0, 58, p1, q1, 58, p2, q2, co, p3, q3]), (6, .ptr 0 1 0 0), (15, .int .i64 i)])
    (fun i => [.arr 4 [.agg [.int .i64 (if 0 < i then va else 0), .int .i64 (if 1 < i then vb else 0), .int .i64 (if 2 < i then vc else 0), .int .i64 (if 3 < i then vd else 0)]]]) (fun i => i ≤ 4) 0 (by omega) (Shift.weak ?_) ?_
  · simp only [wk, go_sem]
  · intro i hi J hJ
    obtain rfl | rfl | rfl | rfl | rfl : i = 0 ∨ i = 1 ∨ i = 2 ∨ i = 3 ∨ i = 4 := by omega
    · refine goB (N := 94) Tryz.ntmps118 300 ?_
      simp only [go_sem]
      refine adraw [] mixed (by decide) (N := 94) Tryz.ntmps118 (by decide) 100 ?_
      simp only [go_sem]
      refine goB (N := 94) Tryz.ntmps118 300 ?_
      simp only [go_sem, gp0.1, gp0.2, gq0.1, gq0.2, hva]
      repeat refine And.intro (by first | omega | rfl | (simp; done) | (simp; omega)) ?_
      refine ainv (hJ 1 (by omega) (by omega)) (Shift.weak ?_)
      simp only [wk, go_sem]
    · refine goB (N := 94) Tryz.ntmps118 300 ?_
      simp only [go_sem]
      refine adraw [] mixed (by decide) (N := 94) Tryz.ntmps118 (by decide) 100 ?_
      simp only [go_sem]
      refine goB (N := 94) Tryz.ntmps118 300 ?_
      simp only [go_sem, gp1.1, gp1.2, gq1.1, gq1.2, hvb]
      repeat refine And.intro (by first | omega | rfl | (simp; done) | (simp; omega)) ?_
      refine ainv (hJ 2 (by omega) (by omega)) (Shift.weak ?_)
      simp only [wk, go_sem]
    · refine goB (N := 94) Tryz.ntmps118 300 ?_
      simp only [go_sem]
      refine adraw [] mixed (by decide) (N := 94) Tryz.ntmps118 (by decide) 100 ?_
      simp only [go_sem]
      refine goB (N := 94) Tryz.ntmps118 300 ?_
      simp only [go_sem, gp2.1, gp2.2, gq2.1, gq2.2, hvc]
      repeat refine And.intro (by first | omega | rfl | (simp; done) | (simp; omega)) ?_
      refine ainv (hJ 3 (by omega) (by omega)) (Shift.weak ?_)
      simp only [wk, go_sem]
    · refine goB (N := 94) Tryz.ntmps118 300 ?_
      simp only [go_sem]
      refine adraw [] mixed (by decide) (N := 94) Tryz.ntmps118 (by decide) 100 ?_
      simp only [go_sem]
      refine goB (N := 94) Tryz.ntmps118 300 ?_
      simp only [go_sem, gp3.1, gp3.2, gq3.1, gq3.2, hvd]
      repeat refine And.intro (by first | omega | rfl | (simp; done) | (simp; omega)) ?_
      refine ainv (hJ 4 (by omega) (by omega)) (Shift.weak ?_)
      simp only [wk, go_sem]
    · refine goB (N := 94) Tryz.ntmps118 300 ?_
      simp only [go_sem]
      repeat refine And.intro (by first | omega | rfl | (simp; done) | (simp; omega)) ?_
      refine adraw [.int .i64 24] mixed (by decide) (N := 94) Tryz.ntmps118 (by decide) 100 ?_
      simp only [go_sem]
      repeat refine And.intro (by first | omega | rfl | exact (counted_pc 1 (by decide)).at | (simp; done) | (simp; omega)) ?_
      refine goB (N := 94) Tryz.ntmps118 300 ?_
      simp only [go_sem, h0]
      refine pcall1 (frames_pc 1 (by decide)) rfl (N := 94) Tryz.ntmps118 rfl (goB (N := 94) Tryz.ntmps118 300 ?_)
      simp only [go_sem, h1]
      refine pcall1 (code_pc1 _ h0 (by simpa [dayR, cntR] using h1)) rfl (N := 94) Tryz.ntmps118 rfl (goB (N := 94) Tryz.ntmps118 300 ?_)
      simp only [go_sem, hcd]
      exact aret [4, 5] rfl ⟨rfl, rfl⟩
set_option maxHeartbeats 1000000 in
theorem readCode_pc2 (p0 q0 p1 q1 p2 q2 co p3 q3 : UInt8) (va vb vc vd : Int) (hva : val2 p0 q0 = va) (hvb : val2 p1 q1 = vb) (hvc : val2 p2 q2 = vc) (hvd : val2 p3 q3 = vd)
    (gp0 : isDg p0) (gq0 : isDg q0) (gp1 : isDg p1) (gq1 : isDg q1) (gp2 : isDg p2) (gq2 : isDg q2) (gp3 : isDg p3) (gq3 : isDg q3)
    (h0 : 0 ≤ (60 * (60 * va + vb) + vc) * 25 + vd) (h1 : (60 * (60 * va + vb) + vc) * 25 + vd < dayR 2) (hcd : codeL 2 ((60 * (60 * va + vb) + vc) * 25 + vd) = [p0, q0, 58, p1, q1, 58, p2, q2, co, p3, q3]) :
    Pc Tryz.prog 118 [.int .i64 2, .str [p0, q0, 58, p1, q1, 58, p2, q2, co, p3, q3]] (· = .tup [.int .i64 ((60 * (60 * va + vb) + vc) * 25 + vd), .bool true]) := by
  refine pc_intro (ct_intro Tryz.func118 rfl Tryz.ntmps118 hB118 (by simp) fun h ρ w => goB (N := 94) Tryz.ntmps118 300 ?_)
  have ba := val2_le gp0 gq0
  have bb := val2_le gp1 gq1
  have bc := val2_le gp2 gq2
  have bd := val2_le gp3 gq3
  rw [hva] at ba; rw [hvb] at bb; rw [hvc] at bc; rw [hvd] at bd
  unfold isDg at gp0 gq0 gp1 gq1 gp2 gq2 gp3 gq3
  unfold val2 at hva hvb hvc hvd
  simp only [go_sem]
  refine aloop (fun i : Nat => 5 - i) (fun i => [(0, .int .i64 2), (1, .str [p0, q0, 58, p1, q1, 58, p2, q2, co, p3, q3]), (6, .ptr 0 1 0 0), (15, .int .i64 i)])
    (fun i => [.arr 4 [.agg [.int .i64 (if 0 < i then va else 0), .int .i64 (if 1 < i then vb else 0), .int .i64 (if 2 < i then vc else 0), .int .i64 (if 3 < i then vd else 0)]]]) (fun i => i ≤ 4) 0 (by omega) (Shift.weak ?_) ?_
  · simp only [wk, go_sem]
  · intro i hi J hJ
    obtain rfl | rfl | rfl | rfl | rfl : i = 0 ∨ i = 1 ∨ i = 2 ∨ i = 3 ∨ i = 4 := by omega
    · refine goB (N := 94) Tryz.ntmps118 300 ?_
      simp only [go_sem]
      refine adraw [] mixed (by decide) (N := 94) Tryz.ntmps118 (by decide) 100 ?_
      simp only [go_sem]
      refine goB (N := 94) Tryz.ntmps118 300 ?_
      simp only [go_sem, gp0.1, gp0.2, gq0.1, gq0.2, hva]
      repeat refine And.intro (by first | omega | rfl | (simp; done) | (simp; omega)) ?_
      refine ainv (hJ 1 (by omega) (by omega)) (Shift.weak ?_)
      simp only [wk, go_sem]
    · refine goB (N := 94) Tryz.ntmps118 300 ?_
      simp only [go_sem]
      refine adraw [] mixed (by decide) (N := 94) Tryz.ntmps118 (by decide) 100 ?_
      simp only [go_sem]
      refine goB (N := 94) Tryz.ntmps118 300 ?_
      simp only [go_sem, gp1.1, gp1.2, gq1.1, gq1.2, hvb]
      repeat refine And.intro (by first | omega | rfl | (simp; done) | (simp; omega)) ?_
      refine ainv (hJ 2 (by omega) (by omega)) (Shift.weak ?_)
      simp only [wk, go_sem]
    · refine goB (N := 94) Tryz.ntmps118 300 ?_
      simp only [go_sem]
      refine adraw [] mixed (by decide) (N := 94) Tryz.ntmps118 (by decide) 100 ?_
      simp only [go_sem]
      refine goB (N := 94) Tryz.ntmps118 300 ?_
      simp only [go_sem, gp2.1, gp2.2, gq2.1, gq2.2, hvc]
      repeat refine And.intro (by first | omega | rfl | (simp; done) | (simp; omega)) ?_
      refine ainv (hJ 3 (by omega) (by omega)) (Shift.weak ?_)
      simp only [wk, go_sem]
    · refine goB (N := 94) Tryz.ntmps118 300 ?_
      simp only [go_sem]
      refine adraw [] mixed (by decide) (N := 94) Tryz.ntmps118 (by decide) 100 ?_
      simp only [go_sem]
      refine goB (N := 94) Tryz.ntmps118 300 ?_
      simp only [go_sem, gp3.1, gp3.2, gq3.1, gq3.2, hvd]
      repeat refine And.intro (by first | omega | rfl | (simp; done) | (simp; omega)) ?_
      refine ainv (hJ 4 (by omega) (by omega)) (Shift.weak ?_)
      simp only [wk, go_sem]
    · refine goB (N := 94) Tryz.ntmps118 300 ?_
      simp only [go_sem]
      repeat refine And.intro (by first | omega | rfl | (simp; done) | (simp; omega)) ?_
      refine adraw [.int .i64 25] mixed (by decide) (N := 94) Tryz.ntmps118 (by decide) 100 ?_
      simp only [go_sem]
      repeat refine And.intro (by first | omega | rfl | exact (counted_pc 2 (by decide)).at | (simp; done) | (simp; omega)) ?_
      refine goB (N := 94) Tryz.ntmps118 300 ?_
      simp only [go_sem, h0]
      refine pcall1 (frames_pc 2 (by decide)) rfl (N := 94) Tryz.ntmps118 rfl (goB (N := 94) Tryz.ntmps118 300 ?_)
      simp only [go_sem, h1]
      refine pcall1 (code_pc2 _ h0 (by simpa [dayR, cntR] using h1)) rfl (N := 94) Tryz.ntmps118 rfl (goB (N := 94) Tryz.ntmps118 300 ?_)
      simp only [go_sem, hcd]
      exact aret [4, 5] rfl ⟨rfl, rfl⟩
set_option maxHeartbeats 1000000 in
theorem readCode_pc3 (p0 q0 p1 q1 p2 q2 co p3 q3 : UInt8) (va vb vc vd : Int) (hva : val2 p0 q0 = va) (hvb : val2 p1 q1 = vb) (hvc : val2 p2 q2 = vc) (hvd : val2 p3 q3 = vd)
    (gp0 : isDg p0) (gq0 : isDg q0) (gp1 : isDg p1) (gq1 : isDg q1) (gp2 : isDg p2) (gq2 : isDg q2) (gp3 : isDg p3) (gq3 : isDg q3)
    (h0 : 0 ≤ (60 * (60 * va + vb) + vc) * 30 + vd) (h1 : (60 * (60 * va + vb) + vc) * 30 + vd < dayR 3) (hcd : codeL 3 ((60 * (60 * va + vb) + vc) * 30 + vd) = [p0, q0, 58, p1, q1, 58, p2, q2, co, p3, q3]) :
    Pc Tryz.prog 118 [.int .i64 3, .str [p0, q0, 58, p1, q1, 58, p2, q2, co, p3, q3]] (· = .tup [.int .i64 ((60 * (60 * va + vb) + vc) * 30 + vd), .bool true]) := by
  refine pc_intro (ct_intro Tryz.func118 rfl Tryz.ntmps118 hB118 (by simp) fun h ρ w => goB (N := 94) Tryz.ntmps118 300 ?_)
  have ba := val2_le gp0 gq0
  have bb := val2_le gp1 gq1
  have bc := val2_le gp2 gq2
  have bd := val2_le gp3 gq3
  rw [hva] at ba; rw [hvb] at bb; rw [hvc] at bc; rw [hvd] at bd
  unfold isDg at gp0 gq0 gp1 gq1 gp2 gq2 gp3 gq3
  unfold val2 at hva hvb hvc hvd
  simp only [go_sem]
  refine aloop (fun i : Nat => 5 - i) (fun i => [(0, .int .i64 3), (1, .str [p0, q0, 58, p1, q1, 58, p2, q2, co, p3, q3]), (6, .ptr 0 1 0 0), (15, .int .i64 i)])
    (fun i => [.arr 4 [.agg [.int .i64 (if 0 < i then va else 0), .int .i64 (if 1 < i then vb else 0), .int .i64 (if 2 < i then vc else 0), .int .i64 (if 3 < i then vd else 0)]]]) (fun i => i ≤ 4) 0 (by omega) (Shift.weak ?_) ?_
  · simp only [wk, go_sem]
  · intro i hi J hJ
    obtain rfl | rfl | rfl | rfl | rfl : i = 0 ∨ i = 1 ∨ i = 2 ∨ i = 3 ∨ i = 4 := by omega
    · refine goB (N := 94) Tryz.ntmps118 300 ?_
      simp only [go_sem]
      refine adraw [] mixed (by decide) (N := 94) Tryz.ntmps118 (by decide) 100 ?_
      simp only [go_sem]
      refine goB (N := 94) Tryz.ntmps118 300 ?_
      simp only [go_sem, gp0.1, gp0.2, gq0.1, gq0.2, hva]
      repeat refine And.intro (by first | omega | rfl | (simp; done) | (simp; omega)) ?_
      refine ainv (hJ 1 (by omega) (by omega)) (Shift.weak ?_)
      simp only [wk, go_sem]
    · refine goB (N := 94) Tryz.ntmps118 300 ?_
      simp only [go_sem]
      refine adraw [] mixed (by decide) (N := 94) Tryz.ntmps118 (by decide) 100 ?_
      simp only [go_sem]
      refine goB (N := 94) Tryz.ntmps118 300 ?_
      simp only [go_sem, gp1.1, gp1.2, gq1.1, gq1.2, hvb]
      repeat refine And.intro (by first | omega | rfl | (simp; done) | (simp; omega)) ?_
      refine ainv (hJ 2 (by omega) (by omega)) (Shift.weak ?_)
      simp only [wk, go_sem]
    · refine goB (N := 94) Tryz.ntmps118 300 ?_
      simp only [go_sem]
      refine adraw [] mixed (by decide) (N := 94) Tryz.ntmps118 (by decide) 100 ?_
      simp only [go_sem]
      refine goB (N := 94) Tryz.ntmps118 300 ?_
      simp only [go_sem, gp2.1, gp2.2, gq2.1, gq2.2, hvc]
      repeat refine And.intro (by first | omega | rfl | (simp; done) | (simp; omega)) ?_
      refine ainv (hJ 3 (by omega) (by omega)) (Shift.weak ?_)
      simp only [wk, go_sem]
    · refine goB (N := 94) Tryz.ntmps118 300 ?_
      simp only [go_sem]
      refine adraw [] mixed (by decide) (N := 94) Tryz.ntmps118 (by decide) 100 ?_
      simp only [go_sem]
      refine goB (N := 94) Tryz.ntmps118 300 ?_
      simp only [go_sem, gp3.1, gp3.2, gq3.1, gq3.2, hvd]
      repeat refine And.intro (by first | omega | rfl | (simp; done) | (simp; omega)) ?_
      refine ainv (hJ 4 (by omega) (by omega)) (Shift.weak ?_)
      simp only [wk, go_sem]
    · refine goB (N := 94) Tryz.ntmps118 300 ?_
      simp only [go_sem]
      repeat refine And.intro (by first | omega | rfl | (simp; done) | (simp; omega)) ?_
      refine adraw [.int .i64 30] mixed (by decide) (N := 94) Tryz.ntmps118 (by decide) 100 ?_
      simp only [go_sem]
      repeat refine And.intro (by first | omega | rfl | exact (counted_pc 3 (by decide)).at | (simp; done) | (simp; omega)) ?_
      refine goB (N := 94) Tryz.ntmps118 300 ?_
      simp only [go_sem, h0]
      refine pcall1 (frames_pc 3 (by decide)) rfl (N := 94) Tryz.ntmps118 rfl (goB (N := 94) Tryz.ntmps118 300 ?_)
      simp only [go_sem, h1]
      refine pcall1 (code_pc3 _ h0 (by simpa [dayR, cntR] using h1)) rfl (N := 94) Tryz.ntmps118 rfl (goB (N := 94) Tryz.ntmps118 300 ?_)
      simp only [go_sem, hcd]
      exact aret [4, 5] rfl ⟨rfl, rfl⟩
set_option maxHeartbeats 1000000 in
theorem readCode_pc4 (p0 q0 p1 q1 p2 q2 co p3 q3 : UInt8) (va vb vc vd : Int) (hva : val2 p0 q0 = va) (hvb : val2 p1 q1 = vb) (hvc : val2 p2 q2 = vc) (hvd : val2 p3 q3 = vd)
    (gp0 : isDg p0) (gq0 : isDg q0) (gp1 : isDg p1) (gq1 : isDg q1) (gp2 : isDg p2) (gq2 : isDg q2) (gp3 : isDg p3) (gq3 : isDg q3)
    (h0 : 0 ≤ (60 * (60 * va + vb) + vc) * 30 + vd - 2 * (60 * va + vb - (60 * va + vb) / 10)) (h1 : (60 * (60 * va + vb) + vc) * 30 + vd - 2 * (60 * va + vb - (60 * va + vb) / 10) < dayR 4) (hcd : codeL 4 ((60 * (60 * va + vb) + vc) * 30 + vd - 2 * (60 * va + vb - (60 * va + vb) / 10)) = [p0, q0, 58, p1, q1, 58, p2, q2, co, p3, q3]) :
    Pc Tryz.prog 118 [.int .i64 4, .str [p0, q0, 58, p1, q1, 58, p2, q2, co, p3, q3]] (· = .tup [.int .i64 ((60 * (60 * va + vb) + vc) * 30 + vd - 2 * (60 * va + vb - (60 * va + vb) / 10)), .bool true]) := by
  refine pc_intro (ct_intro Tryz.func118 rfl Tryz.ntmps118 hB118 (by simp) fun h ρ w => goB (N := 94) Tryz.ntmps118 300 ?_)
  have ba := val2_le gp0 gq0
  have bb := val2_le gp1 gq1
  have bc := val2_le gp2 gq2
  have bd := val2_le gp3 gq3
  rw [hva] at ba; rw [hvb] at bb; rw [hvc] at bc; rw [hvd] at bd
  unfold isDg at gp0 gq0 gp1 gq1 gp2 gq2 gp3 gq3
  unfold val2 at hva hvb hvc hvd
  simp only [go_sem]
  refine aloop (fun i : Nat => 5 - i) (fun i => [(0, .int .i64 4), (1, .str [p0, q0, 58, p1, q1, 58, p2, q2, co, p3, q3]), (6, .ptr 0 1 0 0), (15, .int .i64 i)])
    (fun i => [.arr 4 [.agg [.int .i64 (if 0 < i then va else 0), .int .i64 (if 1 < i then vb else 0), .int .i64 (if 2 < i then vc else 0), .int .i64 (if 3 < i then vd else 0)]]]) (fun i => i ≤ 4) 0 (by omega) (Shift.weak ?_) ?_
  · simp only [wk, go_sem]
  · intro i hi J hJ
    obtain rfl | rfl | rfl | rfl | rfl : i = 0 ∨ i = 1 ∨ i = 2 ∨ i = 3 ∨ i = 4 := by omega
    · refine goB (N := 94) Tryz.ntmps118 300 ?_
      simp only [go_sem]
      refine adraw [] mixed (by decide) (N := 94) Tryz.ntmps118 (by decide) 100 ?_
      simp only [go_sem]
      refine goB (N := 94) Tryz.ntmps118 300 ?_
      simp only [go_sem, gp0.1, gp0.2, gq0.1, gq0.2, hva]
      repeat refine And.intro (by first | omega | rfl | (simp; done) | (simp; omega)) ?_
      refine ainv (hJ 1 (by omega) (by omega)) (Shift.weak ?_)
      simp only [wk, go_sem]
    · refine goB (N := 94) Tryz.ntmps118 300 ?_
      simp only [go_sem]
      refine adraw [] mixed (by decide) (N := 94) Tryz.ntmps118 (by decide) 100 ?_
      simp only [go_sem]
      refine goB (N := 94) Tryz.ntmps118 300 ?_
      simp only [go_sem, gp1.1, gp1.2, gq1.1, gq1.2, hvb]
      repeat refine And.intro (by first | omega | rfl | (simp; done) | (simp; omega)) ?_
      refine ainv (hJ 2 (by omega) (by omega)) (Shift.weak ?_)
      simp only [wk, go_sem]
    · refine goB (N := 94) Tryz.ntmps118 300 ?_
      simp only [go_sem]
      refine adraw [] mixed (by decide) (N := 94) Tryz.ntmps118 (by decide) 100 ?_
      simp only [go_sem]
      refine goB (N := 94) Tryz.ntmps118 300 ?_
      simp only [go_sem, gp2.1, gp2.2, gq2.1, gq2.2, hvc]
      repeat refine And.intro (by first | omega | rfl | (simp; done) | (simp; omega)) ?_
      refine ainv (hJ 3 (by omega) (by omega)) (Shift.weak ?_)
      simp only [wk, go_sem]
    · refine goB (N := 94) Tryz.ntmps118 300 ?_
      simp only [go_sem]
      refine adraw [] mixed (by decide) (N := 94) Tryz.ntmps118 (by decide) 100 ?_
      simp only [go_sem]
      refine goB (N := 94) Tryz.ntmps118 300 ?_
      simp only [go_sem, gp3.1, gp3.2, gq3.1, gq3.2, hvd]
      repeat refine And.intro (by first | omega | rfl | (simp; done) | (simp; omega)) ?_
      refine ainv (hJ 4 (by omega) (by omega)) (Shift.weak ?_)
      simp only [wk, go_sem]
    · refine goB (N := 94) Tryz.ntmps118 300 ?_
      simp only [go_sem]
      repeat refine And.intro (by first | omega | rfl | (simp; done) | (simp; omega)) ?_
      refine adraw [.int .i64 30] mixed (by decide) (N := 94) Tryz.ntmps118 (by decide) 100 ?_
      simp only [go_sem]
      repeat refine And.intro (by first | omega | rfl | exact (counted_pc 4 (by decide)).at | (simp; done) | (simp; omega)) ?_
      refine goB (N := 94) Tryz.ntmps118 300 ?_
      simp only [go_sem, h0]
      repeat refine And.intro (by first | omega | rfl | (simp; done) | (simp; omega)) ?_
      refine pcall1 (frames_pc 4 (by decide)) rfl (N := 94) Tryz.ntmps118 rfl (goB (N := 94) Tryz.ntmps118 300 ?_)
      simp only [go_sem, h1]
      refine pcall1 (code_pc4 _ h0 (by simpa [dayR, cntR] using h1)) rfl (N := 94) Tryz.ntmps118 rfl (goB (N := 94) Tryz.ntmps118 300 ?_)
      simp only [go_sem, hcd]
      exact aret [4, 5] rfl ⟨rfl, rfl⟩
theorem dg_toNat {x : Int} (h0 : 0 ≤ x) (h1 : x ≤ 9) : ((dg x).toNat : Int) = 48 + x := by
  unfold dg
  have : (48 + x).toNat < 256 := by omega
  rw [UInt8.toNat_ofNat_of_lt' (by simpa using this)]
  omega
theorem dg_is {x : Int} (h0 : 0 ≤ x) (h1 : x ≤ 9) : isDg (dg x) := by
  unfold isDg; rw [dg_toNat h0 h1]; omega
theorem val2_two {x : Int} (h0 : 0 ≤ x) (h1 : x ≤ 99) : val2 (dg (x / 10)) (dg (x % 10)) = x := by
  unfold val2; rw [dg_toNat (by omega) (by omega), dg_toNat (by omega) (by omega)]; omega

def nA (m f : Int) : Int := m / f / 3600
def nB (m f : Int) : Int := m / f / 60 % 60
def nC (m f : Int) : Int := m / f % 60
def nD (m f : Int) : Int := m % f
theorem codeL_eq (r n : Int) : codeL r n = [dg (nA (shown r n) (cntR r) / 10), dg (nA (shown r n) (cntR r) % 10), 58, dg (nB (shown r n) (cntR r) / 10), dg (nB (shown r n) (cntR r) % 10), 58,
    dg (nC (shown r n) (cntR r) / 10), dg (nC (shown r n) (cntR r) % 10), if r = 4 then 59 else 58, dg (nD (shown r n) (cntR r) / 10), dg (nD (shown r n) (cntR r) % 10)] := rfl

theorem shown_lt (r n : Int) (h1 : 1 ≤ r) (h2 : r ≤ 4) (h0 : 0 ≤ n) (h : n < dayR r) : 0 ≤ shown r n ∧ shown r n < cntR r * 86400 := by
  unfold shown dayR cntR at *
  obtain rfl | rfl | rfl | rfl : r = 1 ∨ r = 2 ∨ r = 3 ∨ r = 4 := by omega
  all_goals simp at h ⊢
  case inr.inr.inr => split <;> omega
  all_goals omega
theorem read_pc (r n : Int) (h1 : 1 ≤ r) (h2 : r ≤ 4) (h3 : 0 ≤ n) (h4 : n < dayR r) : Pc Tryz.prog 118 [.int .i64 r, .str (codeL r n)] (· = .tup [.int .i64 n, .bool true]) := by
  obtain ⟨hs0, hs1⟩ := shown_lt r n h1 h2 h3 h4
  have hcd := codeL_eq r n
  obtain rfl | rfl | rfl | rfl : r = 1 ∨ r = 2 ∨ r = 3 ∨ r = 4 := by omega
  case inr.inr.inr =>
    simp only [cntR] at hs1 hcd
    simp at hs1
    have hfr : (60 * (60 * nA (shown 4 n) 30 + nB (shown 4 n) 30) + nC (shown 4 n) 30) * 30 + nD (shown 4 n) 30 - 2 * (60 * nA (shown 4 n) 30 + nB (shown 4 n) 30 - (60 * nA (shown 4 n) 30 + nB (shown 4 n) 30) / 10) = n := by
      have hn : n < 2589408 := by simpa [dayR] using h4
      have e1 : 60 * nA (shown 4 n) 30 + nB (shown 4 n) 30 = shown 4 n / 1800 := by unfold nA nB; omega
      have e2 : (60 * (shown 4 n / 1800) + nC (shown 4 n) 30) * 30 + nD (shown 4 n) 30 = shown 4 n := by unfold nC nD; omega
      rw [e1, e2]
      have hsh : shown 4 n = n + 18 * (n / 17982) + (if 1800 ≤ n % 17982 then 2 + 2 * ((n % 17982 - 1800) / 1798) else 0) := rfl
      by_cases hc : 1800 ≤ n % 17982
      · rw [if_pos hc] at hsh
        have e3 : shown 4 n / 1800 = 10 * (n / 17982) + 1 + (n % 17982 - 1800) / 1798 := by rw [hsh]; omega
        rw [e3, hsh]; omega
      · rw [if_neg hc] at hsh
        have e3 : shown 4 n / 1800 = 10 * (n / 17982) := by rw [hsh]; omega
        rw [e3, hsh]; omega
    have := readCode_pc4 (dg (nA (shown 4 n) 30 / 10)) (dg (nA (shown 4 n) 30 % 10)) (dg (nB (shown 4 n) 30 / 10)) (dg (nB (shown 4 n) 30 % 10)) (dg (nC (shown 4 n) 30 / 10)) (dg (nC (shown 4 n) 30 % 10)) 59 (dg (nD (shown 4 n) 30 / 10)) (dg (nD (shown 4 n) 30 % 10))
      (nA (shown 4 n) 30) (nB (shown 4 n) 30) (nC (shown 4 n) 30) (nD (shown 4 n) 30)
      (val2_two (by unfold nA; omega) (by unfold nA; omega)) (val2_two (by unfold nB; omega) (by unfold nB; omega)) (val2_two (by unfold nC; omega) (by unfold nC; omega)) (val2_two (by unfold nD; omega) (by unfold nD; omega))
      (dg_is (by unfold nA; omega) (by unfold nA; omega)) (dg_is (by unfold nA; omega) (by unfold nA; omega)) (dg_is (by unfold nB; omega) (by unfold nB; omega)) (dg_is (by unfold nB; omega) (by unfold nB; omega))
      (dg_is (by unfold nC; omega) (by unfold nC; omega)) (dg_is (by unfold nC; omega) (by unfold nC; omega)) (dg_is (by unfold nD; omega) (by unfold nD; omega)) (dg_is (by unfold nD; omega) (by unfold nD; omega))
      (by rw [hfr]; exact h3) (by rw [hfr]; exact h4) (by rw [hfr]; exact hcd)
    rw [hfr] at this
    rw [hcd]; exact this
  case inl =>
    simp only [cntR] at hs1 hcd
    simp at hs1 hcd
    have hfr : (60 * (60 * (nA (shown 1 n) 24) + (nB (shown 1 n) 24)) + (nC (shown 1 n) 24)) * 24 + (nD (shown 1 n) 24) = n := by
      have hsh : shown 1 n = n := rfl
      rw [hsh]; unfold nA nB nC nD; omega
    have := readCode_pc1 (dg ((nA (shown 1 n) 24) / 10)) (dg ((nA (shown 1 n) 24) % 10)) (dg ((nB (shown 1 n) 24) / 10)) (dg ((nB (shown 1 n) 24) % 10)) (dg ((nC (shown 1 n) 24) / 10)) (dg ((nC (shown 1 n) 24) % 10)) 58 (dg ((nD (shown 1 n) 24) / 10)) (dg ((nD (shown 1 n) 24) % 10))
      (nA (shown 1 n) 24) (nB (shown 1 n) 24) (nC (shown 1 n) 24) (nD (shown 1 n) 24)
      (val2_two (by unfold nA; omega) (by unfold nA; omega))
      (val2_two (by unfold nB; omega) (by unfold nB; omega))
      (val2_two (by unfold nC; omega) (by unfold nC; omega))
      (val2_two (by unfold nD; omega) (by unfold nD; omega))
      (dg_is (by unfold nA; omega) (by unfold nA; omega)) (dg_is (by unfold nA; omega) (by unfold nA; omega))
      (dg_is (by unfold nB; omega) (by unfold nB; omega)) (dg_is (by unfold nB; omega) (by unfold nB; omega))
      (dg_is (by unfold nC; omega) (by unfold nC; omega)) (dg_is (by unfold nC; omega) (by unfold nC; omega))
      (dg_is (by unfold nD; omega) (by unfold nD; omega)) (dg_is (by unfold nD; omega) (by unfold nD; omega))
      (by rw [hfr]; exact h3) (by rw [hfr]; exact h4) (by rw [hfr]; exact hcd)
    rw [hfr] at this
    rw [hcd]; exact this
  case inr.inl =>
    simp only [cntR] at hs1 hcd
    simp at hs1 hcd
    have hfr : (60 * (60 * (nA (shown 2 n) 25) + (nB (shown 2 n) 25)) + (nC (shown 2 n) 25)) * 25 + (nD (shown 2 n) 25) = n := by
      have hsh : shown 2 n = n := rfl
      rw [hsh]; unfold nA nB nC nD; omega
    have := readCode_pc2 (dg ((nA (shown 2 n) 25) / 10)) (dg ((nA (shown 2 n) 25) % 10)) (dg ((nB (shown 2 n) 25) / 10)) (dg ((nB (shown 2 n) 25) % 10)) (dg ((nC (shown 2 n) 25) / 10)) (dg ((nC (shown 2 n) 25) % 10)) 58 (dg ((nD (shown 2 n) 25) / 10)) (dg ((nD (shown 2 n) 25) % 10))
      (nA (shown 2 n) 25) (nB (shown 2 n) 25) (nC (shown 2 n) 25) (nD (shown 2 n) 25)
      (val2_two (by unfold nA; omega) (by unfold nA; omega))
      (val2_two (by unfold nB; omega) (by unfold nB; omega))
      (val2_two (by unfold nC; omega) (by unfold nC; omega))
      (val2_two (by unfold nD; omega) (by unfold nD; omega))
      (dg_is (by unfold nA; omega) (by unfold nA; omega)) (dg_is (by unfold nA; omega) (by unfold nA; omega))
      (dg_is (by unfold nB; omega) (by unfold nB; omega)) (dg_is (by unfold nB; omega) (by unfold nB; omega))
      (dg_is (by unfold nC; omega) (by unfold nC; omega)) (dg_is (by unfold nC; omega) (by unfold nC; omega))
      (dg_is (by unfold nD; omega) (by unfold nD; omega)) (dg_is (by unfold nD; omega) (by unfold nD; omega))
      (by rw [hfr]; exact h3) (by rw [hfr]; exact h4) (by rw [hfr]; exact hcd)
    rw [hfr] at this
    rw [hcd]; exact this
  case inr.inr.inl =>
    simp only [cntR] at hs1 hcd
    simp at hs1 hcd
    have hfr : (60 * (60 * (nA (shown 3 n) 30) + (nB (shown 3 n) 30)) + (nC (shown 3 n) 30)) * 30 + (nD (shown 3 n) 30) = n := by
      have hsh : shown 3 n = n := rfl
      rw [hsh]; unfold nA nB nC nD; omega
    have := readCode_pc3 (dg ((nA (shown 3 n) 30) / 10)) (dg ((nA (shown 3 n) 30) % 10)) (dg ((nB (shown 3 n) 30) / 10)) (dg ((nB (shown 3 n) 30) % 10)) (dg ((nC (shown 3 n) 30) / 10)) (dg ((nC (shown 3 n) 30) % 10)) 58 (dg ((nD (shown 3 n) 30) / 10)) (dg ((nD (shown 3 n) 30) % 10))
      (nA (shown 3 n) 30) (nB (shown 3 n) 30) (nC (shown 3 n) 30) (nD (shown 3 n) 30)
      (val2_two (by unfold nA; omega) (by unfold nA; omega))
      (val2_two (by unfold nB; omega) (by unfold nB; omega))
      (val2_two (by unfold nC; omega) (by unfold nC; omega))
      (val2_two (by unfold nD; omega) (by unfold nD; omega))
      (dg_is (by unfold nA; omega) (by unfold nA; omega)) (dg_is (by unfold nA; omega) (by unfold nA; omega))
      (dg_is (by unfold nB; omega) (by unfold nB; omega)) (dg_is (by unfold nB; omega) (by unfold nB; omega))
      (dg_is (by unfold nC; omega) (by unfold nC; omega)) (dg_is (by unfold nC; omega) (by unfold nC; omega))
      (dg_is (by unfold nD; omega) (by unfold nD; omega)) (dg_is (by unfold nD; omega) (by unfold nD; omega))
      (by rw [hfr]; exact h3) (by rw [hfr]; exact h4) (by rw [hfr]; exact hcd)
    rw [hfr] at this
    rw [hcd]; exact this
end Go.Proofs.YtkfpiadgjbhcpaaGreatDoor
