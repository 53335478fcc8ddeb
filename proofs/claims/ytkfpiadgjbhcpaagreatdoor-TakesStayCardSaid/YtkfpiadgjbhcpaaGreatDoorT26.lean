/- Draws: the paragraphs of a block. Own work of this seat. -/
import Derived.Test.YtkfpiadgjbhcpaaGreatDoorT25
import Derived.Test.YtkfpiadgjbhcpaaGreatDoorT23
import Derived.Test.YtkfpiadgjbhcpaaGreatDoorT21
import Derived.Test.YtkfpiadgjbhcpaaGreatDoorT16
import Derived.Test.YtkfpiadgjbhcpaaGreatDoorT15
import Derived.Test.YtkfpiadgjbhcpaaGreatDoorT22
import Derived.Lib.AtoiErrMem
import Derived.Lib.AppendIntMem
set_option maxRecDepth 100000
set_option linter.unusedSimpArgs false
set_option linter.unusedVariables false
namespace Go.Proofs.YtkfpiadgjbhcpaaGreatDoor
open Go Go.Av Go.RowKit

/-- what paragraphs come to: the kind of the last one, if all are right -/
def runL : Int → List Pa → Option Int
  | l, [] => some l
  | l, p :: r => if paraOk p && followsL p.kind l then runL p.kind r else none
theorem runL_append : ∀ (a b : List Pa) (l e : Int), runL l a = some e → runL l (a ++ b) = runL e b
  | [], b, l, e, h => by
    simp only [runL, Option.some.injEq] at h
    subst h; rfl
  | p :: a, b, l, e, h => by
    simp only [runL] at h
    simp only [List.cons_append, runL]
    split at h
    · rename_i hc
      rw [if_pos hc]
      exact runL_append a b p.kind e h
    · simp at h
theorem runL_one {a : List Pa} {l e : Int} {p : Pa} (h : runL l a = some e) (h1 : paraOk p = true) (h2 : followsL p.kind e = true) : runL l (a ++ [p]) = some p.kind := by
  rw [runL_append a _ l e h]
  simp [runL, h1, h2]

def TurnL : List (List UInt8) := [[67, 85, 84, 32, 84, 79], [70, 65, 68, 69, 32, 79, 85, 84, 46], [69, 78, 68], [65, 78, 78]]
def PreA : List (List UInt8) := [[64], [62, 32], [35, 32], [92], [40], [35]]
def PreB : List (List UInt8) := [[40], [92], [35], [64]]

/-- a paragraph that is drawn -/
structure DrawnP (p : Pa) : Prop where
  text : TextOk textC p.text
  kind : 1 ≤ p.kind ∧ p.kind ≤ 5
  name : p.kind = 2 → p.text ∈ NameL
  turn : p.kind = 5 → p.text ∈ TurnL
  ok : paraOk p = true

theorem drawn_text {k : Int} {t : List UInt8} (hk : k = 1 ∨ k = 4) (h : TextOk textC t) (hl : t.length ≤ 2000) : DrawnP ⟨k, t⟩ := by
  have hp := plain_of textC_ok h
  have hn : (t != []) = true := by simpa using h.ne
  refine ⟨h, by simp only; omega, by simp only; omega, by simp only; omega, ?_⟩
  rcases hk with rfl | rfl <;> simp [paraOk, hp, hn, hl]
theorem drawn_aside {t : List UInt8} (h : TextOk wordC t) (hl : t.length ≤ 200) : DrawnP ⟨3, t⟩ := by
  have h' := h.weak wordC_text
  have hp := plain_of textC_ok h'
  have hn : (t != []) = true := by simpa using h.ne
  have hc : Lib.containsAny t [40, 41] = false := by
    have : Lib.NoAny t [40, 41] t.length := fun j b _ hj => by
      have := List.all_eq_true.1 h.all b (List.mem_of_getElem? hj)
      simp only [wordC, Bool.and_eq_true, bne_iff_ne] at this
      simp [this.2.1, this.2.2.1]
    simp [Lib.containsAny, Lib.indexAny_none this]
  refine ⟨h', by simp, by simp, by simp, ?_⟩
  have h2 : t.length ≤ 2000 := by omega
  simp [paraOk, hp, hn, hl, hc, h2]
theorem name_all : (NameL.all fun t => textB textC t && paraOk ⟨2, t⟩) = true := by decide +kernel
theorem turn_all : (TurnL.all fun t => textB textC t && paraOk ⟨5, t⟩) = true := by decide +kernel
theorem drawn_name {t : List UInt8} (h : t ∈ NameL) : DrawnP ⟨2, t⟩ := by
  have := List.all_eq_true.1 name_all t h
  simp only [Bool.and_eq_true] at this
  exact ⟨textB_ok this.1, by simp, fun _ => h, by simp, this.2⟩
theorem drawn_turn {t : List UInt8} (h : t ∈ TurnL) : DrawnP ⟨5, t⟩ := by
  have := List.all_eq_true.1 turn_all t h
  simp only [Bool.and_eq_true] at this
  exact ⟨textB_ok this.1, by simp, by simp, fun _ => h, this.2⟩
def preB (a : List UInt8) : Bool := a.all textC && (noDbl a && (a.head? != some 32 && (a != [] && decide (a.length ≤ 2))))
theorem pre_all : (PreA.all preB && PreB.all preB) = true := by decide +kernel
theorem pre_text {a t : List UInt8} (h : a ∈ PreA ∨ a ∈ PreB) (y : TextOk wordC t) : TextOk textC (a ++ t) ∧ a.length ≤ 2 := by
  have hp : preB a = true := by
    have := pre_all
    simp only [Bool.and_eq_true] at this
    rcases h with h | h
    · exact List.all_eq_true.1 this.1 a h
    · exact List.all_eq_true.1 this.2 a h
  simp only [preB, Bool.and_eq_true, bne_iff_ne, decide_eq_true_eq] at hp
  exact ⟨TextOk.pre wordC_text hp.1 hp.2.1 hp.2.2.1 hp.2.2.2.1 y, hp.2.2.2.2⟩

/-- a block of paragraphs that is drawn -/
structure Block (b : List Pa) : Prop where
  run : ∀ l, l ≠ 2 → l ≠ 3 → ∃ e, runL l b = some e ∧ e ≠ 2 ∧ e ≠ 3
  len : 1 ≤ b.length ∧ b.length ≤ 5
  all : ∀ p ∈ b, DrawnP p
theorem follows_free {k l : Int} (hk : k ≠ 3) (hk' : k ≠ 4) (h2 : l ≠ 2) (h3 : l ≠ 3) : followsL k l = true := by simp [followsL, hk, hk', h2, h3]
theorem block_one {p : Pa} (h : DrawnP p) (hk : p.kind = 1 ∨ p.kind = 5) : Block [p] := by
  refine ⟨fun l h2 h3 => ⟨p.kind, ?_, by omega, by omega⟩, by simp, by simpa using h⟩
  simp [runL, h.ok, follows_free (show p.kind ≠ 3 by omega) (show p.kind ≠ 4 by omega) h2 h3]

theorem frozen_paras (ps : List Pa) : (flat (ps.map paA)).all Av.frozen = true := by
  induction ps with
  | nil => rfl
  | cons y l ih => simpa [flat, cellsOf, paA, Av.frozen] using ih

theorem frz_str (id e : Nat) (l : List AV) (L : List Int) (k : Int) : frz id e l (str L k) = str L k := rfl
theorem frzC_str (id e : Nat) (l : List AV) (L : List Int) (k : Int) : frzC id e l (str L k) = str L k := rfl

/-- a scene that is drawn -/
structure DrawnS (x : Sc) : Prop where
  no : x.no = []
  place : 1 ≤ x.place ∧ x.place ≤ 3
  set : x.set ∈ SetL
  time : 1 ≤ x.time ∧ x.time ≤ 5
  run : ∃ e, runL 0 x.paras = some e ∧ e ≠ 2 ∧ e ≠ 3
  len : x.paras.length ≤ 60
  all : ∀ p ∈ x.paras, DrawnP p

def TitleL : List (List UInt8) := [[84], [84, 104, 101, 32, 77, 105, 108, 108], [65, 32, 45, 32, 66]]

/-- a script that is drawn, without numbers -/
structure DrawnR (x : Sr) : Prop where
  title : x.title ∈ TitleL
  len : x.scenes.length ≤ 5
  all : ∀ y ∈ x.scenes, DrawnS y
  first : ∀ y, x.scenes.head? = some y → y.time ≠ 5

theorem frozen_scenes (ps : List Sc) : (flat (ps.map scA)).all Av.frozen = true := by
  induction ps with
  | nil => rfl
  | cons y l ih => simpa [flat, cellsOf, scA, Av.frozen] using ih

def digB (c : UInt8) : Bool := digI c.toNat
def capB (c : UInt8) : Bool := capI c.toNat
def digs (s : List UInt8) : List UInt8 := s.takeWhile digB
def caps (s : List UInt8) : List UInt8 := s.dropWhile digB

theorem takeWhile_at {p : UInt8 → Bool} : ∀ {s : List UInt8} {k : Nat}, k ≤ s.length → (s.take k).all p = true → (k = s.length ∨ p (s.getD k 0) = false) → s.takeWhile p = s.take k ∧ s.dropWhile p = s.drop k
  | [], k, hk, _, _ => by simp
  | c :: s, 0, _, _, e => by
    rcases e with e | e
    · simp at e
    · simp at e; simp [e]
  | c :: s, k + 1, hk, h, e => by
    simp only [List.take_succ_cons, List.all_cons, Bool.and_eq_true] at h
    have ih := takeWhile_at (s := s) (k := k) (by simpa using hk) h.2 (by simpa using e)
    simp [h.1, ih.1, ih.2]

def numberL (s : List UInt8) : Bool :=
  (caps s).all capB && (!(decide (((caps s).length : Int) > 5) || Lib.hasSuffix (caps s) [65]) &&
    (if digs s = [48] then caps s != [] else decide (1 ≤ (digs s).length) && (decide ((digs s).length ≤ 3) && ((s.getD 0 0).toNat : Int) != 48)))

set_option maxHeartbeats 1000000 in
theorem isNumber_pc' (s : List UInt8) (hs : s.length < 1000000) : Pc Tryz.prog 171 [.str s] (· = .bool (numberL s)) := by
  refine pc_intro (ct_intro Tryz.func171 rfl Tryz.ntmps171 hB171 (by simp) fun h ρ w => go (N := 56) Tryz.ntmps171 300 ?_)
  simp only [go_sem]
  refine aloopX (ι := Nat) (κ := Unit) (fun i => s.length - i) (fun i => [(3, .int .i64 i), (0, .str s)]) (fun _ => []) (fun i => i ≤ s.length ∧ (s.take i).all digB = true)
    (fun _ => [(3, .int .i64 (digs s).length), (0, .str s)]) (fun _ => []) (fun _ => s = digs s ++ caps s) 0 ⟨by omega, by simp⟩ ?_ ?_ ?_
  · refine Shift.weak ?_
    simp only [wk, go_sem]
  · rintro - hd
    have hdl : (digs s).length ≤ s.length := (congrArg List.length hd).symm ▸ by simp
    have edr : List.drop (digs s).length s = caps s := (congrArg (List.drop (digs s).length) hd).trans (by simp)
    have etk : List.take (digs s).length s = digs s := (congrArg (List.take (digs s).length) hd).trans (by simp)
    have hcl : (caps s).length ≤ s.length := (congrArg List.length hd).symm ▸ by simp
    refine go (N := 56) Tryz.ntmps171 300 ?_
    simp only [go_sem, edr]
    refine ⟨by omega, by omega, by omega, ?_⟩
    refine aloopX (ι := Nat) (κ := Unit) (fun i => (caps s).length - i) (fun i => [(23, .int .i64 i), (22, .int .i64 (caps s).length), (4, .str (caps s)), (3, .int .i64 (digs s).length), (0, .str s)]) (fun _ => []) (fun i => i ≤ (caps s).length ∧ ((caps s).take i).all capB = true)
      (fun _ => [(4, .str (caps s)), (3, .int .i64 (digs s).length), (0, .str s)]) (fun _ => []) (fun _ => (caps s).all capB = true) 0 ⟨by omega, by simp⟩ ?_ ?_ ?_
    · refine Shift.weak ?_
      simp only [wk, go_sem]
    · rintro - hc
      by_cases h5 : ((caps s).length : Int) > 5
      · have d5 : decide (((caps s).length : Int) > 5) = true := by simpa using h5
        refine go (N := 56) Tryz.ntmps171 300 ?_
        simp only [go_sem, d5]
        exact aret [2] rfl ⟨by simp [resV, Av.get, numberL, d5], rfl⟩
      have d5 : decide (((caps s).length : Int) > 5) = false := by simpa using h5
      refine go (N := 56) Tryz.ntmps171 300 ?_
      simp only [go_sem, d5]
      refine pcall1 (hasSuffix_pc (caps s) [65] (by omega)) rfl (N := 56) Tryz.ntmps171 rfl (go (N := 56) Tryz.ntmps171 300 ?_)
      cases e6 : Lib.hasSuffix (caps s) [65] with
      | true =>
        simp only [go_sem]
        exact aret [2] rfl ⟨by simp [resV, Av.get, numberL, e6], rfl⟩
      | false =>
      by_cases h7 : digs s = [48]
      · have d7 : (digs s == [48]) = true := by simpa using h7
        simp only [go_sem, etk, d7]
        refine ⟨by omega, by omega, ?_⟩
        exact aret [2] rfl ⟨by simp [resV, Av.get, numberL, h7, d5, e6, hc], rfl⟩
      have d7 : (digs s == [48]) = false := by simpa using h7
      by_cases h8 : ((digs s).length : Int) ≥ 1
      · have d8 : decide (((digs s).length : Int) ≥ 1) = true := by simpa using h8
        have d8' : decide (1 ≤ (digs s).length) = true := by simp; omega
        by_cases h9 : ((digs s).length : Int) ≤ 3
        · have d9 : decide (((digs s).length : Int) ≤ 3) = true := by simpa using h9
          have d9' : decide ((digs s).length ≤ 3) = true := by simp; omega
          simp only [go_sem, etk, d7, d8, d9]
          refine ⟨by omega, by omega, by omega, ?_⟩
          exact aret [2] rfl ⟨by simp only [resV, Av.get, numberL, d5, e6, hc, if_neg h7, d8', d9']; rfl, rfl⟩
        · have d9 : decide (((digs s).length : Int) ≤ 3) = false := by simpa using h9
          have d9' : decide ((digs s).length ≤ 3) = false := by simp; omega
          simp only [go_sem, etk, d7, d8, d9]
          refine ⟨by omega, by omega, ?_⟩
          exact aret [2] rfl ⟨by simp only [resV, Av.get, numberL, d5, e6, hc, if_neg h7, d8', d9']; rfl, rfl⟩
      · have d8 : decide (((digs s).length : Int) ≥ 1) = false := by simpa using h8
        have d8' : decide (1 ≤ (digs s).length) = false := decide_eq_false (by omega)
        simp only [go_sem, etk, d7, d8]
        refine ⟨by omega, by omega, ?_⟩
        exact aret [2] rfl ⟨by simp only [resV, Av.get, numberL, d5, e6, hc, if_neg h7, d8']; rfl, rfl⟩
    · rintro i ⟨g1, g2⟩ J Q hJ hQ
      refine go (N := 56) Tryz.ntmps171 300 ?_
      by_cases hi : (i : Int) < (caps s).length
      · have hil : i < (caps s).length := by omega
        have hgd : (caps s).getD i 0 = (caps s)[i] := by simp [List.getD, hil]
        simp only [go_sem, hi, hgd]
        refine ⟨by omega, ?_⟩
        refine pcall1 (isCapital_pc _) rfl (N := 56) Tryz.ntmps171 rfl (go (N := 56) Tryz.ntmps171 300 ?_)
        cases c1 : capI ((caps s)[i].toNat : Int) with
        | true =>
          simp only [go_sem]
          rw [show (i : Int) + 1 = ((i + 1 : Nat) : Int) by omega]
          repeat refine And.intro (by omega) ?_
          refine ainv (hJ (i + 1) ⟨by omega, all_take_succ hil g2 c1⟩ (by omega)) (Shift.weak ?_)
          simp only [wk, go_sem]
        | false =>
          simp only [go_sem]
          exact aret [2] rfl ⟨by simp [resV, Av.get, numberL, all_false_at hil (p := capB) c1], rfl⟩
      · simp only [go_sem, hi]
        have hall : (caps s).all capB = true := by
          have ht : (caps s).take i = caps s := List.take_of_length_le (by omega)
          rw [ht] at g2; exact g2
        refine ainv (hQ () hall) (Shift.weak ?_)
        simp only [wk, go_sem]
  · rintro i ⟨g1, g2⟩ J Q hJ hQ
    have out : (i = s.length ∨ digB (s.getD i 0) = false) → ((digs s).length = i ∧ s = digs s ++ caps s) := fun e => by
      obtain ⟨e1, e2⟩ := takeWhile_at g1 g2 e
      exact ⟨by rw [digs, e1]; simp; omega, by simp [digs, caps]⟩
    refine go (N := 56) Tryz.ntmps171 300 ?_
    by_cases hi : (i : Int) < s.length
    · have hil : i < s.length := by omega
      have hgd : s.getD i 0 = s[i] := by simp [List.getD, hil]
      simp only [go_sem, hi, hgd]
      refine ⟨by omega, ?_⟩
      refine pcall1 (isDigit_pc _) rfl (N := 56) Tryz.ntmps171 rfl (go (N := 56) Tryz.ntmps171 300 ?_)
      cases c1 : digI (s[i].toNat : Int) with
      | true =>
        simp only [go_sem]
        rw [show (i : Int) + 1 = ((i + 1 : Nat) : Int) by omega]
        repeat refine And.intro (by omega) ?_
        refine ainv (hJ (i + 1) ⟨by omega, all_take_succ hil g2 c1⟩ (by omega)) (Shift.weak ?_)
        simp only [wk, go_sem]
      | false =>
        obtain ⟨e1, e2⟩ := out (.inr (by rw [hgd]; exact c1))
        simp only [go_sem]
        refine ainv (hQ () e2) (Shift.weak ?_)
        rw [e1]
        simp only [wk, go_sem]
    · simp only [go_sem, hi]
      obtain ⟨e1, e2⟩ := out (.inl (by omega))
      refine ainv (hQ () e2) (Shift.weak ?_)
      rw [e1]
      simp only [wk, go_sem]

def okD (s : List UInt8) : Prop := 1 ≤ (digs s).length ∧ (digs s).length ≤ 18

theorem same_below {w w' : World} (b : Below w.heap.size w w') : Same w w' := ⟨b.os, b.tape, ⟨b.output, trivial⟩, b.size, b.block⟩
theorem one_str (s : List UInt8) : ∀ h vs', RL h Lf0 true vs' [.str s] → vs' = [.string ⟨s.toArray⟩] := by
  intro h vs' r
  cases r with | cons r1 r => cases r; rw [rv_str r1]
theorem one_int (k : IntKind) (n : Int) : ∀ h vs', RL h Lf0 true vs' [.int k n] → vs' = [.int k n] := by
  intro h vs' r
  cases r with | cons r1 r => cases r; rw [rv_int r1]
theorem atoi_pc (s : List UInt8) (n : Int) (hl : s.length ≤ 18) (h : Lib.atoi s = some n) : Pc Tryz.prog 121 [.str s] (· = .tup [.int .i64 n, .raw .nilIface]) :=
  pc_lib [_] (.tuple #[.int .i64 n, .nilIface]) hB121 (one_str s) (fun h => .tup [_, _] [_, _] (.cons (.int _ _) (.cons (.raw _) .nil)))
    fun w => (Any.strconv_Atoi Tryz.lays172 ⟨s.toArray⟩ n (by simpa [ByteArray.size] using hl) h w).mono fun e w' ⟨h1, t, h2⟩ => ⟨h1, h2 ▸ same_below (Lib.bytesWorld_below _ _ _)⟩
theorem compare_str_pc (a b : List UInt8) : Pc Tryz.prog 146 [.str a, .str b] (· = .int .i64 (Lib.compareBytes a b)) :=
  pc_lib [_, _] (.int .i64 (Lib.compareBytes a b)) hB146 (two_strs a b) (fun h => .int _ _) fun w => (Any.strings_Compare Tryz.lays106 ⟨a.toArray⟩ ⟨b.toArray⟩ w).mono fun e w' ⟨h1, h2⟩ => ⟨h1, h2 ▸ .refl w⟩
theorem isNaN_int_pc (x : Int) : Pc Tryz.prog 212 [.int .i64 x] (· = .bool false) := by
  refine pc_intro (ct_intro Tryz.func212 rfl Tryz.ntmps212 hB212 (by simp) fun h ρ w => go (N := 6) Tryz.ntmps212 300 ?_)
  simp only [go_sem]
  exact aret [2] rfl ⟨by simp [resV, Av.get], rfl⟩

def cmpI (x y : Int) : Int := if x < y then -1 else if x > y then 1 else 0

theorem cmp_int_pc (x y : Int) : Pc Tryz.prog 145 [.int .i64 x, .int .i64 y] (· = .int .i64 (cmpI x y)) := by
  refine pc_intro (ct_intro Tryz.func145 rfl Tryz.ntmps145 hB145 (by simp) fun h ρ w => go (N := 20) Tryz.ntmps145 300 ?_)
  simp only [go_sem]
  refine pcall1 (isNaN_int_pc _) rfl (N := 20) Tryz.ntmps145 rfl (go (N := 20) Tryz.ntmps145 300 ?_)
  simp only [go_sem]
  refine pcall1 (isNaN_int_pc _) rfl (N := 20) Tryz.ntmps145 rfl (go (N := 20) Tryz.ntmps145 300 ?_)
  by_cases h1 : x < y
  · have d1 : decide (x < y) = true := by simpa using h1
    simp only [go_sem, d1]
    exact aret [4] rfl ⟨by simp [resV, Av.get, cmpI, h1], rfl⟩
  have d1 : decide (x < y) = false := by simpa using h1
  by_cases h2 : x > y
  · have d2 : decide (x > y) = true := by simpa using h2
    simp only [go_sem, d1, d2]
    exact aret [4] rfl ⟨by simp [resV, Av.get, cmpI, h1, h2], rfl⟩
  have d2 : decide (x > y) = false := by simpa using h2
  simp only [go_sem, d1, d2]
  exact aret [4] rfl ⟨by simp [resV, Av.get, cmpI, h1, h2], rfl⟩

def orI (x y : Int) : Int := if x = 0 then y else x

theorem or_pc (x y : Int) : Pc Tryz.prog 144 [.fz 1 [.int .i64 x, .int .i64 y]] (· = .int .i64 (orI x y)) := by
  refine pc_intro (ct_intro Tryz.func144 rfl Tryz.ntmps144 hB144 (by simp) fun h ρ w => go (N := 18) Tryz.ntmps144 300 ?_)
  simp only [go_sem]
  refine aenter (around (go (N := 18) Tryz.ntmps144 300 ?_))
  by_cases h1 : x = 0
  · have d1 : (x != 0) = false := by simpa using h1
    simp only [go_sem, d1]
    refine aagain (around (go (N := 18) Tryz.ntmps144 300 ?_))
    by_cases h2 : y = 0
    · have d2 : (y != 0) = false := by simpa using h2
      simp only [go_sem, d2]
      refine aagain (around (go (N := 18) Tryz.ntmps144 300 ?_))
      simp only [go_sem]
      exact aret [2] rfl ⟨by simp [resV, Av.get, orI, h1, h2], rfl⟩
    have d2 : (y != 0) = true := by simpa using h2
    simp only [go_sem, d2]
    exact aret [2] rfl ⟨by simp [resV, Av.get, orI, h1], rfl⟩
  have d1 : (x != 0) = true := by simpa using h1
  simp only [go_sem, d1]
  exact aret [2] rfl ⟨by simp [resV, Av.get, orI, h1], rfl⟩

theorem itoa_pch {S : Std} (hS : LibOk S) (n : Int) (h0 : -9223372036854775808 ≤ n) (h1 : n ≤ 9223372036854775807) : PcH Tryz.prog S 76 [.int .i64 n] (· = .str (Lib.itoa n)) :=
  pch_lib [_] (.string ⟨(Lib.itoa n).toArray⟩) hB76 (one_int .i64 n) (fun h => .str _) fun w H => by
    obtain ⟨t, z, hp⟩ := hS.pow10
    refine (Any.strconv_Itoa Tryz.laysM171 n h0 h1 w ?_).mono fun e w' ⟨e1, k, os, e2⟩ => ⟨e1, e2 ▸ same_below (Lib.below_grow _ _ (Nat.le_refl _) _ _)⟩
    show w.var? _ _ = _
    have hg : Tryz.prog.globalNamed "internal/strconv.uint64pow10" = some 5 := by kernel_rfl
    simp only [World.var?, hg, Option.bind_some, H _ _ hp]

/-- at most three digits -/
def dig3 (d : Int) : List UInt8 :=
  if d.toNat < 10 then [UInt8.ofNat (48 + d.toNat)] else if d.toNat < 100 then [UInt8.ofNat (48 + d.toNat / 10), UInt8.ofNat (48 + d.toNat % 10)]
  else [UInt8.ofNat (48 + d.toNat / 100), UInt8.ofNat (48 + d.toNat / 10 % 10), UInt8.ofNat (48 + d.toNat % 10)]
theorem itoa_dig3 {d : Int} (h0 : 0 ≤ d) (h1 : d ≤ 999) : Lib.itoa d = dig3 d := by
  unfold Lib.itoa dig3
  rw [if_neg (by omega)]
  generalize hu : d.toNat = u
  have hu1 : u ≤ 999 := by omega
  by_cases h10 : u < 10
  · rw [if_pos h10, Lib.decDigits_one h10]
  · rw [if_neg h10]
    by_cases h100 : u < 100
    · rw [if_pos h100, Lib.decDigits_two h10 h100]
    · rw [if_neg h100, Lib.decDigits, dif_neg h10, Lib.decDigits_two (by omega) (by omega)]
      simp [Nat.div_div_eq_div_mul]
theorem dig3_len (d : Int) : 1 ≤ (dig3 d).length ∧ (dig3 d).length ≤ 3 := by
  unfold dig3
  split
  · simp
  · split <;> simp
theorem clone0_pc : Pc Tryz.prog 119 [.fz 5 []] (· = .fz 5 []) := by
  refine pc_intro (ct_intro Tryz.func119 rfl Tryz.ntmps119 hB119 (by simp) fun h ρ w => go (N := 8) Tryz.ntmps119 300 ?_)
  simp only [go_sem]
  intro b
  refine go (N := 8) Tryz.ntmps119 300 ?_
  cases b with
  | true =>
    simp only [go_sem]
    exact ARet.shift (Shift.nilfz 2 5 rfl) (aret [2] rfl ⟨rfl, rfl⟩)
  | false =>
    simp only [go_sem]
    refine ⟨.inl trivial, ?_⟩
    exact ARet.shift (Shift.freeze 2 (id := 0) rfl rfl rfl (Nat.le_refl _) rfl) (aret [2] rfl ⟨rfl, rfl⟩)
theorem clone_ct (x : Sc) (xs : List Sc) (hl : xs.length ≤ 100000) :
    Ct Tryz.prog 119 [.fz 5 ((x :: xs).map scA)] [] (fun r s => r = .sl 0 0 (x :: xs).length (x :: xs).length ∧ s = [.arr 5 ((x :: xs).map scA)]) := by
  refine ct_intro Tryz.func119 rfl Tryz.ntmps119 hB119 (by simp) fun h ρ w => go (N := 8) Tryz.ntmps119 300 ?_
  simp only [go_sem, scA]
  refine ⟨by simp, by simp; omega, by simp; omega, aret [2] rfl ⟨by simp [resV, Av.get, scA], rfl⟩⟩

def nm (i : Nat) (x : Sc) : Sc := { x with no := Lib.itoa ((i : Int) + 1) }
def numL : Nat → List Sc → List Sc
  | _, [] => []
  | i, x :: r => nm i x :: numL (i + 1) r
def numR (x : Sr) : Sr := ⟨x.title, numL 0 x.scenes⟩

set_option maxHeartbeats 2000000 in
theorem numbered_pch {S : Std} (hS : LibOk S) (x : Sr) (hl : x.scenes.length ≤ 1000) : PcH Tryz.prog S 67 [srA x] (· = srA (numR x)) := by
  obtain ⟨ti, xs⟩ := x
  cases xs with
  | nil =>
    simp only [srA, List.map_nil, numR, numL]
    refine pch_intro (cth_intro Tryz.func67 rfl Tryz.ntmps67 hB67 (by simp) fun h ρ w hg => go (N := 27) Tryz.ntmps67 300 ?_)
    simp only [go_sem]
    refine adrawI [] 99 [.fz 5 []] mixed (by decide) (N := 27) Tryz.ntmps67 (by decide) 100 ?_
    simp only [go_sem]
    refine ⟨clone0_pc.at, rfl, ?_⟩
    refine go (N := 27) Tryz.ntmps67 300 ?_
    simp only [go_sem]
    refine aenter (around (go (N := 27) Tryz.ntmps67 300 ?_))
    simp only [go_sem]
    exact aretc [.cell 2 28] rfl [_] ⟨by simp only [go_sem, sideIs], trivial⟩ ⟨rfl, rfl⟩
  | cons x xs =>
    simp only [srA]
    refine pch_intro (cth_intro Tryz.func67 rfl Tryz.ntmps67 hB67 (by simp) fun h ρ w hg => go (N := 27) Tryz.ntmps67 300 ?_)
    simp only [go_sem]
    refine AWp.shift (Shift.reserve 5) ?_
    refine adrawI [4] 2 [] mixed (by decide) (N := 27) Tryz.ntmps67 (by decide) 100 ?_
    simp only [go_sem]
    have hfro : (flat ((x :: xs).map scA)).all Av.frozen = true := frozen_scenes (x :: xs)
    refine icall_new (clone_ct x xs (by simp at hl ⊢; omega)) (by simp) (by simp) rfl hfro rfl ?_
    simp only [go_sem]
    refine go (N := 27) Tryz.ntmps67 300 ?_
    simp only [go_sem]
    refine ⟨by simp, ?_⟩
    have hys : AV.fz 5 (List.map scA (numR ⟨ti, x :: xs⟩).scenes) = .fz 5 (List.map scA (numL 0 (x :: xs))) := rfl
    rw [hys]
    clear hys
    have hl' : xs.length + 1 ≤ 1000 := by simpa using hl
    have hnum : ∃ out, numL 0 (x :: xs) = out := ⟨_, rfl⟩
    obtain ⟨out, hout⟩ := hnum
    rw [hout]
    refine aloop (ι := List Sc × List Sc) (fun y => y.2.length)
      (fun y => [(14, .int .i64 y.1.length), (13, .int .i64 ↑(xs.length + 1)), (3, .ptr 3 1 0 0), (2, .ptr 1 1 0 0)])
      (fun y => [.arr 2 [.agg [.str ti, .fz 5 (scA x :: List.map scA xs)]], .arr 2 [.agg [.str [], .raw (.slice none 0 0)]], .arr 5 (List.map scA (y.1 ++ y.2)), .arr 2 [.agg [.str ti, .sl 2 0 (xs.length + 1) (xs.length + 1)]]])
      (fun y => y.1.length + y.2.length = xs.length + 1 ∧ y.1 ++ numL y.1.length y.2 = out) ([], x :: xs) ⟨by simp, hout⟩ ?_ ?_
    · refine Shift.weak ?_
      simp only [wk, go_sem]
    · rintro ⟨dn, rest⟩ ⟨g1, g2⟩ J hJ
      simp only at g1 g2 hJ ⊢
      cases rest with
      | cons y r =>
        have di : decide ((dn.length : Int) < ((xs.length + 1 : Nat) : Int)) = true := by simp at g1 ⊢; omega
        refine go (N := 27) Tryz.ntmps67 300 ?_
        simp only [go_sem, di]
        refine adraw [.str (Lib.itoa ((dn.length : Int) + 1))] mixed (by decide) (N := 27) Tryz.ntmps67 (by decide) 100 ?_
        have hx : List.getD (List.map scA (dn ++ y :: r)) dn.length .any = .agg [.str y.no, .int .i64 y.place, .str y.set, .int .i64 y.time, .fz 2 (y.paras.map paA)] := by simp [List.getD, scA]
        simp only [go_sem, hx]
        refine ⟨by omega, by omega, (itoa_pch hS _ (by omega) (by omega)).at hg, rfl, by simp at g1 ⊢; omega, by omega, by simp at g1 ⊢; omega, by omega, by simp, ?_⟩
        have hset : (List.map scA (dn ++ y :: r)).set dn.length (.agg [.str (Lib.itoa ((dn.length : Int) + 1)), .int .i64 y.place, .str y.set, .int .i64 y.time, .fz 2 (y.paras.map paA)]) = List.map scA ((dn ++ [nm dn.length y]) ++ r) := by
          simp [nm, scA]
        rw [hset]
        refine go (N := 27) Tryz.ntmps67 300 ?_
        simp only [go_sem]
        refine ⟨by omega, by omega, ?_⟩
        rw [show (dn.length : Int) + 1 = ((dn ++ [nm dn.length y]).length : Int) by simp]
        refine ainv (hJ (dn ++ [nm dn.length y], r) ⟨by simp at g1 ⊢; omega, by rw [← g2]; simp [numL]⟩ (by simp)) (Shift.weak ?_)
        simp only [wk, go_sem]
      | nil =>
        have di : decide (((xs.length + 1 : Nat) : Int) < ((xs.length + 1 : Nat) : Int)) = false := by simp
        simp only [List.append_nil, numL] at g2 ⊢
        subst g2
        have hn : dn.length = xs.length + 1 := by simpa using g1
        refine AWp.shift (Shift.frz 2 rfl (frozen_scenes dn)) ?_
        simp only [frzE, frz, frz1, frzC, frzB, List.map_cons, List.map_nil, List.set_cons_succ, List.set_cons_zero, Nat.reduceBEq, cond_true, cond_false, Bool.false_and, Bool.true_and, List.length_map, Nat.zero_add, hn, decide_true, Nat.le_refl, List.drop_zero]
        have : List.take (xs.length + 1) (List.map scA dn) = List.map scA dn := List.take_of_length_le (by simp; omega)
        simp only [this]
        refine go (N := 27) Tryz.ntmps67 300 ?_
        simp only [go_sem, di]
        exact aretc [.cell 2 28] rfl [_] ⟨by simp only [go_sem, sideIs, numR], trivial⟩ ⟨rfl, rfl⟩
end Go.Proofs.YtkfpiadgjbhcpaaGreatDoor
