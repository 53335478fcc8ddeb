/- Takes as data; the best assembly: plain law. Own work of this seat. -/
import Derived.Test.YtkfpiadgjbhcpaaGreatDoorT20
import Derived.Test.YtkfpiadgjbhcpaaGreatDoorT15
import Derived.Lib.Builder
import Derived.Lib.AppendStr
import Derived.Lib.UnsafeStr
import Derived.WalkKit
set_option maxRecDepth 100000
set_option linter.unusedSimpArgs false
set_option linter.unusedVariables false
namespace Go.Proofs.YtkfpiadgjbhcpaaGreatDoor
open Go Go.Av Go.RowKit

structure Cv where
  para : Int
  inn : Int
  out : Int
  on : Bool
deriving DecidableEq
structure Tk where
  scene : List UInt8
  setup : List UInt8
  number : Int
  roll : List UInt8
  sound : List UInt8
  inn : Int
  out : Int
  good : Bool
  covers : List Cv
/-- how a take covers a paragraph -/
structure Pp' where
  take : Nat
  cv : Cv
deriving DecidableEq
structure Scr where
  joins : Int
  on : Int
deriving DecidableEq
def bet (a b : Scr) : Bool := decide (a.joins < b.joins) || (a.joins == b.joins && decide (a.on > b.on))
def fol (a b : Pp') : Bool := a.take == b.take && a.cv.out == b.cv.inn
def ownS (p : Pp') (sp : Bool) : Scr := if sp && p.cv.on then ⟨0, 1⟩ else ⟨0, 0⟩
structure Stp where
  parts : List Pp'
  scr : Pp' → Scr
  best : Scr
/-- the best of scores, the first ones kept -/
def bestL : Option Scr → List Scr → Option Scr
  | b, [] => b
  | none, s :: r => bestL (some s) r
  | some b, s :: r => bestL (some (if bet s b then s else b)) r
def restL' (p : Pp') (scr : Pp' → Scr) : Scr → List Pp' → Scr
  | r, [] => r
  | r, q :: l => restL' p scr (if fol p q && bet (scr q) r then scr q else r) l
def restS (nx : Stp) (p : Pp') : Scr := restL' p nx.scr ⟨nx.best.joins + 1, nx.best.on⟩ nx.parts
def scrN (sp : Bool) (nx : Option Stp) (p : Pp') : Scr := match nx with
  | none => ownS p sp
  | some n => ⟨(restS n p).joins, (ownS p sp).on + (restS n p).on⟩
def stepN (sp : Bool) (ps : List Pp') (nx : Option Stp) : Stp := ⟨ps, scrN sp nx, (bestL none (ps.map (scrN sp nx))).getD ⟨0, 0⟩⟩
/-- the steps of paragraphs (is it a speech, its parts) -/
def stepsN : List (Bool × List Pp') → List Stp
  | [] => []
  | (sp, ps) :: r => stepN sp ps (stepsN r).head? :: stepsN r

theorem bet_irr (a : Scr) : bet a a = false := by simp [bet]
theorem bet_trans {a b c : Scr} (h : bet a b = true) (h2 : bet b c = true) : bet a c = true := by
  simp only [bet, Bool.or_eq_true, Bool.and_eq_true, decide_eq_true_eq, beq_iff_eq] at *
  omega
theorem bestL_some : ∀ (l : List Scr) (b : Scr), ∃ r, bestL (some b) l = some r ∧ (r = b ∨ r ∈ l) ∧ bet b r = false ∧ ∀ s ∈ l, bet s r = false
  | [], b => ⟨b, rfl, .inl rfl, bet_irr b, by simp⟩
  | s :: l, b => by
    simp only [bestL]
    cases h : bet s b with
    | true =>
      obtain ⟨r, h1, h2, h3, h4⟩ := bestL_some l s
      refine ⟨r, by simpa using h1, .inr ?_, ?_, ?_⟩
      · rcases h2 with rfl | h2
        · simp
        · simp [h2]
      · cases hx : bet b r with
        | false => rfl
        | true => rw [bet_trans h hx] at h3; cases h3
      · intro t ht
        rcases List.mem_cons.1 ht with rfl | ht
        · exact h3
        · exact h4 t ht
    | false =>
      obtain ⟨r, h1, h2, h3, h4⟩ := bestL_some l b
      refine ⟨r, by simpa using h1, ?_, h3, ?_⟩
      · rcases h2 with rfl | h2
        · exact .inl rfl
        · exact .inr (by simp [h2])
      · intro t ht
        rcases List.mem_cons.1 ht with rfl | ht
        · cases hx : bet t r with
          | false => rfl
          | true =>
            rcases h2 with rfl | h2
            · rw [hx] at h; cases h
            · cases hb : bet b r with
              | true => rw [hb] at h3; cases h3
              | false =>
                -- r is not better than b, b not better than r, t better than r, but not better than b
                exfalso
                simp only [bet, Bool.or_eq_false_iff, Bool.and_eq_false_iff, decide_eq_false_iff_not, beq_eq_false_iff_ne, Bool.or_eq_true, Bool.and_eq_true, decide_eq_true_eq, beq_iff_eq] at *
                omega
        · exact h4 t ht
theorem bestL_ok : ∀ (l : List Scr), l ≠ [] → ((bestL none l).getD ⟨0, 0⟩) ∈ l ∧ ∀ s ∈ l, bet s ((bestL none l).getD ⟨0, 0⟩) = false
  | [], h => absurd rfl h
  | s :: l, _ => by
    obtain ⟨r, h1, h2, h3, h4⟩ := bestL_some l s
    simp only [bestL, h1, Option.getD_some]
    refine ⟨?_, ?_⟩
    · rcases h2 with rfl | h2
      · simp
      · simp [h2]
    · intro t ht
      rcases List.mem_cons.1 ht with rfl | ht
      · exact h3
      · exact h4 t ht
theorem restL'_ok (p : Pp') (scr : Pp' → Scr) : ∀ (l : List Pp') (b : Scr), (restL' p scr b l = b ∨ ∃ q ∈ l, fol p q = true ∧ restL' p scr b l = scr q) ∧ bet b (restL' p scr b l) = false ∧ ∀ q ∈ l, fol p q = true → bet (scr q) (restL' p scr b l) = false
  | [], b => ⟨.inl rfl, bet_irr b, by simp⟩
  | q :: l, b => by
    simp only [restL']
    cases h : (fol p q && bet (scr q) b) with
    | true =>
      simp only [Bool.and_eq_true] at h
      obtain ⟨h1, h2, h3⟩ := restL'_ok p scr l (scr q)
      simp only [if_true]
      refine ⟨.inr ?_, ?_, ?_⟩
      · rcases h1 with h1 | ⟨x, hx, hf, h1⟩
        · exact ⟨q, by simp, h.1, h1⟩
        · exact ⟨x, by simp [hx], hf, h1⟩
      · cases hx : bet b (restL' p scr (scr q) l) with
        | false => rfl
        | true => rw [bet_trans h.2 hx] at h2; cases h2
      · intro t ht hf
        rcases List.mem_cons.1 ht with rfl | ht
        · exact h2
        · exact h3 t ht hf
    | false =>
      obtain ⟨h1, h2, h3⟩ := restL'_ok p scr l b
      simp only [Bool.false_eq_true, if_false]
      refine ⟨?_, h2, ?_⟩
      · rcases h1 with h1 | ⟨x, hx, hf, h1⟩
        · exact .inl h1
        · exact .inr ⟨x, by simp [hx], hf, h1⟩
      · intro t ht hf
        rcases List.mem_cons.1 ht with rfl | ht
        · rw [hf, Bool.true_and] at h
          rcases h1 with h1 | ⟨x, hx, hfx, h1⟩
          · rw [h1]; exact h
          · cases hb : bet (scr t) (restL' p scr b l) with
            | false => rfl
            | true =>
              exfalso
              generalize restL' p scr b l = r at *
              simp only [bet, Bool.or_eq_false_iff, Bool.and_eq_false_iff, decide_eq_false_iff_not, beq_eq_false_iff_ne, Bool.or_eq_true, Bool.and_eq_true, decide_eq_true_eq, beq_iff_eq] at *
              omega
        · exact h3 t ht hf

/-- what it costs to go on from p with q -/
def cost (scr : Pp' → Scr) (p q : Pp') : Scr := if fol p q then scr q else ⟨(scr q).joins + 1, (scr q).on⟩
theorem restS_ok {nx : Stp} (hm : ∃ q ∈ nx.parts, nx.scr q = nx.best) (hb : ∀ q ∈ nx.parts, bet (nx.scr q) nx.best = false) (p : Pp') :
    (∃ q ∈ nx.parts, cost nx.scr p q = restS nx p) ∧ ∀ q ∈ nx.parts, (restS nx p).joins ≤ (cost nx.scr p q).joins := by
  obtain ⟨h1, h2, h3⟩ := restL'_ok p nx.scr nx.parts ⟨nx.best.joins + 1, nx.best.on⟩
  refine ⟨?_, ?_⟩
  · rcases h1 with h1 | ⟨q, hq, hf, h1⟩
    · obtain ⟨q, hq, hs⟩ := hm
      refine ⟨q, hq, ?_⟩
      cases hf : fol p q with
      | false => simp only [cost, hf, Bool.false_eq_true, if_false, hs]; exact h1.symm
      | true =>
        have := h3 q hq hf
        rw [h1, hs] at this
        simp only [bet, Bool.or_eq_false_iff, decide_eq_false_iff_not] at this
        omega
    · exact ⟨q, hq, by simp only [cost, hf, if_true]; exact h1.symm⟩
  · intro q hq
    cases hf : fol p q with
    | true =>
      have := h3 q hq hf
      simp only [cost, hf, if_true]
      simp only [bet, Bool.or_eq_false_iff, decide_eq_false_iff_not] at this
      have := this.1
      simp only [restS]
      omega
    | false =>
      have h4 := hb q hq
      simp only [cost, hf, Bool.false_eq_true, if_false]
      simp only [bet, Bool.or_eq_false_iff, decide_eq_false_iff_not] at h2 h4
      have h2 := h2.1
      have h4 := h4.1
      simp only [restS]
      omega

/-- a step's best score is one of its parts' and no part has a better one -/
def StpOk (s : Stp) : Prop := (∃ q ∈ s.parts, s.scr q = s.best) ∧ ∀ q ∈ s.parts, bet (s.scr q) s.best = false
theorem stepN_ok (sp : Bool) (ps : List Pp') (nx : Option Stp) (h : ps ≠ []) : StpOk (stepN sp ps nx) := by
  have := bestL_ok (ps.map (scrN sp nx)) (by simpa using h)
  refine ⟨?_, ?_⟩
  · obtain ⟨q, hq, he⟩ := List.mem_map.1 this.1
    exact ⟨q, hq, he⟩
  · intro q hq
    exact this.2 _ (List.mem_map.2 ⟨q, hq, rfl⟩)
theorem stepsN_ok : ∀ (l : List (Bool × List Pp')), (∀ x ∈ l, x.2 ≠ []) → ∀ s ∈ stepsN l, StpOk s
  | [], _, s, h => by simp [stepsN] at h
  | (sp, ps) :: r, h, s, hs => by
    simp only [stepsN, List.mem_cons] at hs
    rcases hs with rfl | hs
    · exact stepN_ok sp ps _ (h (sp, ps) (by simp))
    · exact stepsN_ok r (fun x hx => h x (by simp [hx])) s hs
theorem stepsN_len : ∀ l, (stepsN l).length = l.length
  | [] => rfl
  | (sp, ps) :: r => by simp [stepsN, stepsN_len r]

/-- how many places have a join, if 'last' comes before -/
def joinN (last : Option Pp') (p : Pp') : Int := match last with
  | none => 0
  | some l => if fol l p then 0 else 1
def joinsN : Option Pp' → List Pp' → Int
  | _, [] => 0
  | last, p :: r => joinN last p + joinsN (some p) r
/-- a choice of parts that a best assembly takes: of each step a part; with the cost that is wanted -/
def ChosenN : Option Pp' → List Stp → List Pp' → Prop
  | _, [], [] => True
  | none, s :: r, p :: ps => p ∈ s.parts ∧ s.scr p = s.best ∧ ChosenN (some p) r ps
  | some l, s :: r, p :: ps => p ∈ s.parts ∧ cost s.scr l p = restS s l ∧ ChosenN (some p) r ps
  | _, _, _ => False
theorem chosen_len : ∀ (ss : List Stp) (last : Option Pp') (ps : List Pp'), ChosenN last ss ps → ps.length = ss.length
  | [], _, [], _ => rfl
  | [], none, _ :: _, h => by simp [ChosenN] at h
  | [], some _, _ :: _, h => by simp [ChosenN] at h
  | _ :: _, none, [], h => by simp [ChosenN] at h
  | _ :: _, some _, [], h => by simp [ChosenN] at h
  | s :: ss, none, p :: ps, h => by simp only [ChosenN] at h; simp [chosen_len ss _ ps h.2.2]
  | s :: ss, some _, p :: ps, h => by simp only [ChosenN] at h; simp [chosen_len ss _ ps h.2.2]
end Go.Proofs.YtkfpiadgjbhcpaaGreatDoor
namespace Go.Proofs.YtkfpiadgjbhcpaaGreatDoor
open Go Go.RowKit Go.Lib
open Go.Av (Fr rowOf WriteC StringC)

theorem jb : ∃ j, Tryz.prog.info? 132 = some j ∧ j.size = 2 := Option.map_eq_some_iff.1 (show (Tryz.prog.info? 132).map (·.size) = some 2 by kernel_rfl)

set_option maxRecDepth 100000 in
theorem cc_used (b : Nat) (w : World) (h0 : w.cell? ⟨b, 0, none⟩ = some (.pointer (some ⟨b, 0, none⟩))) :
    Calls Tryz.prog 112 #[.pointer (some ⟨b, 0, none⟩)] w fun e w' => e = .returned (.tuple #[]) ∧ w' = w := by
  obtain ⟨j, hj, hjs⟩ := jb
  go_enter Tryz.func112, Tryz.ntmps112
  go_wp2
  rw [run_neq_ptr_same w _ Tryz.underlying129 hj]
  go_wp2
  go_end0
  exact ⟨rfl, rfl⟩

set_option maxRecDepth 100000 in
theorem cc_fresh (b : Nat) (w : World) (h0 : w.cell? ⟨b, 0, none⟩ = some (.pointer none)) (hsh : w.shape? b = some (132, 2)) (hfz : w.frozen? ⟨b, 0, none⟩ = false) :
    Calls Tryz.prog 112 #[.pointer (some ⟨b, 0, none⟩)] w fun e w' => e = .returned (.tuple #[]) ∧ w' = w.setCell ⟨b, 0, none⟩ (.pointer (some ⟨b, 0, none⟩)) := by
  obtain ⟨j, hj, hjs⟩ := jb
  go_enter Tryz.func112, Tryz.ntmps112
  go_wp2
  rw [run_to_unsafe w ⟨b, 0, none⟩ Tryz.underlying129 Tryz.underlying258 hj (by rw [hjs]; decide) hsh (Nat.zero_lt_succ 1)]
  simp only [Result.andThen]
  rw [Oper.upon_value]
  go_wp2
  rw [run_callFunc_extern Tryz.func175 (by kernel_rfl) (by kernel_rfl) (by kernel_rfl) (e := Extern.AbiNoEscape.same) (by kernel_rfl)]
  rw [run_noEscape]
  simp only [Result.andThen]
  rw [Oper.upon_value]
  go_wp2
  rw [run_from_unsafe w ⟨b, 0, none⟩ Tryz.underlying258 Tryz.underlying129 hj hsh (by kernel_rfl)]
  simp only [Result.andThen]
  rw [Oper.upon_value]
  go_wp2
  go_end0
  exact ⟨rfl, rfl⟩

theorem cc (B b : Nat) (bs : List Value) (w : World) (h : IsBuilder 132 5 B b bs w) : Calls Tryz.prog 112 #[.pointer (some ⟨b, 0, none⟩)] w fun e w' => e = .returned (.tuple #[]) ∧ BuilderAt 132 5 B b (.pointer (some ⟨b, 0, none⟩)) bs w' ∧
    Fr w w' b none ∧ w'.cell? ⟨b, 1, none⟩ = w.cell? ⟨b, 1, none⟩ := by
  rcases h with h | h
  · refine (cc_fresh b w h.cell0 h.shape h.frozen0).mono ?_
    rintro e w' ⟨rfl, rfl⟩
    refine ⟨rfl, h.used _, ⟨rfl, rfl, rfl, by simp [World.setCell], fun k _ hk _ => heap_setCell_other w _ k _ hk⟩, World.cell?_setCell_other _ _ _ _ (by simp)⟩
  · refine (cc_used b w h.cell0).mono ?_
    rintro e w' ⟨rfl, rfl⟩
    exact ⟨rfl, h, ⟨rfl, rfl, rfl, Nat.le_refl _, fun _ _ _ _ => rfl⟩, rfl⟩

end Go.Proofs.YtkfpiadgjbhcpaaGreatDoor
namespace Go.Proofs.YtkfpiadgjbhcpaaGreatDoor
open Go Go.Av Go.RowKit

theorem pch_lib {g : Std} {f : FuncId} {args : List AV} {r : AV} (vs : List Value) (v : Value) (hb : hasBody Tryz.prog f = true) (ha : ∀ h vs', RL h Lf0 true vs' args → vs' = vs) (hr : ∀ h, RV h Lf0 true v r)
    (H : ∀ w, Stands g w → Calls Tryz.prog f vs.toArray w fun e w' => e = .returned v ∧ Same w w') : PcH Tryz.prog g f args (· = r) := by
  refine ⟨hb, fun h w vs' hg hm hv => ?_⟩
  have := ha h vs' hv
  subst this
  refine (H w hg).mono ?_
  rintro e w' ⟨rfl, hs⟩
  exact ⟨v, r, h, rfl, rfl, fun b o v e => ⟨hs.cell (hm b o v e).1, (hm b o v e).2⟩, fun _ _ _ x => x, fun b o e n => (n e).elim, hs, hr h⟩
theorem pc_lib {f : FuncId} {args : List AV} {r : AV} (vs : List Value) (v : Value) (hb : hasBody Tryz.prog f = true) (ha : ∀ h vs', RL h Lf0 true vs' args → vs' = vs) (hr : ∀ h, RV h Lf0 true v r)
    (H : ∀ w, Calls Tryz.prog f vs.toArray w fun e w' => e = .returned v ∧ Same w w') : Pc Tryz.prog f args (· = r) := by
  refine ⟨hb, fun h w vs' hm hv => ?_⟩
  have := ha h vs' hv
  subst this
  refine (H w).mono ?_
  rintro e w' ⟨rfl, hs⟩
  exact ⟨v, r, h, rfl, rfl, fun b o v e => ⟨hs.cell (hm b o v e).1, (hm b o v e).2⟩, fun _ _ _ x => x, fun b o e n => (n e).elim, hs, hr h⟩

theorem rv_str {h : Mem} {v : Value} {s : List UInt8} (r : RV h Lf0 true v (.str s)) : v = .string ⟨s.toArray⟩ := by cases r with | str => rfl
theorem rv_int {h : Mem} {v : Value} {k : IntKind} {n : Int} (r : RV h Lf0 true v (.int k n)) : v = .int k n := by cases r with | int => rfl
theorem two_strs (s p : List UInt8) : ∀ h vs', RL h Lf0 true vs' [.str s, .str p] → vs' = [.string ⟨s.toArray⟩, .string ⟨p.toArray⟩] := by
  intro h vs' r
  cases r with | cons r1 r => cases r with | cons r2 r => cases r; rw [rv_str r1, rv_str r2]


theorem hasPrefix_pc (s p : List UInt8) : Pc Tryz.prog 178 [.str s, .str p] (· = .bool (Lib.hasPrefix s p)) :=
  pc_lib [_, _] (.bool (Lib.hasPrefix s p)) hB178 (two_strs s p) (fun h => .bool _) fun w => (Any.strings_HasPrefix Tryz.lays99 ⟨s.toArray⟩ ⟨p.toArray⟩ w).mono fun e w' ⟨h1, h2⟩ => ⟨h1, h2 ▸ .refl w⟩
theorem hasSuffix_pc (s p : List UInt8) (hs : s.length ≤ 9223372036854775807) : Pc Tryz.prog 187 [.str s, .str p] (· = .bool (Lib.hasSuffix s p)) :=
  pc_lib [_, _] (.bool (Lib.hasSuffix s p)) hB187 (two_strs s p) (fun h => .bool _) fun w => (Any.strings_HasSuffix Tryz.lays100 ⟨s.toArray⟩ ⟨p.toArray⟩ w hs).mono fun e w' ⟨h1, h2⟩ => ⟨h1, h2 ▸ .refl w⟩
theorem indexByte_pc (s : List UInt8) (c : Int) : Pc Tryz.prog 299 [.str s, .int .u8 c] (· = .int .i64 (Lib.indexByte s c.toNat.toUInt8)) :=
  pc_lib [.string ⟨s.toArray⟩, .int .u8 c] (.int .i64 (Lib.indexByte s c.toNat.toUInt8)) hB299 (fun h vs' r => by cases r with | cons r1 r => cases r with | cons r2 r => cases r; rw [rv_str r1, rv_int r2]) (fun h => .int _ _)
    fun w => (Any.strings_IndexByte Tryz.lays137 ⟨s.toArray⟩ c w).mono fun e w' ⟨h1, h2⟩ => ⟨h1, h2 ▸ .refl w⟩


theorem contains_pch {S : Std} (hS : LibOk S) (s p : List UInt8) (hs : s.length < 4294967281) : PcH Tryz.prog S 217 [.str s, .str p] (· = .bool (Lib.contains s p)) :=
  pch_lib [_, _] (.bool (Lib.contains s p)) hB217 (two_strs s p) (fun h => .bool _) fun w H => (Any.strings_Contains Tryz.lays144 ⟨s.toArray⟩ ⟨p.toArray⟩ _ w hs (hS.cell.choose_spec w H)).mono fun e w' ⟨h1, h2⟩ => ⟨h1, h2 ▸ .refl w⟩

attribute [go_sem ↓] Go.Av.br_true Go.Av.br_false Go.Av.dbr_true Go.Av.dbr_false Go.Av.dbri_true Go.Av.dbri_false Go.Av.dbrg_true Go.Av.dbrg_false
attribute [go_sem] Go.Av.run Go.Av.cont Go.Av.br Go.Av.dbr Go.Av.dx Go.Av.dxc Go.Av.dgrd Go.Av.dyld Go.Av.dres Go.Av.dcall Go.Av.calm Go.Av.fieldPlace? Go.Av.allHas Go.Av.step1 Go.Av.opN Go.Av.grdN Go.Av.resN Go.Av.condN Go.Av.exitN Go.Av.stopN Go.Av.exitIt Go.Av.dOk Go.Av.xop Go.Av.xbin Go.Av.xint Go.Av.xarith Go.Av.xstr Go.Av.xbool Go.Av.xpick Go.Av.xnot Go.Av.xneg Go.Av.xextract Go.Av.xpart Go.Av.xpartOk Go.Av.xindex Go.Av.xfieldF Go.Av.fieldD Go.Av.xnew Go.Av.xbox Go.Av.xalloc Go.Av.xfieldAddr Go.Av.xptrAddIf Go.Av.xindexAddr Go.Av.xloadC Go.Av.xload Go.Av.putCells Go.Av.reElem Go.Av.xstoreB Go.Av.xstore Go.Av.xconv Go.Av.xtext Go.Av.xlen Go.Av.xlen2 Go.Av.xcall Go.Av.xfill Go.Av.xbuild Go.Av.cut Go.Av.rep Go.Av.xbuildSlice Go.Av.xbuildSliceD Go.Av.isRow Go.Av.elemD Go.Av.isU8 Go.Av.ev Go.Av.evs Go.Av.evp Go.Av.put Go.Av.get Go.Av.ofConst Go.Av.yldD Go.Av.yldV Go.Av.notBool_undef Go.Av.args0 Go.Av.cellsOf cond_true cond_false decide_true decide_false decide_eq_true_eq decide_eq_false_iff_not List.getElem?_cons_zero List.getElem?_cons_succ List.getElem?_nil List.getD_cons_zero List.getD_cons_succ List.getD_nil List.set_cons_zero List.set_cons_succ List.length_cons List.length_nil List.cons_append List.nil_append List.append_nil List.all_cons List.all_nil List.map_cons List.map_nil List.take_succ_cons List.take_zero List.drop_succ_cons List.drop_zero Bool.and_true Bool.true_and Bool.and_self Bool.and_false Bool.false_and Go.Av.one Go.Av.frozen beq_self_eq_true true_and and_true forall_const false_implies implies_true and_self Option.map_some Option.map_none Nat.zero_add Nat.add_zero Nat.zero_mul Nat.mul_one Nat.one_mul Int.toNat_zero ne_eq not_false_eq_true not_true_eq_false Bool.true_eq_false Bool.false_eq_true List.toList_toArray Go.Av.inr Go.Av.byteOf Go.Av.isByte decide_eq_decide Bool.not_true Bool.not_false Bool.not_eq_true' Bool.or_true Bool.true_or Bool.or_false Bool.false_or ge_iff_le gt_iff_lt and_assoc Bool.decide_eq_true beq_iff_eq beq_eq_false_iff_ne bne_iff_ne bne_self_eq_false if_true if_false Bool.and_eq_true Bool.or_eq_true Bool.and_eq_false_imp Bool.or_eq_false_iff Bool.not_eq_false' Go.Av.has Option.isSome_some Option.isSome_none Int.toNat_natCast Int.cast_ofNat_Int List.length_append Go.Av.xapp2 Go.Av.xapp Go.Av.xappS Go.Av.xappD Go.Av.xappB Go.Av.notInt Go.Av.srcOf Go.Av.srcB Go.Av.byteAV Go.Av.splice' Go.Av.xcut Go.Av.xcutS Go.Av.xcutF Go.Av.xcutB Go.Av.xcutN Go.Av.xcut0 Go.Av.cutL Go.Av.loOf Go.Av.hiOf Go.Av.evo Go.Av.xmake Go.Av.zelem Go.Av.xmax Go.Av.xcopy2 Go.Av.xcopyS Go.Av.xcopyB Go.Av.xnil Go.Av.xcut3 Go.Av.ixOf Go.Av.xclear2 Go.Av.xclearB List.getElem?_toArray Go.Av.xbin2 Go.Av.xnileq Go.Av.xmapnil Go.Av.xempty Go.Av.xmkmap Go.Av.xmput Go.Av.xmputB Go.Av.xmputF Go.Av.isKey Go.Av.keyEq Go.Av.mfind Go.Av.xbin3 Go.Av.xeqs Go.Av.xeqop Go.Av.eqFs Go.Av.eqFN Go.Av.eqF1 Go.Av.bothB Go.Av.leafEq Go.Av.xlook Go.Av.xlookB Go.Av.xlookF Go.Av.xbytes Go.Av.beq_c_n Go.Av.beq_n_c Go.Av.bne_c_n Go.Av.bne_n_c Go.Av.one_nil Go.Av.dxi Go.Av.dxic Go.Av.dbri Go.Av.rix Go.Av.dck Go.Av.reader Go.Av.blind Go.Av.opOk Go.Av.refOk Go.Op.operands Go.Call.operands List.contains_cons List.contains_nil Go.Av.dxg Go.Av.dxgc Go.Av.dbrg Go.Av.pck Go.Av.putD List.lookup_cons List.lookup_nil Go.Av.xboxF Go.Av.xbox2 Go.Av.keyEqS Go.Av.isKeyS Go.Av.mfindS Go.Av.xputS Go.Av.xmputS Go.Av.xlookS Go.Av.xmentryF Go.Av.xmentryB Go.Av.xmentry Go.Av.xestoreB Go.Av.xestore Go.Av.xrangeB Go.Av.xrange Go.Av.xentryB Go.Av.xentryI Go.Av.xentry Go.Av.frozen0 Go.Av.isI Go.Av.xappZ Go.Av.xcap Go.Av.xcap2 ts2 tb2 zv2 zk2 za2 Tryz.underlying2 ts3 tb3 zv3 zk3 za3 Tryz.underlying3 ts4 tb4 zv4 zk4 za4 Tryz.underlying4 ts5 tb5 zv5 zk5 za5 Tryz.underlying5 ts9 tb9 zv9 zk9 za9 Tryz.underlying9 ts10 tb10 zv10 zk10 za10 Tryz.underlying10 ts21 tb21 zv21 zk21 za21 Tryz.underlying21 ts22 tb22 zv22 zk22 za22 Tryz.underlying22 ts24 tb24 zv24 zk24 za24 Tryz.underlying24 ts25 tb25 zv25 zk25 za25 Tryz.underlying25 ts26 tb26 zv26 zk26 za26 Tryz.underlying26 ts27 tb27 zv27 zk27 za27 Tryz.underlying27 ts28 tb28 zv28 zk28 za28 Tryz.underlying28 ts29 tb29 zv29 zk29 za29 Tryz.underlying29 ts30 tb30 zv30 zk30 za30 Tryz.underlying30 ts33 tb33 zv33 zk33 za33 Tryz.underlying33 ts34 tb34 zv34 zk34 za34 Tryz.underlying34 ts35 tb35 zv35 zk35 za35 Tryz.underlying35 ts36 tb36 zv36 zk36 za36 Tryz.underlying36 ts37 tb37 zv37 zk37 za37 Tryz.underlying37 ts40 tb40 zv40 zk40 za40 Tryz.underlying40 ts41 tb41 zv41 zk41 za41 Tryz.underlying41 ts54 tb54 zv54 zk54 za54 Tryz.underlying54 ts57 tb57 zv57 zk57 za57 Tryz.underlying57 ts58 tb58 zv58 zk58 za58 Tryz.underlying58 ts59 tb59 zv59 zk59 za59 Tryz.underlying59 ts60 tb60 zv60 zk60 za60 Tryz.underlying60 ts61 tb61 zv61 zk61 za61 Tryz.underlying61 ts62 tb62 zv62 zk62 za62 Tryz.underlying62 ts63 tb63 zv63 zk63 za63 Tryz.underlying63 ts66 tb66 zv66 zk66 za66 Tryz.underlying66 ts67 tb67 zv67 zk67 za67 Tryz.underlying67 ts97 tb97 zv97 zk97 za97 Tryz.underlying97 ts101 tb101 zv101 zk101 za101 Tryz.underlying101 ts102 tb102 zv102 zk102 za102 Tryz.underlying102 ts112 tb112 zv112 zk112 za112 Tryz.underlying112 ts113 tb113 zv113 zk113 za113 Tryz.underlying113 ts114 tb114 zv114 zk114 za114 Tryz.underlying114 ts118 tb118 zv118 zk118 za118 Tryz.underlying118 ts130 tb130 zv130 zk130 za130 Tryz.underlying130 ts131 tb131 zv131 zk131 za131 Tryz.underlying131 ts132 tb132 zv132 zk132 za132 Tryz.underlying132 ts134 tb134 zv134 zk134 za134 Tryz.underlying134 ts174 tb174 zv174 zk174 za174 Tryz.underlying174 ts175 tb175 zv175 zk175 za175 Tryz.underlying175 ts176 tb176 zv176 zk176 za176 Tryz.underlying176 ts177 tb177 zv177 zk177 za177 Tryz.underlying177 ts181 tb181 zv181 zk181 za181 Tryz.underlying181 ts182 tb182 zv182 zk182 za182 Tryz.underlying182 ts183 tb183 zv183 zk183 za183 Tryz.underlying183 ts186 tb186 zv186 zk186 za186 Tryz.underlying186 ts189 tb189 zv189 zk189 za189 Tryz.underlying189 ts191 tb191 zv191 zk191 za191 Tryz.underlying191 ts192 tb192 zv192 zk192 za192 Tryz.underlying192 ts198 tb198 zv198 zk198 za198 Tryz.underlying198 ts203 tb203 zv203 zk203 za203 Tryz.underlying203 ts238 tb238 zv238 zk238 za238 Tryz.underlying238 ts247 tb247 zv247 zk247 za247 Tryz.underlying247 ts248 tb248 zv248 zk248 za248 Tryz.underlying248 ts249 tb249 zv249 zk249 za249 Tryz.underlying249 ts250 tb250 zv250 zk250 za250 Tryz.underlying250 ts251 tb251 zv251 zk251 za251 Tryz.underlying251 ts258 tb258 zv258 zk258 za258 Tryz.underlying258 ts260 tb260 zv260 zk260 za260 Tryz.underlying260 ts265 tb265 zv265 zk265 za265 Tryz.underlying265 ts292 tb292 zv292 zk292 za292 Tryz.underlying292 ts293 tb293 zv293 zk293 za293 Tryz.underlying293 ts295 tb295 zv295 zk295 za295 Tryz.underlying295 ts298 tb298 zv298 zk298 za298 Tryz.underlying298 ts312 tb312 zv312 zk312 za312 Tryz.underlying312 ts333 tb333 Tryz.underlying333 ts343 tb343 zv343 zk343 za343 Tryz.underlying343 ts344 tb344 zv344 zk344 za344 Tryz.underlying344 ts346 tb346 zv346 zk346 za346 Tryz.underlying346 ts347 tb347 zv347 zk347 za347 Tryz.underlying347 ts348 tb348 zv348 zk348 za348 Tryz.underlying348 ts350 tb350 zv350 zk350 za350 Tryz.underlying350 ts358 tb358 Tryz.underlying358 ts360 tb360 zv360 zk360 za360 Tryz.underlying360 ts361 tb361 zv361 zk361 za361 Tryz.underlying361 ts362 tb362 Tryz.underlying362 ts367 tb367 zv367 zk367 za367 Tryz.underlying367 ts368 tb368 zv368 zk368 za368 Tryz.underlying368 ts369 tb369 zv369 zk369 za369 Tryz.underlying369 ts370 tb370 zv370 zk370 za370 Tryz.underlying370 ts371 tb371 zv371 zk371 za371 Tryz.underlying371 ts372 tb372 zv372 zk372 za372 Tryz.underlying372 ts373 tb373 zv373 zk373 za373 Tryz.underlying373 ts374 tb374 zv374 zk374 za374 Tryz.underlying374 ts376 tb376 zv376 zk376 za376 Tryz.underlying376 ts377 tb377 zv377 zk377 za377 Tryz.underlying377 ts382 tb382 zv382 zk382 za382 Tryz.underlying382 ts383 tb383 zv383 zk383 za383 Tryz.underlying383 ts384 tb384 Tryz.underlying384 ts385 tb385 Tryz.underlying385
attribute [go_sem] Nat.reduceAdd Nat.reduceMul Nat.reduceSub Nat.reduceBEq Nat.reduceLT Nat.reduceLeDiff reduceIte reduceCtorEq Int.reduceToNat Int.reduceLE Int.reduceLT Int.reduceNe Int.reduceMul Int.reduceAdd Int.reduceSub Int.reduceDiv Int.reduceMod Int.reduceEq Int.reduceGE Int.reduceGT Int.reduceNeg Int.reduceBEq Int.reduceBNe Nat.reduceEqDiff
end Go.Proofs.YtkfpiadgjbhcpaaGreatDoor
