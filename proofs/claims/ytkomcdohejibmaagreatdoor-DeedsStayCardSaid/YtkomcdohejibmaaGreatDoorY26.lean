/- The reference's keys and contents. Own work of this seat. -/
import Derived.Test.YtkomcdohejibmaaGreatDoorY25
import Derived.Test.YtkomcdohejibmaaGreatDoorY16
import Derived.Test.YtkomcdohejibmaaGreatDoorY22
import Derived.Test.YtkomcdohejibmaaGreatDoorY14
import Derived.ChangeSame
import Derived.Test.YtkomcdohejibmaaGreatDoorY17
import Derived.HandedShaped
import Derived.LaidMore
import Derived.Lay
import Derived.OpenShut
import Derived.ChangeSlices
import Derived.ProofKit
import Derived.Test.YtkomcdohejibmaaGreatDoorCards
import Derived.Test.YtkomcdohejibmaaGreatDoorTie
import Derived.Shelf.Vars
import Derived.LaidSub
import Derived.Lib.LaidTab
import Derived.Stop.LaidErr
set_option maxRecDepth 100000
set_option linter.unusedSimpArgs false
set_option linter.unusedVariables false
namespace Go.Proofs
open Go.Shelf
theorem Tryz.Builder_Extra_155 : Builder.Extra Tryz.prog Tryz.lays155_ren := {
  sizeBuilder := by kernel_rfl
  liesBuilder := by kernel_rfl
  t5 := Tryz.underlying5
  a5 := Tryz.isAgg5
  z5 := Tryz.sizeOf5
  v5 := Tryz.zeroValue5
  infoByte := by kernel_rfl
  cellsByte := by kernel_rfl
  sizeByte := by kernel_rfl
  neB5 := by decide }
end Go.Proofs
namespace Go.Proofs.YtkomcdohejibmaaGreatDoor
open Go Go.Av Go.RowKit

/-- what is leant on of the library's variables -/
structure LibD (S : Std) : Prop where
  maxlen : ∃ m cs t z, S 0 = some (.cells cs t z) ∧ cs[0]? = some (.int .i64 m)
theorem LibD.cell {S : Std} (hS : LibD S) : ∃ m, ∀ w, Stands S w → w.cell? ⟨0, 0, none⟩ = some (.int .i64 m) := by
  obtain ⟨m, cs, t, z, h, h0⟩ := hS.maxlen
  exact ⟨m, fun w hw => (Lib.cell_of_heap (hw _ _ h) 0).trans h0⟩

/-- out of the library's contracts -/
theorem l_pch {g : Std} {f : FuncId} {args : List AV} {r : AV} (vs : List Value) (v : Value) (hb : hasBody Tryz.prog f = true) (ha : ∀ h vs', RL h Lf0 true vs' args → vs' = vs) (hr : ∀ h, RV h Lf0 true v r)
    (H : ∀ w, Stands g w → Calls Tryz.prog f vs.toArray w fun e w' => e = .returned v ∧ Below w.heap.size w w') : PcH Tryz.prog g f args (· = r) := by
  refine ⟨hb, fun h w vs' hg hm hv => ?_⟩
  have := ha h vs' hv
  subst this
  refine (H w hg).mono ?_
  rintro e w' ⟨rfl, hs⟩
  have hs : Same w w' := ⟨hs.os, hs.tape, ⟨hs.output, trivial⟩, hs.size, hs.block⟩
  exact ⟨v, r, h, rfl, rfl, fun b o v e => ⟨hs.cell (hm b o v e).1, (hm b o v e).2⟩, fun _ _ _ x => x, fun b o e n => (n e).elim, hs, hr h⟩
theorem l_pc {f : FuncId} {args : List AV} {r : AV} (vs : List Value) (v : Value) (hb : hasBody Tryz.prog f = true) (ha : ∀ h vs', RL h Lf0 true vs' args → vs' = vs) (hr : ∀ h, RV h Lf0 true v r)
    (H : ∀ w, Calls Tryz.prog f vs.toArray w fun e w' => e = .returned v ∧ Below w.heap.size w w') : Pc Tryz.prog f args (· = r) := by
  refine ⟨hb, fun h w vs' hm hv => ?_⟩
  have := ha h vs' hv
  subst this
  refine (H w).mono ?_
  rintro e w' ⟨rfl, hs⟩
  have hs : Same w w' := ⟨hs.os, hs.tape, ⟨hs.output, trivial⟩, hs.size, hs.block⟩
  exact ⟨v, r, h, rfl, rfl, fun b o v e => ⟨hs.cell (hm b o v e).1, (hm b o v e).2⟩, fun _ _ _ x => x, fun b o e n => (n e).elim, hs, hr h⟩

def asciiD (s : List UInt8) : Prop := ∀ b ∈ s, b.toNat < 128
theorem ascii_d {s : List UInt8} (h : s.all (fun b => decide (b.toNat < 128)) = true) : asciiD s := fun b hb => of_decide_eq_true (List.all_eq_true.1 h b hb)
theorem ascii_dat {s : List UInt8} (h : asciiD s) : ∀ (j : Nat) b, (⟨s.toArray⟩ : ByteArray).data.toList[j]? = some b → b.toNat < 128 := fun j b hb => h b (List.mem_of_getElem? hb)
theorem setD160 : (Tryz.prog.info? (Tryz.lays160_ren.t 116)).map (fun i => (i.zero, i.size)) = some (some (.agg (Array.replicate 256 (.bool false))), 256) := by kernel_rfl
theorem dtrim_pc (s p : List UInt8) (hs : s.length < 4294967281) (hp : p.length < 4294967281) (h2 : asciiD p) : Pc Tryz.prog 185 [.str s, .str p] (· = .str (Lib.trimS s p)) :=
  l_pc [_, _] (.string ⟨(Lib.trimS s p).toArray⟩) hB185 (o_two s p) (fun h => .str _) fun w => Any.strings_Trim_laid Tryz.lays160 setD160 ⟨s.toArray⟩ ⟨p.toArray⟩ w (show s.length ≤ _ by omega) hp (ascii_dat h2)

theorem made_pc (s p : List UInt8) (hs : s.length < 1000000) (hp : p.length < 1000) (h2 : asciiD p) : Pc Tryz.prog 156 [.str s, .str p] (· = .bool (Lib.trimS s p == [])) := by
  have ht := dtrim_pc s p (by omega) (by omega) h2
  refine pc_intro (ct_intro Tryz.func156 rfl Tryz.ntmps156 hB156 (by simp) fun h ρ w => goB (N := 9) Tryz.ntmps156 300 ?_)
  simp only [go_sem]
  refine pcall1 (ht) rfl (N := 9) Tryz.ntmps156 rfl (goB (N := 9) Tryz.ntmps156 300 ?_)
  simp only [go_sem]
  exact aret [4] rfl ⟨rfl, rfl⟩
theorem long_pc (s : List UInt8) (a b : Int) : Pc Tryz.prog 155 [.str s, .int .i64 a, .int .i64 b] (· = .bool (decide ((s.length : Int) ≥ a) && decide ((s.length : Int) ≤ b))) := by
  refine pc_intro (ct_intro Tryz.func155 rfl Tryz.ntmps155 hB155 (by simp) fun h ρ w => goB (N := 17) Tryz.ntmps155 300 ?_)
  cases d1 : decide ((s.length : Int) ≥ a) with
  | true =>
    simp only [go_sem, d1]
    exact aret [6] rfl ⟨by simp [resV, Av.get, Av.put], rfl⟩
  | false =>
    simp only [go_sem, d1]
    exact aret [6] rfl ⟨by simp [resV, Av.get, Av.put], rfl⟩

def keyO (s : List UInt8) : Bool := (decide ((s.length : Int) ≥ 1) && decide ((s.length : Int) ≤ 20)) && (Lib.trimS s [97, 98, 99, 100, 101, 102, 103, 104, 105, 106, 107, 108, 109, 110, 111, 112, 113, 114, 115, 116, 117, 118, 119, 120, 121, 122, 48, 49, 50, 51, 52, 53, 54, 55, 56, 57, 45] == []) && (Lib.trimS (s.take 1) [97, 98, 99, 100, 101, 102, 103, 104, 105, 106, 107, 108, 109, 110, 111, 112, 113, 114, 115, 116, 117, 118, 119, 120, 121, 122] == [])
theorem keyOf_pc (s : List UInt8) (hs : s.length < 1000000) : Pc Tryz.prog 102 [.str s] (· = .bool (keyO s)) := by
  have h1 := long_pc s 1 20
  have h2 := made_pc s [97, 98, 99, 100, 101, 102, 103, 104, 105, 106, 107, 108, 109, 110, 111, 112, 113, 114, 115, 116, 117, 118, 119, 120, 121, 122, 48, 49, 50, 51, 52, 53, 54, 55, 56, 57, 45] hs (by decide) (ascii_d (by decide))
  have h3 := made_pc (s.take 1) [97, 98, 99, 100, 101, 102, 103, 104, 105, 106, 107, 108, 109, 110, 111, 112, 113, 114, 115, 116, 117, 118, 119, 120, 121, 122] (by simp; omega) (by decide) (ascii_d (by decide))
  refine pc_intro (ct_intro Tryz.func102 rfl Tryz.ntmps102 hB102 (by simp) fun h ρ w => goB (N := 14) Tryz.ntmps102 300 ?_)
  simp only [go_sem]
  refine pcall1 (h1) rfl (N := 14) Tryz.ntmps102 rfl (goB (N := 14) Tryz.ntmps102 300 ?_)
  by_cases hl : 1 ≤ s.length ∧ s.length ≤ 20
  · have e1 : (decide ((s.length : Int) ≥ 1) && decide ((s.length : Int) ≤ 20)) = true := by simp; omega
    rw [e1]
    simp only [go_sem]
    refine pcall1 (h2) rfl (N := 14) Tryz.ntmps102 rfl (goB (N := 14) Tryz.ntmps102 300 ?_)
    cases h4 : (Lib.trimS s [97, 98, 99, 100, 101, 102, 103, 104, 105, 106, 107, 108, 109, 110, 111, 112, 113, 114, 115, 116, 117, 118, 119, 120, 121, 122, 48, 49, 50, 51, 52, 53, 54, 55, 56, 57, 45] == []) with
    | true =>
      have e5 : decide ((1 : Int) ≤ (s.length : Int)) = true := by simp; omega
      simp only [go_sem, e5]
      refine And.intro (by omega) ?_
      refine pcall1 (h3) rfl (N := 14) Tryz.ntmps102 rfl (goB (N := 14) Tryz.ntmps102 300 ?_)
      simp only [go_sem]
      exact aret [2] rfl ⟨by simp only [resV, Av.get, Av.put, keyO, e1, h4, Bool.true_and]; rfl, rfl⟩
    | false =>
      simp only [go_sem]
      exact aret [2] rfl ⟨by simp only [resV, Av.get, Av.put, keyO, e1, h4, Bool.true_and, Bool.false_and]; rfl, rfl⟩
  · have e1 : (decide ((s.length : Int) ≥ 1) && decide ((s.length : Int) ≤ 20)) = false := by simp; omega
    rw [e1]
    simp only [go_sem]
    exact aret [2] rfl ⟨by simp only [resV, Av.get, Av.put, keyO, e1, Bool.false_and]; rfl, rfl⟩
end Go.Proofs.YtkomcdohejibmaaGreatDoor
/- From a contract in plain data to the row: what was there when the call began stands. Own work of this seat. -/
set_option linter.unusedSimpArgs false
set_option linter.unusedVariables false
set_option linter.unusedSectionVars false
namespace Go.Av
open Go Go.RowKit Go.WideShapes Go.ChangeShapes
variable [Tr]

theorem Same.below {W W' : World} (s : Same W W') : Below W.heap.size W W' := ⟨s.os, s.tape, s.output.1, s.size, s.block⟩

theorem rv_true {h : Mem} {v : Value} {b : Bool} (r : RV h Lf0 true v (.bool b)) : v = .bool b := by
  cases r with
  | bool => rfl

section
variable {H : Type} {enc : TypeId × Value → H} {P : Program}
/-- a call behind which all old blocks stand: the row's last step -/
theorem post_of_old {f : Func} {s : ChangeSpec} {apart fresh handsOn again : Bool} {W W' : World} {args : Array Value} {v : Value} {ds gs : List (DataW H)} {before pa pv : List MemPlace}
    (hW : DataW.Whole enc P f.params.toList s.vars apart W args.toList ds gs before)
    (hres : ∀ (b : Nat) (sp : Nat → Bool) (hd : Bool), DataW.TrodAll enc P W' b sp hd f.resultTypes.toList (v.resultList f.resultTypes.size) (s.fn H (ds ++ gs)).results [])
    (hargs : ∀ sp : Nat → Bool, (∀ p ∈ before, sp p.block = true) → DataW.TrodAll enc P W' 0 sp true f.params.toList args.toList (s.fn H (ds ++ gs)).args pa)
    (hvars : ∀ sp : Nat → Bool, (∀ p ∈ before, sp p.block = true) → DataW.TrodVars enc P W' sp s.vars (s.fn H (ds ++ gs)).vars pv)
    (hps : before = pa ++ pv) (hs : Same W W')
    (hok : ∀ (j : Nat) (t : TypeId) (r : Value), f.resultTypes[j]? = some t → (v.resultList f.resultTypes.size)[j]? = some r → Value.okWide P W' .any 0 t r) :
    s.post enc P f apart fresh handsOn again W args v W' := by
  have hb := hs.below
  have hlt : ∀ p ∈ before, p.block < W.heap.size := fun p hp => hW.lt p hp
  have hold : ∀ p ∈ before, (fun b => decide (b < W.heap.size)) p.block = true := fun p hp => decide_eq_true (hlt p hp)
  have hwritten : ∀ p ∈ before, p ∈ before ∧ (p ∈ ([] : List MemPlace) ++ pa ∨ p ∈ pv) := fun p hp => ⟨hp, by rw [hps] at hp; simpa using hp⟩
  refine ⟨ds, gs, before, [], pa, pv, hW, hres _ _ _, hargs _ hold, hvars _ hold, World.keptBut_mono (fun p hp => ⟨hp, ?_⟩) (hb.frame (· ∈ before)), fun _ => ?_⟩
  · have := (hwritten p hp).2
    simpa using this
  · obtain ⟨_, _, _, _, _, hz, hn⟩ := hW
    refine ⟨hok, _, _, ([] ++ pa) ++ pv, ⟨[] ++ pa, pv, trodAll_append (hargs _ (fun _ _ => rfl)) (hres _ _ _), hvars _ (fun _ _ => rfl), rfl, ?_, ?_⟩, ?_⟩
    · intro b off hp
      have hin : MemPlace.cell b off ∈ before := by rw [hps]; simpa using hp
      rw [hb.frozen (hlt _ hin)]
      exact hz b off hin
    · intro ha
      have h2 := hn ha
      rw [hps] at h2
      simpa using h2
    · intro p hp _
      rw [hps]
      simpa using hp
end
end Go.Av
/- From a contract in plain data to a row whose law takes a list of integers, reads listed tables' row and leans on a cell of the library's. Own work of this seat. -/
set_option linter.unusedSimpArgs false
set_option linter.unusedVariables false
set_option linter.unusedSectionVars false
namespace Go.Av
open Go Go.RowKit Go.WideShapes Go.ChangeShapes
variable [Tr]

/-- all cells of a world -/
def full (W : World) : Mem := fun b o => (W.cell? ⟨b, o, none⟩).filter (·.oneCell')
theorem full_of {W : World} {b o : Nat} {v : Value} (h : W.cell? ⟨b, o, none⟩ = some v) (hv : v.oneCell' = true) : full W b o = some v := by simp [full, h, Option.filter, hv]
theorem of_full {W : World} {b o : Nat} {v : Value} (h : full W b o = some v) : W.cell? ⟨b, o, none⟩ = some v ∧ v.oneCell' = true := by
  unfold full at h
  rw [Option.filter_eq_some_iff] at h
  exact h

theorem PcH.atW {P : Program} {g : Std} {f : FuncId} {args : List AV} {b : Bool} (hc : PcH P g f args (· = .bool b)) {W : World} {vs : List Value} (hg : Stands g W) (hv : RL (full W) Lf0 true vs args) :
    Calls P f vs.toArray W fun e W' => e = .returned (.bool b) ∧ Same W W' :=
  (hc.2 (full W) W vs hg (fun _ _ _ e => of_full e) hv).mono fun e W' ⟨v, r, h', e1, e2, _, _, _, hs, rv⟩ => by
    subst e2
    rw [rv_true rv] at e1
    exact ⟨e1, hs⟩

section
variable {H : Type} {enc : TypeId × Value → H} {P : Program} {t e : TypeId} {W : World} {base : Nat} {v : Value} {d : DataW H} {p : List MemPlace}

/-- a list of integers that is handed in: plain, and read again behind the call -/
theorem ints_arg (ht : P.underlying t = some (.slice e)) (he : P.underlying e = some (.int .i64)) (hc : P.cellsOf e = 1) (hval : Value.okWide P W .any base t v) (h0 : DataW.Trod enc P W 0 (fun _ => true) true t v d p) :
    ∃ L : List Int, (∀ x ∈ L, (Lit.int .i64 x).wf = true) ∧ RV (full W) Lf0 true v (.fz 1 (L.map (.int .i64))) ∧ ∀ W', Same W W' → ∀ sp : Nat → Bool, (∀ x ∈ p, sp x.block = true) → DataW.Trod enc P W' 0 sp true t v d p := by
  obtain ⟨a0, len, cap, rfl⟩ := okWide_slice ht hval
  obtain ⟨fuel, hf⟩ := h0
  rcases Go.ChangeShapes.open_ints ht he hc hf with ⟨hcs, hx⟩ | ⟨a, len', cap', zs, hcs, _, hl, hm, hz, hx, hcell, hwz⟩
  · simp only [Value.cells, List.cons.injEq, Value.slice.injEq, and_true] at hcs
    obtain ⟨rfl, rfl, rfl⟩ := hcs
    simp only [Prod.mk.injEq] at hx
    obtain ⟨rfl, rfl⟩ := hx
    exact ⟨[], by simp, .fznil 1, fun W' _ sp _ => shut_slice_nil ht⟩
  · simp only [Value.cells, List.cons.injEq, Value.slice.injEq, and_true] at hcs
    obtain ⟨rfl, rfl, rfl⟩ := hcs
    simp only [Prod.mk.injEq] at hx
    obtain ⟨rfl, rfl⟩ := hx
    simp only [if_true] at hz
    have hspot : a.spot = none := by
      simp only [Value.okWide, ht, Cell.okWide, Cell.ok] at hval
      exact hval.2.2.2.1
    obtain ⟨b, off, spot⟩ := a
    simp only at hspot
    subst hspot
    have hcell' : ∀ i, i < zs.length → W.cell? ⟨b, off + i, none⟩ = some (.int .i64 (zs.getD i 0)) := fun i hi => by rw [← Go.WideShapes.add_plain]; exact hcell i hi
    have htl : (zs.take len).length = len := by simp; omega
    refine ⟨zs.take len, fun x hx => hwz x (List.mem_of_mem_take hx), ?_, fun W' hs sp hsp => ?_⟩
    · have := RV.fz (h := full W) (Lf := Lf0) (fl := true) b off cap 1 ((zs.take len).map (.int .i64)) ((zs.take len).map (.int .i64)) ?_ (fun x hx => by obtain ⟨z, _, rfl⟩ := List.mem_map.1 hx; rfl) ?_ (by simp; omega)
      · rwa [List.length_map, htl] at this
      · generalize zs.take len = l
        induction l with
        | nil => exact .nil
        | cons x l ih => exact .cons (.int _ _) ih
      · intro k u hu
        rw [List.getElem?_map] at hu
        obtain ⟨z, hz1, rfl⟩ := Option.map_eq_some_iff.1 hu
        have hk : k < len := by
          have := (List.getElem?_eq_some_iff.1 hz1).1
          omega
        rw [List.getElem?_take_of_lt hk] at hz1
        have hkz : k < zs.length := (List.getElem?_eq_some_iff.1 hz1).1
        refine full_of ?_ rfl
        rw [hcell' k hkz]
        simp [List.getD, hz1]
    · have hcell2 : ∀ i, i < zs.length → W'.cell? ⟨b, off + i, none⟩ = some (.int .i64 (zs.getD i 0)) := fun i hi => hs.cell (hcell' i hi)
      refine ⟨0 + 2, ?_⟩
      refine Go.ChangeShapes.shut_ints' 0 ht he hc (Nat.zero_le _) hl hm ?_ hcell2 hwz
      rcases Nat.eq_zero_or_pos zs.length with h0 | h0
      · split <;> omega
      · have hb : sp b = true := hsp (.cell b off) (by
          have : 0 < zs.length := h0
          simp only [MemPlace.row]
          refine List.mem_map.2 ⟨0, by simp; omega, by simp⟩)
        rw [if_pos hb]
        exact hz
end

section
variable {H : Type} {enc : TypeId × Value → H}
/-- the wrap of a row that lists variables, the world's shape kept -/
theorem row_and_shaped {a : Assume} {C : Checked} {os : Os} {f : FuncId} {fn : Func} {s : ChangeSpec} {conds : List PathCond} {apart fresh handsOn again : Bool} {X : World → Array Value → Prop}
    (hX : ∀ (w w' : World) (args : Array Value), w.heap = w'.heap → X w args → X w' args)
    (own : ownKnob C.prog.godebug = none) (started : os.Started) (noInit : C.prog.inits.idxOf? f = none) (hfn : C.prog.funcs[f]? = some fn)
    (witness : ∃ (w : World) (tape : Tape) (i : Input), w.os = os ∧ (w.forCall tape i).Shaped C.prog ∧ i.vars = [] ∧ Input.okWide C.prog (w.forCall tape i) .any w.heap.size f i ∧
      ((s.pre enc C.prog fn conds apart (w.forCall tape i).memory i.args ∧ X (w.forCall tape i).memory i.args) ∧ sizedMet enc C.prog fn (OpenSpec.ofChange s) apart (w.forCall tape i).memory i.args) ∧ a.holds C.prog (lone (Frame.enter C.prog f i.args .normal) [] (w.forCall tape i)))
    (contract : ∀ (W : World) (base : Nat) (args : Array Value) (ds gs : List (DataW H)) (before : List MemPlace),
      (∀ (j : Nat) t v, fn.params[j]? = some t → args[j]? = some v → Value.okWide C.prog W .any base t v) →
      DataW.Whole enc C.prog fn.params.toList s.vars apart W args.toList ds gs before →
      W.ShapedOpen C.prog → X W args →
      Calls C.prog f args W fun e W' => ∃ v, e = .returned v ∧ s.post enc C.prog fn apart fresh handsOn again W args v W') :
    ReturnsInHanded a C os f .any (fun w args => (s.pre enc C.prog fn conds apart w args ∧ X w args) ∧ sizedMet enc C.prog fn (OpenSpec.ofChange s) apart w args) (s.post enc C.prog fn apart fresh handsOn again) := by
  refine returnsInHanded_of_calls own started noInit witness ?_
  intro w tape i _ hsh _ hok hpre hholds
  obtain ⟨_, _, _, fn', hfn', _, _, _, _, hval⟩ := hok
  have e : fn' = fn := Option.some.inj (hfn'.symm.trans hfn)
  subst e
  obtain ⟨⟨⟨ds, gs, before, hw, hc⟩, hx⟩, hz⟩ := hpre
  have hw' := DataW.Whole.of_heap (w' := w.forCall tape i) (by rfl) hw
  refine (contract (w.forCall tape i) w.heap.size i.args ds gs before hval hw' hsh (hX _ _ _ (by rfl) hx)).mono fun e W' ⟨v, he, hp⟩ => ?_
  subst he
  exact ChangeSpec.post_blind hp
end
end Go.Av
/- What all laws of this seat share: the library's own variables, and the row's frame. Own work of this seat. -/
set_option maxRecDepth 100000
set_option linter.unusedSimpArgs false
set_option linter.unusedVariables false
namespace Go.Proofs.YtkomcdohejibmaaGreatDoor
open Go Go.Av Go.RowKit Go.ChangeShapes Go.WideShapes Go.ChangeAt

theorem own : ownKnob Tryz.prog.godebug = none := by kernel_rfl
theorem c3 : Tryz.prog.cellsOf 3 = 1 := by kernel_rfl

/-- the blocks of the package-level variables -/
def stdOf (W : World) : Std := fun k => if k < 1000 then W.heap[k]? else none
theorem stands (W : World) : Stands (stdOf W) W := fun k o e => by
  unfold stdOf at e
  split at e
  · exact e
  · cases e

theorem libD_ok {W : World} (h : W.ShapedOpen Tryz.prog) : LibD (stdOf W) := by
  refine ⟨?_⟩
  obtain ⟨zero, t, hz⟩ : ∃ zero t, ((begin Tryz.prog (fun _ _ => 0) default).world.heap[0]?).bind Obj.row? = some (zero, t) ∧ zero.size = 1 ∧ Tryz.prog.buildable t = true ∧ Tryz.prog.cellTypes Tryz.prog.depth t = some [t] ∧ Tryz.prog.underlying t = some (.int .i64) := by
    refine ⟨#[.int .i64 0], 3, by kernel_rfl, by kernel_rfl, by kernel_rfl, by kernel_rfl, by kernel_rfl⟩
  obtain ⟨m, hm⟩ := Go.Proofs.cell_of_shapedOpen_int h (g := 0) (of_decide_eq_true (by kernel_rfl)) hz.1 hz.2.1 hz.2.2.1 hz.2.2.2.1 hz.2.2.2.2
  unfold World.cell? at hm
  split at hm
  · rename_i cs t z hq
    exact ⟨m, cs, t, z, hq, by simpa using hm⟩
  · cases hm
end Go.Proofs.YtkomcdohejibmaaGreatDoor
/- The reference's contentFault. Own work of this seat. -/
set_option maxRecDepth 100000
set_option linter.unusedSimpArgs false
set_option linter.unusedVariables false
namespace Go.Proofs.YtkomcdohejibmaaGreatDoor
open Go Go.Av Go.RowKit

/-- ReplaceAll of line feeds by nothing -/
def noLf (s : List UInt8) : List UInt8 := Lib.replaceAll s [10] []
theorem rk_mem : ∀ (k : Nat) (s : List UInt8) (b : UInt8), b ∈ s → b ≠ 10 → b ∈ Lib.replaceK [10] [] k s
  | 0, s, b, h, _ => h
  | k + 1, s, b, h, hn => by
    rcases Lib.index_spec s [10] with ⟨h1, _⟩ | ⟨i, h1, h2, h3, _⟩
    · rw [Lib.replaceK, h1]; exact h
    · rw [Lib.replaceK_hit _ _ _ _ i h1]
      rw [← List.take_append_drop i s, List.mem_append] at h
      rw [List.append_nil, List.mem_append]
      rcases h with h | h
      · exact .inl h
      · refine .inr (rk_mem k _ b ?_ hn)
        simp only [Lib.occAt] at h3
        cases hd : s.drop i with
        | nil => rw [hd] at h; cases h
        | cons c r =>
          rw [hd] at h h3
          have hc : c = 10 := by
            have h4 : 10 = c := by simpa using h3
            exact h4.symm
          have hr : s.drop (i + [(10 : UInt8)].length) = r := by
            rw [← List.drop_drop, hd]; rfl
          rw [hr]
          rcases List.mem_cons.1 h with rfl | h
          · exact absurd hc hn
          · exact h
theorem rk_len : ∀ (k : Nat) (s : List UInt8), (Lib.replaceK [10] [] k s).length ≤ s.length
  | 0, s => Nat.le_refl _
  | k + 1, s => by
    rcases Lib.index_spec s [10] with ⟨h1, _⟩ | ⟨i, h1, h2, h3, _⟩
    · rw [Lib.replaceK, h1]; exact Nat.le_refl _
    · rw [Lib.replaceK_hit _ _ _ _ i h1]
      have := rk_len k (s.drop (i + [(10 : UInt8)].length))
      simp only [List.length_append, List.length_take, List.length_drop, List.length_cons, List.length_nil] at this ⊢
      omega
theorem noLf_mem {s : List UInt8} {b : UInt8} (h : b ∈ s) (hn : b ≠ 10) : b ∈ noLf s := by
  unfold noLf Lib.replaceAll Lib.replace
  split
  · exact h
  · exact rk_mem _ _ _ h hn
theorem noLf_len (s : List UInt8) : (noLf s).length ≤ s.length := by
  unfold noLf Lib.replaceAll Lib.replace
  split
  · exact Nat.le_refl _
  · exact rk_len _ _
theorem o_three (s p q : List UInt8) : ∀ h vs', RL h Lf0 true vs' [.str s, .str p, .str q] → vs' = [.string ⟨s.toArray⟩, .string ⟨p.toArray⟩, .string ⟨q.toArray⟩] := by
  intro h vs' r
  cases r with | cons r1 r => cases r with | cons r2 r => cases r with | cons r3 r => cases r; rw [o_str r1, o_str r2, o_str r3]
theorem noLf_pch {S : Std} (hS : LibD S) (s : List UInt8) (hs : s.length < 1000000) : PcH Tryz.prog S 158 [.str s, .str [10], .str []] (· = .str (noLf s)) :=
  l_pch [_, _, _] (.string ⟨(noLf s).toArray⟩) hB158 (o_three s [10] []) (fun h => .str _) fun w H =>
    Any.strings_ReplaceAll Tryz.lays155 Tryz.Builder_Extra_155 ⟨s.toArray⟩ ⟨[(10 : UInt8)].toArray⟩ ⟨([] : List UInt8).toArray⟩ _ w (show s.length < _ by omega) (hS.cell.choose_spec w H) (by decide) (show s.length + _ * 0 ≤ _ by omega)

def prC (m : Nat) : Bool := decide (32 ≤ m) && decide (m ≤ 126)
def prL (s : List UInt8) : Bool := s.all fun c => prC c.toNat
theorem printable_pc (s : List UInt8) (hl : s.length < 1000000) : Pc Tryz.prog 157 [.str s] (· = .bool (prL s)) := by
  refine pc_intro (ct_intro Tryz.func157 rfl Tryz.ntmps157 hB157 (by simp) fun h ρ w => goB (N := 20) Tryz.ntmps157 300 ?_)
  simp only [go_sem]
  refine aloop (ι := Nat) (fun i => s.length - i) (fun i => [(3, .int .i64 i), (0, .str s)]) (fun _ => []) (fun i => i ≤ s.length ∧ (s.take i).all (fun c => prC c.toNat) = true) 0 ⟨by simp, by simp⟩ ?_ ?_
  · refine Shift.weak ?_
    simp only [wk, go_sem]
  · rintro i ⟨g1, g2⟩ J hJ
    by_cases gi : i < s.length
    · have di : decide ((i : Int) < (s.length : Int)) = true := by simp; omega
      have hn : (i : Int).toNat = i := by simp
      have hx : s.getD i 0 = s[i] := by simp [List.getD, gi]
      have hgo : prC s[i].toNat = true → ∀ a w, Sim _ _ _ a w → J a w := fun hc => hJ (i + 1) ⟨by omega, by
        rw [← List.take_append_getElem gi, List.all_append, g2]; simp [hc]⟩ (by omega)
      have hno : prC s[i].toNat = false → prL s = false := fun hc => by
        unfold prL
        rw [List.all_eq_false]
        exact ⟨s[i], List.getElem_mem gi, by simp [hc]⟩
      obtain ⟨m, hm⟩ : ∃ m, s[i].toNat = m := ⟨_, rfl⟩
      rw [hm] at hgo hno
      refine goB (N := 20) Tryz.ntmps157 300 ?_
      cases d2 : decide ((m : Int) < 32) with
      | true =>
        simp only [go_sem, di, hn, hx, hm, d2]
        repeat refine And.intro (by first | omega | rfl) ?_
        exact aret [2] rfl ⟨by rw [hno (by simp [prC] at d2 ⊢; omega)]; rfl, rfl⟩
      | false =>
        cases d3 : decide ((m : Int) > 126) with
        | true =>
          simp only [go_sem, di, hn, hx, hm, d2, d3]
          repeat refine And.intro (by first | omega | rfl) ?_
          exact aret [2] rfl ⟨by rw [hno (by simp [prC] at d2 d3 ⊢; omega)]; rfl, rfl⟩
        | false =>
          simp only [go_sem, di, hn, hx, hm, d2, d3]
          repeat refine And.intro (by first | omega | rfl) ?_
          rw [show (i : Int) + 1 = ((i + 1 : Nat) : Int) by omega]
          refine ainv (hgo (by simp [prC] at d2 d3 ⊢; omega)) (Shift.weak ?_)
          simp only [wk, go_sem]
    · have di : decide ((i : Int) < (s.length : Int)) = false := by simp; omega
      have hk : prL s = true := by
        rw [List.take_of_length_le (by omega)] at g2; exact g2
      refine goB (N := 20) Tryz.ntmps157 300 ?_
      simp only [go_sem, di]
      exact aret [2] rfl ⟨by rw [hk]; rfl, rfl⟩

/-- the reference's error of what a deed says -/
def txO (text : List UInt8) : Bool := !prL (noLf text) || (text != [] && !Lib.hasSuffix text [10])
def contentL (kind : Int) (paper text person : List UInt8) : Int :=
  if kind < 1 ∨ kind > 5 then 4
  else if keyO paper = false then 5
  else if text.length > 20000 then 2
  else if text ≠ [] ∧ kind ≠ 1 then 3
  else if txO text = true then 3
  else if persB kind = true ∧ keyO person = false then 5
  else if persB kind = false ∧ person ≠ [] then 3
  else 0
end Go.Proofs.YtkomcdohejibmaaGreatDoor
