/- From a contract in plain data to a row whose law takes a list of integers, reads listed tables' row and leans on a cell of the library's. Own work of this seat. -/
import Derived.Test.YtpjbbpilgfihbaaGreatDoorAvK
import Derived.Test.YtpjbbpilgfihbaaGreatDoorAvFz
import Derived.HandedShaped
import Derived.LaidMore
import Derived.Lay
import Derived.OpenShut
import Derived.ChangeSlices
import Derived.ProofKit
set_option linter.unusedSimpArgs false
set_option linter.unusedVariables false
namespace Go.Av
open Go Go.RowKit Go.WideShapes Go.ChangeShapes

/-- all cells of a world -/
def full (W : World) : Mem := fun b o => (W.cell? ⟨b, o, none⟩).filter (·.oneCell')
theorem full_of {W : World} {b o : Nat} {v : Value} (h : W.cell? ⟨b, o, none⟩ = some v) (hv : v.oneCell' = true) : full W b o = some v := by simp [full, h, Option.filter, hv]
theorem of_full {W : World} {b o : Nat} {v : Value} (h : full W b o = some v) : W.cell? ⟨b, o, none⟩ = some v ∧ v.oneCell' = true := by
  unfold full at h
  rw [Option.filter_eq_some_iff] at h
  exact h

theorem PcH.atW {P : Program} {g : Std} {f : FuncId} {args : List AV} {b : Bool} (hc : PcH P g f args (· = .bool b)) {W : World} {vs : List Value} (hg : Stands g W) (hv : RL (full W) Lf0 true vs args) :
    Calls P f vs.toArray W fun e W' => e = .returned (.bool b) ∧ Same W W' :=
  (hc.2 (full W) W vs hg (fun _ _ _ e => of_full e) hv).mono fun e W' ⟨v, r, h', e1, e2, _, _, _, hs, rv⟩ => by
    subst e2
    rw [rv_true rv] at e1
    exact ⟨e1, hs⟩

section
variable {H : Type} {enc : TypeId × Value → H} {P : Program} {t e : TypeId} {W : World} {base : Nat} {v : Value} {d : DataW H} {p : List MemPlace}

/-- a list of integers that is handed in: plain, and read again behind the call -/
theorem ints_arg (ht : P.underlying t = some (.slice e)) (he : P.underlying e = some (.int .i64)) (hc : P.cellsOf e = 1) (hval : Value.okWide P W .any base t v) (h0 : DataW.Trod enc P W 0 (fun _ => true) true t v d p) :
    ∃ L : List Int, (∀ x ∈ L, (Lit.int .i64 x).wf = true) ∧ RV (full W) Lf0 true v (.fz 1 (L.map (.int .i64))) ∧ ∀ W', Same W W' → ∀ sp : Nat → Bool, (∀ x ∈ p, sp x.block = true) → DataW.Trod enc P W' 0 sp true t v d p := by
  obtain ⟨a0, len, cap, rfl⟩ := okWide_slice ht hval
  obtain ⟨fuel, hf⟩ := h0
  rcases Go.ChangeShapes.open_ints ht he hc hf with ⟨hcs, hx⟩ | ⟨a, len', cap', zs, hcs, _, hl, hm, hz, hx, hcell, hwz⟩
  · simp only [Value.cells, List.cons.injEq, Value.slice.injEq, and_true] at hcs
    obtain ⟨rfl, rfl, rfl⟩ := hcs
    simp only [Prod.mk.injEq] at hx
    obtain ⟨rfl, rfl⟩ := hx
    exact ⟨[], by simp, .fznil 1, fun W' _ sp _ => shut_slice_nil ht⟩
  · simp only [Value.cells, List.cons.injEq, Value.slice.injEq, and_true] at hcs
    obtain ⟨rfl, rfl, rfl⟩ := hcs
    simp only [Prod.mk.injEq] at hx
    obtain ⟨rfl, rfl⟩ := hx
    simp only [if_true] at hz
    have hspot : a.spot = none := by
      simp only [Value.okWide, ht, Cell.okWide, Cell.ok] at hval
      exact hval.2.2.2.1
    obtain ⟨b, off, spot⟩ := a
    simp only at hspot
    subst hspot
    have hcell' : ∀ i, i < zs.length → W.cell? ⟨b, off + i, none⟩ = some (.int .i64 (zs.getD i 0)) := fun i hi => by rw [← Go.WideShapes.add_plain]; exact hcell i hi
    have htl : (zs.take len).length = len := by simp; omega
    refine ⟨zs.take len, fun x hx => hwz x (List.mem_of_mem_take hx), ?_, fun W' hs sp hsp => ?_⟩
    · have := RV.fz (h := full W) (Lf := Lf0) (fl := true) b off cap 1 ((zs.take len).map (.int .i64)) ((zs.take len).map (.int .i64)) ?_ (fun x hx => by obtain ⟨z, _, rfl⟩ := List.mem_map.1 hx; rfl) ?_ (by simp; omega)
      · rwa [List.length_map, htl] at this
      · generalize zs.take len = l
        induction l with
        | nil => exact .nil
        | cons x l ih => exact .cons (.int _ _) ih
      · intro k u hu
        rw [List.getElem?_map] at hu
        obtain ⟨z, hz1, rfl⟩ := Option.map_eq_some_iff.1 hu
        have hk : k < len := by
          have := (List.getElem?_eq_some_iff.1 hz1).1
          omega
        rw [List.getElem?_take_of_lt hk] at hz1
        have hkz : k < zs.length := (List.getElem?_eq_some_iff.1 hz1).1
        refine full_of ?_ rfl
        rw [hcell' k hkz]
        simp [List.getD, hz1]
    · have hcell2 : ∀ i, i < zs.length → W'.cell? ⟨b, off + i, none⟩ = some (.int .i64 (zs.getD i 0)) := fun i hi => hs.cell (hcell' i hi)
      refine ⟨0 + 2, ?_⟩
      refine Go.ChangeShapes.shut_ints' 0 ht he hc (Nat.zero_le _) hl hm ?_ hcell2 hwz
      rcases Nat.eq_zero_or_pos zs.length with h0 | h0
      · split <;> omega
      · have hb : sp b = true := hsp (.cell b off) (by
          have : 0 < zs.length := h0
          simp only [MemPlace.row]
          refine List.mem_map.2 ⟨0, by simp; omega, by simp⟩)
        rw [if_pos hb]
        exact hz
end

section
variable {H : Type} {enc : TypeId × Value → H}
/-- the wrap of a row that lists variables, the world's shape kept -/
theorem row_and_shaped {a : Assume} {C : Checked} {os : Os} {f : FuncId} {fn : Func} {s : ChangeSpec} {conds : List PathCond} {apart fresh handsOn again : Bool} {X : World → Array Value → Prop}
    (hX : ∀ (w w' : World) (args : Array Value), w.heap = w'.heap → X w args → X w' args)
    (own : ownKnob C.prog.godebug = none) (started : os.Started) (noInit : C.prog.inits.idxOf? f = none) (hfn : C.prog.funcs[f]? = some fn)
    (witness : ∃ (w : World) (tape : Tape) (i : Input), w.os = os ∧ (w.forCall tape i).Shaped C.prog ∧ i.vars = [] ∧ Input.okWide C.prog (w.forCall tape i) .any w.heap.size f i ∧
      ((s.pre enc C.prog fn conds apart (w.forCall tape i).memory i.args ∧ X (w.forCall tape i).memory i.args) ∧ sizedMet enc C.prog fn (OpenSpec.ofChange s) apart (w.forCall tape i).memory i.args) ∧ a.holds C.prog (lone (Frame.enter C.prog f i.args .normal) [] (w.forCall tape i)))
    (contract : ∀ (W : World) (base : Nat) (args : Array Value) (ds gs : List (DataW H)) (before : List MemPlace),
      (∀ (j : Nat) t v, fn.params[j]? = some t → args[j]? = some v → Value.okWide C.prog W .any base t v) →
      DataW.Whole enc C.prog fn.params.toList s.vars apart W args.toList ds gs before →
      W.ShapedOpen C.prog → X W args →
      Calls C.prog f args W fun e W' => ∃ v, e = .returned v ∧ s.post enc C.prog fn apart fresh handsOn again W args v W') :
    ReturnsInHanded a C os f .any (fun w args => (s.pre enc C.prog fn conds apart w args ∧ X w args) ∧ sizedMet enc C.prog fn (OpenSpec.ofChange s) apart w args) (s.post enc C.prog fn apart fresh handsOn again) := by
  refine returnsInHanded_of_calls own started noInit witness ?_
  intro w tape i _ hsh _ hok hpre hholds
  obtain ⟨_, _, _, fn', hfn', _, _, _, _, hval⟩ := hok
  have e : fn' = fn := Option.some.inj (hfn'.symm.trans hfn)
  subst e
  obtain ⟨⟨⟨ds, gs, before, hw, hc⟩, hx⟩, hz⟩ := hpre
  have hw' := DataW.Whole.of_heap (w' := w.forCall tape i) (by rfl) hw
  refine (contract (w.forCall tape i) w.heap.size i.args ds gs before hval hw' hsh (hX _ _ _ (by rfl) hx)).mono fun e W' ⟨v, he, hp⟩ => ?_
  subst he
  exact ChangeSpec.post_blind hp
end
end Go.Av
