/- From a contract in plain data to a row whose law takes a list of integers, reads listed tables' row and leans on a cell of the library's. Own work of this seat. -/
import Derived.Test.YtikbgjhajgjjdaaGreatDoorP18
import Derived.Test.YtikbgjhajgjjdaaGreatDoorP15
import Derived.HandedShaped
import Derived.LaidMore
import Derived.Lay
import Derived.OpenShut
import Derived.ChangeSlices
import Derived.ProofKit
import Derived.Test.YtikbgjhajgjjdaaGreatDoorCards
import Derived.Test.YtikbgjhajgjjdaaGreatDoorTie
import Derived.Shelf.Vars
import Derived.LaidSub
import Derived.Lib.LaidTab
import Derived.Stop.LaidErr
import Derived.Test.YtikbgjhajgjjdaaGreatDoorP16
import Derived.Test.YtikbgjhajgjjdaaGreatDoorP13
set_option linter.unusedSimpArgs false
set_option linter.unusedVariables false
namespace Go.Av
open Go Go.RowKit Go.WideShapes Go.ChangeShapes

/-- all cells of a world -/
def full (W : World) : Mem := fun b o => (W.cell? ⟨b, o, none⟩).filter (·.oneCell')
theorem full_of {W : World} {b o : Nat} {v : Value} (h : W.cell? ⟨b, o, none⟩ = some v) (hv : v.oneCell' = true) : full W b o = some v := by simp [full, h, Option.filter, hv]
theorem of_full {W : World} {b o : Nat} {v : Value} (h : full W b o = some v) : W.cell? ⟨b, o, none⟩ = some v ∧ v.oneCell' = true := by
  unfold full at h
  rw [Option.filter_eq_some_iff] at h
  exact h

theorem PcH.atW {P : Program} {g : Std} {f : FuncId} {args : List AV} {b : Bool} (hc : PcH P g f args (· = .bool b)) {W : World} {vs : List Value} (hg : Stands g W) (hv : RL (full W) Lf0 true vs args) :
    Calls P f vs.toArray W fun e W' => e = .returned (.bool b) ∧ Same W W' :=
  (hc.2 (full W) W vs hg (fun _ _ _ e => of_full e) hv).mono fun e W' ⟨v, r, h', e1, e2, _, _, _, hs, rv⟩ => by
    subst e2
    rw [rv_true rv] at e1
    exact ⟨e1, hs⟩

section
variable {H : Type} {enc : TypeId × Value → H} {P : Program} {t e : TypeId} {W : World} {base : Nat} {v : Value} {d : DataW H} {p : List MemPlace}

/-- a list of integers that is handed in: plain, and read again behind the call -/
theorem ints_arg (ht : P.underlying t = some (.slice e)) (he : P.underlying e = some (.int .i64)) (hc : P.cellsOf e = 1) (hval : Value.okWide P W .any base t v) (h0 : DataW.Trod enc P W 0 (fun _ => true) true t v d p) :
    ∃ L : List Int, (∀ x ∈ L, (Lit.int .i64 x).wf = true) ∧ RV (full W) Lf0 true v (.fz 1 (L.map (.int .i64))) ∧ ∀ W', Same W W' → ∀ sp : Nat → Bool, (∀ x ∈ p, sp x.block = true) → DataW.Trod enc P W' 0 sp true t v d p := by
  obtain ⟨a0, len, cap, rfl⟩ := okWide_slice ht hval
  obtain ⟨fuel, hf⟩ := h0
  rcases Go.ChangeShapes.open_ints ht he hc hf with ⟨hcs, hx⟩ | ⟨a, len', cap', zs, hcs, _, hl, hm, hz, hx, hcell, hwz⟩
  · simp only [Value.cells, List.cons.injEq, Value.slice.injEq, and_true] at hcs
    obtain ⟨rfl, rfl, rfl⟩ := hcs
    simp only [Prod.mk.injEq] at hx
    obtain ⟨rfl, rfl⟩ := hx
    exact ⟨[], by simp, .fznil 1, fun W' _ sp _ => shut_slice_nil ht⟩
  · simp only [Value.cells, List.cons.injEq, Value.slice.injEq, and_true] at hcs
    obtain ⟨rfl, rfl, rfl⟩ := hcs
    simp only [Prod.mk.injEq] at hx
    obtain ⟨rfl, rfl⟩ := hx
    simp only [if_true] at hz
    have hspot : a.spot = none := by
      simp only [Value.okWide, ht, Cell.okWide, Cell.ok] at hval
      exact hval.2.2.2.1
    obtain ⟨b, off, spot⟩ := a
    simp only at hspot
    subst hspot
    have hcell' : ∀ i, i < zs.length → W.cell? ⟨b, off + i, none⟩ = some (.int .i64 (zs.getD i 0)) := fun i hi => by rw [← Go.WideShapes.add_plain]; exact hcell i hi
    have htl : (zs.take len).length = len := by simp; omega
    refine ⟨zs.take len, fun x hx => hwz x (List.mem_of_mem_take hx), ?_, fun W' hs sp hsp => ?_⟩
    · have := RV.fz (h := full W) (Lf := Lf0) (fl := true) b off cap 1 ((zs.take len).map (.int .i64)) ((zs.take len).map (.int .i64)) ?_ (fun x hx => by obtain ⟨z, _, rfl⟩ := List.mem_map.1 hx; rfl) ?_ (by simp; omega)
      · rwa [List.length_map, htl] at this
      · generalize zs.take len = l
        induction l with
        | nil => exact .nil
        | cons x l ih => exact .cons (.int _ _) ih
      · intro k u hu
        rw [List.getElem?_map] at hu
        obtain ⟨z, hz1, rfl⟩ := Option.map_eq_some_iff.1 hu
        have hk : k < len := by
          have := (List.getElem?_eq_some_iff.1 hz1).1
          omega
        rw [List.getElem?_take_of_lt hk] at hz1
        have hkz : k < zs.length := (List.getElem?_eq_some_iff.1 hz1).1
        refine full_of ?_ rfl
        rw [hcell' k hkz]
        simp [List.getD, hz1]
    · have hcell2 : ∀ i, i < zs.length → W'.cell? ⟨b, off + i, none⟩ = some (.int .i64 (zs.getD i 0)) := fun i hi => hs.cell (hcell' i hi)
      refine ⟨0 + 2, ?_⟩
      refine Go.ChangeShapes.shut_ints' 0 ht he hc (Nat.zero_le _) hl hm ?_ hcell2 hwz
      rcases Nat.eq_zero_or_pos zs.length with h0 | h0
      · split <;> omega
      · have hb : sp b = true := hsp (.cell b off) (by
          have : 0 < zs.length := h0
          simp only [MemPlace.row]
          refine List.mem_map.2 ⟨0, by simp; omega, by simp⟩)
        rw [if_pos hb]
        exact hz
end

section
variable {H : Type} {enc : TypeId × Value → H}
/-- the wrap of a row that lists variables, the world's shape kept -/
theorem row_and_shaped {a : Assume} {C : Checked} {os : Os} {f : FuncId} {fn : Func} {s : ChangeSpec} {conds : List PathCond} {apart fresh handsOn again : Bool} {X : World → Array Value → Prop}
    (hX : ∀ (w w' : World) (args : Array Value), w.heap = w'.heap → X w args → X w' args)
    (own : ownKnob C.prog.godebug = none) (started : os.Started) (noInit : C.prog.inits.idxOf? f = none) (hfn : C.prog.funcs[f]? = some fn)
    (witness : ∃ (w : World) (tape : Tape) (i : Input), w.os = os ∧ (w.forCall tape i).Shaped C.prog ∧ i.vars = [] ∧ Input.okWide C.prog (w.forCall tape i) .any w.heap.size f i ∧
      ((s.pre enc C.prog fn conds apart (w.forCall tape i).memory i.args ∧ X (w.forCall tape i).memory i.args) ∧ sizedMet enc C.prog fn (OpenSpec.ofChange s) apart (w.forCall tape i).memory i.args) ∧ a.holds C.prog (lone (Frame.enter C.prog f i.args .normal) [] (w.forCall tape i)))
    (contract : ∀ (W : World) (base : Nat) (args : Array Value) (ds gs : List (DataW H)) (before : List MemPlace),
      (∀ (j : Nat) t v, fn.params[j]? = some t → args[j]? = some v → Value.okWide C.prog W .any base t v) →
      DataW.Whole enc C.prog fn.params.toList s.vars apart W args.toList ds gs before →
      W.ShapedOpen C.prog → X W args →
      Calls C.prog f args W fun e W' => ∃ v, e = .returned v ∧ s.post enc C.prog fn apart fresh handsOn again W args v W') :
    ReturnsInHanded a C os f .any (fun w args => (s.pre enc C.prog fn conds apart w args ∧ X w args) ∧ sizedMet enc C.prog fn (OpenSpec.ofChange s) apart w args) (s.post enc C.prog fn apart fresh handsOn again) := by
  refine returnsInHanded_of_calls own started noInit witness ?_
  intro w tape i _ hsh _ hok hpre hholds
  obtain ⟨_, _, _, fn', hfn', _, _, _, _, hval⟩ := hok
  have e : fn' = fn := Option.some.inj (hfn'.symm.trans hfn)
  subst e
  obtain ⟨⟨⟨ds, gs, before, hw, hc⟩, hx⟩, hz⟩ := hpre
  have hw' := DataW.Whole.of_heap (w' := w.forCall tape i) (by rfl) hw
  refine (contract (w.forCall tape i) w.heap.size i.args ds gs before hval hw' hsh (hX _ _ _ (by rfl) hx)).mono fun e W' ⟨v, he, hp⟩ => ?_
  subst he
  exact ChangeSpec.post_blind hp
end
end Go.Av
/- What all laws of this seat share: the library's own variables, and the row's frame. Own work of this seat. -/
set_option maxRecDepth 100000
set_option linter.unusedSimpArgs false
set_option linter.unusedVariables false
namespace Go.Proofs.YtikbgjhajgjjdaaGreatDoor
open Go Go.Av Go.RowKit Go.ChangeShapes Go.WideShapes Go.ChangeAt

theorem own : ownKnob Tryz.prog.godebug = none := by kernel_rfl
theorem c3 : Tryz.prog.cellsOf 3 = 1 := by kernel_rfl

/-- the blocks of the package-level variables -/
def stdOf (W : World) : Std := fun k => if k < 1000 then W.heap[k]? else none
theorem stands (W : World) : Stands (stdOf W) W := fun k o e => by
  unfold stdOf at e
  split at e
  · exact e
  · cases e

theorem var_heap {P : Program} {W : World} {n : String} {g : Nat} {cs : Array Value} (hg : P.globalNamed n = some g) (h : W.var? P n = some cs) : ∃ t z, W.heap[g]? = some (.cells cs t z) := by
  simp only [World.var?, hg, Option.bind_some] at h
  split at h
  · rename_i c t z hq
    cases h
    exact ⟨t, z, hq⟩
  · cases h

theorem star_name : "*" ++ "errors.errorString" = "*errors.errorString" := by decide
theorem error_row (u : TypeId) (h : Tryz.prog.typeName? 3 u = some "*errors.errorString") : u = 179 :=
  typeName_ptr_named (nm := "errors.errorString") (by rw [star_name]; kernel_rfl) (by kernel_rfl) (by decide) u (by rw [star_name]; exact h)

theorem pow_data : Rows.laid_internal_strconv_uint64pow10 = Lib.tabData (H := Unit) .u64 Lib.pow10Tab := by kernel_rfl

theorem lib_ok {W : World} (h : W.ShapedOpen Tryz.prog) {laid : List (String × DataW Unit)} (hp : (laid.all fun x => x.2.handleName?.isNone) = true) (hL : laidMetH Tryz.prog laid W)
    (e1 : laid.filter (fun x => x.1 == "internal/strconv.uint64pow10") = [("internal/strconv.uint64pow10", Rows.laid_internal_strconv_uint64pow10)])
    (e2 : laid.filter (fun x => x.1 == "strconv.ErrSyntax") = [("strconv.ErrSyntax", Rows.laid_strconv_ErrSyntax)]) : LibOk (stdOf W) := by
  rw [MakeChecks.laidMetH_plain _ _ _ hp] at hL
  have h1 := hL.filter (fun x => x.1 == "internal/strconv.uint64pow10")
  have h2 := hL.filter (fun x => x.1 == "strconv.ErrSyntax")
  rw [e1, pow_data] at h1
  rw [e2] at h2
  refine ⟨?_, ?_, ?_⟩
  · have hg : Tryz.lays144_ren.g 1 = 0 := rfl
    obtain ⟨zero, t, hz⟩ : ∃ zero t, ((begin Tryz.prog (fun _ _ => 0) default).world.heap[0]?).bind Obj.row? = some (zero, t) ∧ zero.size = 1 ∧ Tryz.prog.buildable t = true ∧ Tryz.prog.cellTypes Tryz.prog.depth t = some [t] ∧ Tryz.prog.underlying t = some (.int .i64) := by
      refine ⟨#[.int .i64 0], 3, by kernel_rfl, by kernel_rfl, by kernel_rfl, by kernel_rfl, by kernel_rfl⟩
    obtain ⟨m, hm⟩ := Go.Proofs.cell_of_shapedOpen_int h (g := 0) (of_decide_eq_true (by kernel_rfl)) hz.1 hz.2.1 hz.2.2.1 hz.2.2.2.1 hz.2.2.2.2
    unfold World.cell? at hm
    split at hm
    · rename_i cs t z hq
      exact ⟨m, cs, t, z, hq, by simpa using hm⟩
    · cases hm
  · have ht := Lib.tabIs_of_head (g := 3) (t := 175) (e := 117) (n := 20) (by kernel_rfl) (by kernel_rfl) Tryz.underlying175 Tryz.underlying117 (by kernel_rfl) (by kernel_rfl) h1
    exact var_heap (by kernel_rfl) ht
  · obtain ⟨a0, s0, hv0, -, -, -⟩ := laid_sentinel h2 (g := 1) (by kernel_rfl) (by kernel_rfl) Tryz.underlying86 error_row Tryz.underlying179 Tryz.underlying181 rfl rfl Tryz.underlying9 (by kernel_rfl) (by kernel_rfl)
    obtain ⟨t, z, hh⟩ := var_heap (g := 1) (by kernel_rfl) hv0
    exact ⟨_, _, t, z, hh⟩
end Go.Proofs.YtikbgjhajgjjdaaGreatDoor
/- A cell of a block that holds nil, told as an empty slice (frozen, or of one's own). Own work of this seat. -/
set_option linter.unusedSimpArgs false
set_option linter.unusedVariables false
namespace Go.Av
open Go Go.RowKit

def cellTo (n : Nat) (a a' : AV) : Prop := a' = a ∨ (a = .raw (.slice none 0 0) ∧ (a' = .sl n 0 0 0 ∨ ∃ es, a' = .fz es []))
def toC (n : Nat) : List AV → List AV → Prop
  | [], [] => True
  | a :: r, a' :: r' => cellTo n a a' ∧ toC n r r'
  | _, _ => False
theorem cellTo.refl {n : Nat} {a : AV} : cellTo n a a := .inl rfl
theorem cellTo.sl {n : Nat} : cellTo n (.raw (.slice none 0 0)) (.sl n 0 0 0) := .inr ⟨rfl, .inl rfl⟩
theorem cellTo.fz {n es : Nat} : cellTo n (.raw (.slice none 0 0)) (.fz es []) := .inr ⟨rfl, .inr ⟨es, rfl⟩⟩

section
variable {h : Mem} {ρ : Own} {s : List Blk} {w : World}
theorem toC_RL {n es : Nat} (hn : s[n]? = some (.arr es [])) : ∀ {l l' : List AV} {vs : List Value}, toC n l l' → RL h (Lf ρ s) false vs l → RL h (Lf ρ s) false vs l'
  | [], [], _, _, r => r
  | a :: l, a' :: l', _, t, r => by
    cases r with
    | cons r1 r2 =>
      refine .cons ?_ (toC_RL hn t.2 r2)
      rcases t.1 with rfl | ⟨rfl, rfl | ⟨e, rfl⟩⟩
      · exact r1
      · rw [inv_raw r1]
        exact .leaf ⟨rfl, by simp only [LfC, hn]; exact ⟨by simp, fun _ => .inl ⟨trivial, trivial, none, rfl⟩⟩⟩
      · rw [inv_raw r1]
        exact .fznil e
  | [], _ :: _, _, t, _ => t.elim
  | _ :: _, [], _, t, _ => t.elim

theorem Mine.recell (m : Mine h ρ s w) {id n es es' : Nat} {l l' : List AV} (hb : s[id]? = some (.arr es l)) (hlen : l'.length = l.length) (hcl : ∀ x ∈ l', (cellsOf x).length = es) (hn : s[n]? = some (.arr es' [])) (ht : toC n (flat l) (flat l')) :
    Mine h ρ (s.set id (.arr es l')) w ∧ Later h ρ s w h ρ (s.set id (.arr es l')) w := by
  have hid := (List.getElem?_eq_some_iff.1 hb).1
  have hk : ∀ v a, Lf ρ s v a → Lf ρ (s.set id (.arr es l')) v a := fun v a x => ⟨x.1, LfC_set (b' := .arr es l') hb (fun _ _ => rfl) (Or.inl ⟨rfl, hlen, rfl⟩) x.2⟩
  refine ⟨⟨m.mem, ?_, fun i hi => m.out i (by simpa using hi), m.inj, m.disj⟩, ⟨fun _ _ _ x => x, fun _ _ a b => (b a).elim, hk, rfl, rfl, rfl, Nat.le_refl _, fun _ _ _ => rfl, fun i _ t x => .inl ⟨i, t, x⟩⟩⟩
  intro i blk e
  by_cases hi : i = id
  · subst hi
    simp [hid] at e
    subst e
    rcases m.own i _ hb with ⟨h1, h2⟩ | ⟨g, tot, cur, t, h1, h2, h3, h4, h5, h6, h7, h8, h9⟩
    · exact .inl ⟨by subst h1; simpa using hlen, h2⟩
    · refine .inr ⟨g, tot, cur, t, h1, h2, h3, by omega, h5, h6, hcl, h8, ?_⟩
      rw [hlen]
      exact (toC_RL hn ht h9).mono (fun _ _ _ x => x) hk
  · rw [List.getElem?_set_ne (Ne.symm hi)] at e
    exact (m.own i blk e).mono (fun _ _ _ x => x) hk rfl (fun _ _ _ => rfl)
end

variable {c : Cx} {e : Env} {s : List Blk}
/-- a block whose cells with nil are told as empty slices: frozen ones, or the new block of one's own -/
theorem Shift.cells (id es' : Nat) {es : Nat} {l : List AV} (l' : List AV) (hb : s.getD id .dead = .arr es l) (hlen : l'.length = l.length) (hcl : ∀ x ∈ l', (cellsOf x).length = es) (ht : toC s.length (flat l) (flat l')) :
    Shift c e s e (List.set (s ++ [Blk.arr es' []]) id (Blk.arr es l')) := by
  rintro a w ⟨hh, ρ, hm, hlt, he, hdf, hsz, hX⟩
  obtain ⟨m1, l1⟩ := hm.pushNil es'
  have hid := sto_get hb
  have hlt' : id < s.length := (List.getElem?_eq_some_iff.1 hid).1
  obtain ⟨m2, l2⟩ := m1.recell (id := id) (n := s.length) (es' := es') (by rw [List.getElem?_append_left hlt']; exact hid) hlen hcl (by simp) ht
  exact ⟨hh, ρ, m2, hlt.trans (l1.trans l2), fun t => ((he t).mono l1.hle l1.keep).mono l2.hle l2.keep, hdf, hsz, c.hx.later hm (l1.trans l2) hX⟩
end Go.Av
/- The same state told with the first blocks alone. Own work of this seat. -/
set_option linter.unusedSimpArgs false
set_option linter.unusedVariables false
namespace Go.Av
open Go Go.RowKit

/-- a cell that refers to none but the first n blocks -/
def lowC (n : Nat) : AV → Bool
  | .sl m _ _ _ => decide (m < n)
  | .ptr m _ _ _ => decide (m < n)
  | .mp m => decide (m < n)
  | v => frozen v
def lowV (n : Nat) : AV → Bool
  | .agg r => r.all (lowC n)
  | .fn _ r => r.all (lowC n)
  | v => lowC n v
def lowB (n : Nat) : Blk → Bool
  | .arr _ l => (flat l).all (lowC n)
  | .mp es => es.all fun x => frozen x.1 && frozen x.2
  | .dead => true
def wkl (n : Nat) (e : Env) : Env → Prop
  | [] => True
  | (t, v) :: r => (lowV n v = true ∧ get e t = v) ∧ wkl n e r
def lowρ (ρ : Own) (n : Nat) : Own := fun i => if i < n then ρ i else none
theorem low_of_frozen {n : Nat} {v : AV} (h : frozen v = true) : lowC n v = true := by
  cases v <;> first | exact h | (simp [frozen] at h)
theorem low_all {n : Nat} {l : List AV} (h : l.all frozen = true) : l.all (lowC n) = true := by
  rw [List.all_eq_true] at h ⊢
  exact fun x hx => low_of_frozen (h x hx)

section
variable {h : Mem} {ρ : Own} {s : List Blk} {w : World} {n : Nat}
theorem LfC_low (hn : n ≤ s.length) {v : Value} {a : AV} (hl : lowC n a = true) (l : LfC ρ s v a) : LfC (lowρ ρ n) (s.take n) v a := by
  cases a with
  | sl i o x cp =>
    have hi : i < n := of_decide_eq_true hl
    simp only [LfC, List.getElem?_take, hi, if_true, lowρ] at l ⊢; exact l
  | ptr i m j o =>
    have hi : i < n := of_decide_eq_true hl
    simp only [LfC, List.getElem?_take, hi, if_true, lowρ] at l ⊢; exact l
  | mp i =>
    have hi : i < n := of_decide_eq_true hl
    simp only [LfC, List.getElem?_take, hi, if_true, lowρ] at l ⊢; exact l
  | _ => exact l.elim
theorem low_one (hn : n ≤ s.length) {v : Value} {a : AV} (hl : lowC n a = true) (r : RV h (Lf ρ s) false v a) : RV h (Lf (lowρ ρ n) (s.take n)) false v a := by
  have frz : frozen a = true → RV h (Lf (lowρ ρ n) (s.take n)) false v a := fun hf => (frz_one r hf).thaw (fun _ _ _ x => x)
  cases a with
  | sl i o x cp => exact .leaf ⟨(inv_sl r).1, LfC_low hn hl (inv_sl r).2⟩
  | ptr i m j o => exact .leaf ⟨(inv_ptr r).1, LfC_low hn hl (inv_ptr r).2⟩
  | mp i => exact .leaf ⟨(inv_mp r).1, LfC_low hn hl (inv_mp r).2⟩
  | _ => exact frz hl
theorem low_list (hn : n ≤ s.length) : ∀ {l : List AV} {vs : List Value}, l.all (lowC n) = true → RL h (Lf ρ s) false vs l → RL h (Lf (lowρ ρ n) (s.take n)) false vs l
  | [], _, _, r => by cases r; exact .nil
  | a :: l, _, hl, r => by
    simp only [List.all_cons, Bool.and_eq_true] at hl
    cases r with | cons r1 r2 => exact .cons (low_one hn hl.1 r1) (low_list hn hl.2 r2)

theorem Mine.low (m : Mine h ρ s w) (hn : n ≤ s.length) (hb : (s.take n).all (lowB n) = true) : Mine h (lowρ ρ n) (s.take n) w := by
  have hρ : ∀ i g t, lowρ ρ n i = some (g, t) → i < n ∧ ρ i = some (g, t) := by
    intro i g t e
    unfold lowρ at e
    split at e
    · exact ⟨by assumption, e⟩
    · cases e
  refine ⟨m.mem, ?_, ?_, ?_, ?_⟩
  · intro i b e
    have hi : i < n := by
      have := (List.getElem?_eq_some_iff.1 e).1
      simp at this; omega
    have hlow : lowB n b = true := List.all_eq_true.1 hb b (List.mem_of_getElem? e)
    rw [List.getElem?_take, if_pos hi] at e
    have o := m.own i b e
    have hρi : lowρ ρ n i = ρ i := by simp [lowρ, hi]
    cases b with
    | arr es l =>
      rcases o with ⟨h1, h2⟩ | ⟨g, tot, cur, t, h1, h2, h3, h4, h5, h6, h7, h8, h9⟩
      · exact .inl ⟨h1, hρi.trans h2⟩
      · exact .inr ⟨g, tot, cur, t, hρi.trans h1, h2, h3, h4, h5, h6, h7, h8, low_list hn hlow h9⟩
    | mp es =>
      obtain ⟨g, en, cl, h1, h2, h3, h4⟩ := o
      refine ⟨g, en, cl, hρi.trans h1, h2, h3, fun k x y hx hy => ?_⟩
      obtain ⟨p, q⟩ := h4 k x y hx hy
      simp only [lowB, List.all_eq_true, Bool.and_eq_true] at hlow
      have := hlow x (List.mem_of_getElem? hx)
      exact ⟨(frz_one p this.1).thaw (fun _ _ _ x => x), (frz_one q this.2).thaw (fun _ _ _ x => x)⟩
    | dead => exact hρi.trans o
  · intro i hi
    have : ¬ i < n := by simp at hi; omega
    simp [lowρ, this]
  · intro i j g t t' hi hj
    exact m.inj i j g t t' (hρ i g t hi).2 (hρ j g t' hj).2
  · intro i g t e
    exact m.disj i g t (hρ i g t e).2
end

variable {c : Cx} {e : Env} {s : List Blk}
theorem wkl_get {n : Nat} {e e' : Env} (h : wkl n e e') (t : Nat) : get e' t = .any ∨ (lowV n (get e' t) = true ∧ get e t = get e' t) := by
  induction e' with
  | nil => exact .inl rfl
  | cons x r ih =>
    obtain ⟨k, v⟩ := x
    simp only [get]
    by_cases hk : k = t
    · subst hk; simp; exact .inr h.1
    · have : (k == t) = false := by simpa using hk
      simp only [this, cond_false]
      exact ih h.2

/-- the first n blocks alone are told of: they, and the slots that are told of, refer to no other -/
theorem Shift.low (n : Nat) {e' : Env} (hc : c.sto.length ≤ n) (hn : n ≤ s.length) (hb : (s.take n).all (lowB n) = true) (hw : wkl n e e') : Shift c e s e' (s.take n) := by
  rintro a w ⟨hh, ρ, hm, hlt, he, hdf, hsz, hX⟩
  have low : ∀ v x, Lf c.ρ c.sto v x → Lf (lowρ ρ n) (s.take n) v x := by
    intro v x lf
    have l2 := hlt.keep v x lf
    refine ⟨lf.1, LfC_low hn ?_ l2.2⟩
    have hx := lf.2
    cases x <;> simp only [LfC] at hx
    · rename_i i o l cp
      cases hq : c.sto[i]? with
      | none => simp [hq] at hx
      | some y => exact decide_eq_true (Nat.lt_of_lt_of_le (List.getElem?_eq_some_iff.1 hq).1 hc)
    · rename_i i n j o
      cases hq : c.sto[i]? with
      | none => simp [hq] at hx
      | some y => exact decide_eq_true (Nat.lt_of_lt_of_le (List.getElem?_eq_some_iff.1 hq).1 hc)
    · rename_i i
      cases hq : c.sto[i]? with
      | none => simp [hq] at hx
      | some y => exact decide_eq_true (Nat.lt_of_lt_of_le (List.getElem?_eq_some_iff.1 hq).1 hc)
  have hρ : ∀ i g t, lowρ ρ n i = some (g, t) → ρ i = some (g, t) := by
    intro i g t e
    unfold lowρ at e
    split at e
    · exact e
    · cases e
  refine ⟨hh, lowρ ρ n, hm.low hn hb, ⟨hlt.hle, hlt.hnew, low, hlt.os, hlt.tape, hlt.output, hlt.size, hlt.block, fun i g t hi => hlt.newown i g t (hρ i g t hi)⟩, fun t => ?_, hdf, hsz, c.hx.fewer (fun i g t hi => ⟨i, t, hρ i g t hi⟩) hX⟩
  have hx := he t
  rcases wkl_get hw t with hq | ⟨h1, hq⟩
  · rw [hq]; exact .any _
  · rw [hq] at hx
    generalize Av.get e' t = y at h1 hx ⊢
    cases y with
    | agg r =>
      obtain ⟨vs, hv, rl⟩ := inv_agg hx
      rw [hv]
      exact .agg vs r (low_list hn h1 rl)
    | fn f r =>
      generalize a.tmps.getD t undef = u at hx ⊢
      cases hx with
      | leaf p => exact p.2.elim
      | fn _ vs _ rl => exact .fn f vs r (low_list hn h1 rl)
    | _ => exact low_one hn h1 hx
end Go.Av
/- A call that makes one new block, in an open-order statement: the block is set aside before. Own work of this seat. -/
set_option linter.unusedSimpArgs false
set_option linter.unusedVariables false
namespace Go.Av
open Go Go.RowKit

variable {c : Cx} {e : Env} {s : List Blk}
/-- an empty block, set aside -/
theorem Shift.reserve (es : Nat) : Shift c e s e (s ++ [.arr es []]) := by
  rintro a w ⟨hh, ρ, hm, hlt, he, hdf, hsz, hX⟩
  obtain ⟨m', l'⟩ := hm.pushNil es
  exact ⟨hh, ρ, m', hlt.trans l', fun t => (he t).mono l'.hle l'.keep, hdf, hsz, c.hx.later hm l' hX⟩

theorem rl_frozen {h : Mem} {ρ ρ' : Own} {s s' : List Blk} {vs : List Value} {l : List AV} (hf : l.all frozen = true) (r : RL h (Lf ρ s) false vs l) : RL h (Lf ρ' s') false vs l :=
  (frz_all r hf).thaw (fun _ _ _ x => x)

theorem icall_new {f : FuncId} {args : List AV} {n es : Nat} {l : List AV} {K : AV → List Blk → Prop} (hc : Ct c.P f args [] (fun r s => r = .sl 0 0 n n ∧ s = [.arr es l])) (hn : 0 < n) (hlen : l.length = n) (ha : args.all frozen = true) (hf : (flat l).all frozen = true)
    {id : Nat} (hid : s[id]? = some (.arr es [])) (hk : K (.sl id 0 n n) (s.set id (.arr es l))) : ICall c f args id s K := by
  refine ⟨_, fun r b => r = .sl id 0 n n ∧ b = .arr es l, hid, ⟨hc.1, fun h ρ s w vs hs m lt0 r => ?_⟩, ⟨_, _, rfl, rfl⟩, fun r b ⟨h1, h2⟩ => by rw [h1, h2]; exact hk⟩
  have hidl := (List.getElem?_eq_some_iff.1 hs).1
  have hm0 : Mine h (fun _ => none) [] w := ⟨m.mem, fun id blk e => by simp at e, fun _ _ => rfl, fun i j g t t' e => by simp at e, fun i g t e => by simp at e⟩
  refine (hc.2 h (fun _ => none) w vs hm0 (rl_frozen ha r)).mono ?_
  rintro en w' ⟨v, r, s1, h', ρ1, rfl, ⟨rfl, rfl⟩, m', lt, rv⟩
  have hne : l ≠ [] := by intro h; rw [h] at hlen; simp at hlen; omega
  have hgood : ∀ i g t, ρ1 i = some (g, t) → w.heap.size ≤ g := fun i g t e => by
    rcases lt.newown i g t e with ⟨j, t', hj⟩ | h
    · cases hj
    · exact h
  have hblk : ∀ k, k < w.heap.size → w'.heap[k]? = w.heap[k]? := fun k hk => lt.block k hk (fun i t e => by cases e)
  have hnew : ∀ b o, h b o = none → h' b o ≠ none → w.heap.size ≤ b := fun b o e n => by
    rcases lt.hnew b o e n with ⟨j, t', hj⟩ | h
    · cases hj
    · exact h
  have hρ : ∀ i, i ≠ id → upd ρ id (ρ1 0) i = ρ i := fun i hi => by simp [upd, hi]
  have hρi : upd ρ id (ρ1 0) id = ρ1 0 := by simp [upd]
  have hkeep : ∀ v a, Lf ρ s v a → Lf (upd ρ id (ρ1 0)) (s.set id (.arr es l)) v a := fun v a x => ⟨x.1, LfC_set (b' := .arr es l) hs hρ (Or.inr (by
    rw [hlen]; exact hn)) x.2⟩
  have hown : ∀ i g t, upd ρ id (ρ1 0) i = some (g, t) → (i ≠ id ∧ ρ i = some (g, t) ∧ g < w.heap.size) ∨ (i = id ∧ ρ1 0 = some (g, t) ∧ w.heap.size ≤ g) := fun i g t e => by
    by_cases hi : i = id
    · rw [hi, hρi] at e
      exact .inr ⟨hi, e, hgood 0 g t e⟩
    · rw [hρ i hi] at e
      exact .inl ⟨hi, e, m.lt e⟩
  refine ⟨v, _, _, h', upd ρ id (ρ1 0), rfl, ⟨rfl, rfl⟩, ⟨m'.mem, ?_, ?_, ?_, ?_⟩, ⟨lt.hle, fun b o e n => .inr (hnew b o e n), hkeep, lt.os, lt.tape, lt.output, lt.size, fun k hk _ => hblk k hk, ?_⟩, ?_⟩
  · intro i blk e
    by_cases hi : i = id
    · subst hi
      simp [hidl] at e
      subst e
      rcases m'.own 0 (.arr es l) rfl with ⟨h1, h2⟩ | ⟨g, tot, cur, t, h1, h2, h3, h4, h5, h6, h7, h8, h9⟩
      · exact (hne h1).elim
      · exact .inr ⟨g, tot, cur, t, hρi.trans h1, h2, h3, h4, h5, h6, h7, h8, rl_frozen hf h9⟩
    · rw [List.getElem?_set_ne (Ne.symm hi)] at e
      exact (m.own i blk e).mono lt.hle hkeep (hρ i hi) (fun g t hg => hblk g (m.lt hg))
  · intro i hi
    simp at hi
    rw [hρ i (by omega)]
    exact m.out i hi
  · intro i j g t t' hi hj
    rcases hown i g t hi with ⟨a1, a2, a3⟩ | ⟨a1, a2, a3⟩ <;> rcases hown j g t' hj with ⟨b1, b2, b3⟩ | ⟨b1, b2, b3⟩
    · exact m.inj i j g t t' a2 b2
    · omega
    · omega
    · omega
  · intro i g t e o
    rcases hown i g t e with ⟨a1, a2, a3⟩ | ⟨a1, a2, a3⟩
    · cases hq : h' g o with
      | none => rfl
      | some z =>
        have := hnew g o (m.disj i g t a2 o) (by rw [hq]; simp)
        omega
    · exact m'.disj 0 g t a2 o
  · intro i g t e
    rcases hown i g t e with ⟨a1, a2, a3⟩ | ⟨a1, a2, a3⟩
    · exact .inl ⟨i, t, a2⟩
    · exact .inr a3
  · have q := inv_sl rv
    exact .leaf ⟨q.1, LfC_at (blk := .arr es l) rfl (by simp [hidl]) hρi q.2⟩
end Go.Av
