/- The same state told with its blocks in another order, some of them left out. Own work of this seat. -/
import Derived.Test.YtikbgjhajgjjdaaGreatDoorP19
import Derived.Test.YtikbgjhajgjjdaaGreatDoorP13
import Derived.Test.YtikbgjhajgjjdaaGreatDoorP45
set_option linter.unusedSimpArgs false
set_option linter.unusedVariables false
namespace Go.Av
open Go Go.RowKit

/-- the new number of a block; σ: of each new block the old one -/
def idx : List Nat → Nat → Nat → Option Nat
  | [], _, _ => none
  | a :: r, id, k => bif a == id then some k else idx r id (k + 1)
def ren1 (σ : List Nat) : AV → AV
  | .sl id o l c => match idx σ id 0 with
    | some k => .sl k o l c
    | none => .any
  | .ptr id n i o => match idx σ id 0 with
    | some k => .ptr k n i o
    | none => .any
  | .mp id => match idx σ id 0 with
    | some k => .mp k
    | none => .any
  | .agg _ => .any
  | .tup _ => .any
  | .fn _ _ => .any
  | a => a
def renC (σ : List Nat) : AV → AV
  | .agg r => .agg (r.map (ren1 σ))
  | a => ren1 σ a
def renV (σ : List Nat) : AV → AV
  | .agg r => .agg (r.map (ren1 σ))
  | .fn f r => .fn f (r.map (ren1 σ))
  | a => ren1 σ a
def renB (σ : List Nat) : Blk → Blk
  | .arr e l => .arr e (l.map (renC σ))
  | b => b
def renE (σ : List Nat) : Env → Env
  | [] => []
  | (t, v) :: r => (t, renV σ v) :: renE σ r
def renS (σ : List Nat) (s : List Blk) : List Blk := σ.map fun i => renB σ (s.getD i .dead)
def mpOk : Blk → Bool
  | .mp es => es.all fun x => frozen x.1 && frozen x.2
  | _ => true
/-- may the blocks be told so? n: the first blocks, which keep their numbers -/
def renOk (σ : List Nat) (n : Nat) (s : List Blk) : Bool := σ.all (fun i => decide (i < s.length) && mpOk (s.getD i .dead)) && (decide σ.Nodup && (σ.take n == List.range n))

theorem idx_some : ∀ {σ : List Nat} {id k j : Nat}, idx σ id j = some k → j ≤ k ∧ σ[k - j]? = some id
  | [], _, _, _, h => by cases h
  | a :: r, id, k, j, h => by
    simp only [idx] at h
    by_cases e : a = id
    · subst e
      simp at h
      subst h
      simp
    · have : (a == id) = false := by simpa using e
      simp only [this, cond_false] at h
      obtain ⟨h1, h2⟩ := idx_some h
      refine ⟨by omega, ?_⟩
      rw [show k - j = (k - (j + 1)) + 1 by omega]
      simpa using h2

section
variable {h : Mem} {ρ : Own} {s : List Blk} {w : World} {σ : List Nat}
def renρ (ρ : Own) (σ : List Nat) : Own := fun k => match σ[k]? with
  | some i => ρ i
  | none => none
theorem renS_get {k i : Nat} (hk : σ[k]? = some i) (hi : i < s.length) : (renS σ s)[k]? = some (renB σ (s[i])) := by
  simp only [renS, List.getElem?_map, hk, Option.map_some, List.getD_eq_getElem?_getD, List.getElem?_eq_getElem hi, Option.getD_some]

/-- a reference, where it leads to a block that is told of under another number -/
theorem LfC_at2 {σ : List Nat} (hs : ∀ i ∈ σ, i < s.length) {k id : Nat} (hk : σ[k]? = some id) {v : Value} {a b c : Nat} (l : LfC ρ s v (.sl id a b c)) : LfC (renρ ρ σ) (renS σ s) v (.sl k a b c) := by
  have hi := hs id (List.mem_of_getElem? hk)
  have hρ : renρ ρ σ k = ρ id := by simp [renρ, hk]
  simp only [LfC, renS_get hk hi, List.getElem?_eq_getElem hi, hρ] at l ⊢
  cases hq : s[id] <;> rw [hq] at l <;> simp only [renB, List.length_map] at l ⊢ <;> exact l
theorem LfC_ptr2 {σ : List Nat} (hs : ∀ i ∈ σ, i < s.length) {k id : Nat} (hk : σ[k]? = some id) {v : Value} {a b c : Nat} (l : LfC ρ s v (.ptr id a b c)) : LfC (renρ ρ σ) (renS σ s) v (.ptr k a b c) := by
  have hi := hs id (List.mem_of_getElem? hk)
  have hρ : renρ ρ σ k = ρ id := by simp [renρ, hk]
  simp only [LfC, renS_get hk hi, List.getElem?_eq_getElem hi, hρ] at l ⊢
  cases hq : s[id] <;> rw [hq] at l <;> simp only [renB, List.length_map] at l ⊢ <;> exact l
theorem LfC_mp2 {σ : List Nat} (hs : ∀ i ∈ σ, i < s.length) {k id : Nat} (hk : σ[k]? = some id) {v : Value} (l : LfC ρ s v (.mp id)) : LfC (renρ ρ σ) (renS σ s) v (.mp k) := by
  have hi := hs id (List.mem_of_getElem? hk)
  have hρ : renρ ρ σ k = ρ id := by simp [renρ, hk]
  simp only [LfC, renS_get hk hi, List.getElem?_eq_getElem hi, hρ] at l ⊢
  cases hq : s[id] <;> rw [hq] at l <;> simp only [renB] at l ⊢ <;> exact l
theorem idx_get {σ : List Nat} {id k : Nat} (h : idx σ id 0 = some k) : σ[k]? = some id := by simpa using (idx_some h).2

theorem ren_one (hs : ∀ i ∈ σ, i < s.length) {v : Value} {a : AV} (r : RV h (Lf ρ s) false v a) : RV h (Lf (renρ ρ σ) (renS σ s)) false v (ren1 σ a) := by
  have frz : frozen a = true → RV h (Lf (renρ ρ σ) (renS σ s)) false v a := fun hf => (frz_one r hf).thaw (fun _ _ _ x => x)
  cases a with
  | sl id o l c =>
    simp only [ren1]
    cases hq : idx σ id 0 with
    | none => exact .any _
    | some k => exact .leaf ⟨(inv_sl r).1, LfC_at2 hs (idx_get hq) (inv_sl r).2⟩
  | ptr id n i o =>
    simp only [ren1]
    cases hq : idx σ id 0 with
    | none => exact .any _
    | some k => exact .leaf ⟨(inv_ptr r).1, LfC_ptr2 hs (idx_get hq) (inv_ptr r).2⟩
  | mp id =>
    simp only [ren1]
    cases hq : idx σ id 0 with
    | none => exact .any _
    | some k => exact .leaf ⟨(inv_mp r).1, LfC_mp2 hs (idx_get hq) (inv_mp r).2⟩
  | agg r => exact .any _
  | tup r => exact .any _
  | fn f r => exact .any _
  | _ => exact frz rfl
theorem ren_list (hs : ∀ i ∈ σ, i < s.length) : ∀ {l : List AV} {vs : List Value}, RL h (Lf ρ s) false vs l → RL h (Lf (renρ ρ σ) (renS σ s)) false vs (l.map (ren1 σ))
  | [], _, r => by cases r; exact .nil
  | a :: l, _, r => by cases r with | cons r1 r2 => exact .cons (ren_one hs r1) (ren_list hs r2)
theorem renC_cells (σ : List Nat) (x : AV) : cellsOf (renC σ x) = (cellsOf x).map (ren1 σ) := by
  cases x with
  | sl id o l c => simp only [renC, ren1, cellsOf, List.map_cons, List.map_nil]; cases idx σ id 0 <;> rfl
  | ptr id n i o => simp only [renC, ren1, cellsOf, List.map_cons, List.map_nil]; cases idx σ id 0 <;> rfl
  | mp id => simp only [renC, ren1, cellsOf, List.map_cons, List.map_nil]; cases idx σ id 0 <;> rfl
  | _ => rfl
theorem renC_flat (σ : List Nat) : ∀ l, flat (l.map (renC σ)) = (flat l).map (ren1 σ)
  | [] => rfl
  | x :: r => by simp only [List.map_cons, flat, renC_cells, renC_flat σ r, List.map_append]

theorem Mine.ren (m : Mine h ρ s w) (hs : ∀ i ∈ σ, i < s.length) (hm : ∀ i ∈ σ, mpOk (s.getD i .dead) = true) (hn : σ.Nodup) : Mine h (renρ ρ σ) (renS σ s) w := by
  have hρ : ∀ k g t, renρ ρ σ k = some (g, t) → ∃ i, σ[k]? = some i ∧ ρ i = some (g, t) := by
    intro k g t e
    unfold renρ at e
    cases hq : σ[k]? with
    | none => rw [hq] at e; cases e
    | some i => rw [hq] at e; exact ⟨i, rfl, e⟩
  refine ⟨m.mem, ?_, ?_, ?_, ?_⟩
  · intro k b e
    have hk : k < σ.length := by
      have := (List.getElem?_eq_some_iff.1 e).1
      simpa [renS] using this
    have hq := List.getElem?_eq_getElem hk
    have hi := hs σ[k] (List.getElem_mem hk)
    have hmk := hm σ[k] (List.getElem_mem hk)
    rw [renS_get hq hi] at e
    simp only [Option.some.injEq] at e
    subst e
    have o := m.own σ[k] s[σ[k]] (List.getElem?_eq_getElem hi)
    have hρk : renρ ρ σ k = ρ σ[k] := by simp [renρ, hq]
    rw [List.getD_eq_getElem?_getD, List.getElem?_eq_getElem hi, Option.getD_some] at hmk
    cases hb : s[σ[k]] with
    | arr es l =>
      rw [hb] at o
      rcases o with ⟨h1, h2⟩ | ⟨g, tot, cur, t, h1, h2, h3, h4, h5, h6, h7, h8, h9⟩
      · exact .inl ⟨by simp [h1], hρk.trans h2⟩
      · refine .inr ⟨g, tot, cur, t, hρk.trans h1, h2, h3, by simpa using h4, h5, h6, ?_, h8, ?_⟩
        · intro x hx
          obtain ⟨y, hy, rfl⟩ := List.mem_map.1 hx
          rw [renC_cells, List.length_map]
          exact h7 y hy
        · rw [renC_flat, List.length_map]
          exact ren_list hs h9
    | mp es =>
      rw [hb] at o hmk
      obtain ⟨g, en, cl, h1, h2, h3, h4⟩ := o
      refine ⟨g, en, cl, hρk.trans h1, h2, h3, fun k x y hx hy => ?_⟩
      obtain ⟨p, q⟩ := h4 k x y hx hy
      simp only [mpOk, List.all_eq_true, Bool.and_eq_true] at hmk
      have := hmk x (List.mem_of_getElem? hx)
      exact ⟨(frz_one p this.1).thaw (fun _ _ _ x => x), (frz_one q this.2).thaw (fun _ _ _ x => x)⟩
    | dead => rw [hb] at o; exact hρk.trans o
  · intro k hk
    have : σ[k]? = none := List.getElem?_eq_none (by simpa [renS] using hk)
    simp [renρ, this]
  · intro k k' g t t' hi hj
    obtain ⟨i, h1, h2⟩ := hρ k g t hi
    obtain ⟨j, h3, h4⟩ := hρ k' g t' hj
    have hij := m.inj i j g t t' h2 h4
    subst hij
    exact (List.getElem?_inj (List.getElem?_eq_some_iff.1 h1).1 hn).1 (h1.trans h3.symm)
  · intro k g t e
    obtain ⟨i, h1, h2⟩ := hρ k g t e
    exact m.disj i g t h2
end

variable {c : Cx} {e : Env} {s : List Blk}
theorem get_renE (σ : List Nat) (t : Nat) : ∀ r, get (renE σ r) t = .any ∨ get (renE σ r) t = renV σ (get r t)
  | [] => .inl rfl
  | (t', v) :: r => by
    have ih := get_renE σ t r
    simp only [renE, Av.get]
    cases t' == t with
    | true => exact .inr rfl
    | false => exact ih

/-- the blocks σ alone are told of, in this order -/
theorem Shift.ren (σ : List Nat) (hσ : renOk σ c.sto.length s = true) : Shift c e s (renE σ e) (renS σ s) := by
  rintro a w ⟨hh, ρ, hm, hlt, he, hdf, hsz, hX⟩
  simp only [renOk, Bool.and_eq_true, List.all_eq_true, decide_eq_true_eq, beq_iff_eq] at hσ
  obtain ⟨h1, h2, h3⟩ := hσ
  have hs : ∀ i ∈ σ, i < s.length := fun i hi => (h1 i hi).1
  have keep : ∀ i, i < c.sto.length → σ[i]? = some i := fun i hi => by
    have : (σ.take c.sto.length)[i]? = some i := by rw [h3]; simp [hi]
    rwa [List.getElem?_take, if_pos hi] at this
  have low : ∀ v x, Lf c.ρ c.sto v x → Lf (renρ ρ σ) (renS σ s) v x := by
    intro v x lf
    have l2 := hlt.keep v x lf
    refine ⟨lf.1, ?_⟩
    have hx := lf.2
    have l3 := l2.2
    cases x with
    | sl i o l cp =>
      simp only [LfC] at hx
      cases hq : c.sto[i]? with
      | none => simp [hq] at hx
      | some y => exact LfC_at2 hs (keep i (List.getElem?_eq_some_iff.1 hq).1) l3
    | ptr i n j o =>
      simp only [LfC] at hx
      cases hq : c.sto[i]? with
      | none => simp [hq] at hx
      | some y => exact LfC_ptr2 hs (keep i (List.getElem?_eq_some_iff.1 hq).1) l3
    | mp i =>
      simp only [LfC] at hx
      cases hq : c.sto[i]? with
      | none => simp [hq] at hx
      | some y => exact LfC_mp2 hs (keep i (List.getElem?_eq_some_iff.1 hq).1) l3
    | _ => exact l3.elim
  have hρ : ∀ k g t, renρ ρ σ k = some (g, t) → ∃ i, ρ i = some (g, t) := by
    intro k g t e
    unfold renρ at e
    cases hq : σ[k]? with
    | none => rw [hq] at e; cases e
    | some i => rw [hq] at e; exact ⟨i, e⟩
  refine ⟨hh, renρ ρ σ, hm.ren hs (fun i hi => (h1 i hi).2) h2, ⟨hlt.hle, hlt.hnew, low, hlt.os, hlt.tape, hlt.output, hlt.size, hlt.block, fun k g t hk => ?_⟩, fun t => ?_, hdf, hsz, c.hx.fewer (fun k g t hk => ?_) hX⟩
  · obtain ⟨i, hi⟩ := hρ k g t hk
    exact hlt.newown i g t hi
  · have hx := he t
    rcases get_renE σ t e with hq | hq
    · rw [hq]; exact .any _
    · rw [hq]
      generalize Av.get e t = y at hx ⊢
      cases y with
      | agg r =>
        obtain ⟨vs, hv, rl⟩ := inv_agg hx
        rw [hv]
        exact .agg vs _ (ren_list hs rl)
      | fn f r =>
        generalize a.tmps.getD t undef = u at hx ⊢
        cases hx with
        | leaf p => exact p.2.elim
        | fn _ vs _ rl => exact .fn f vs _ (ren_list hs rl)
      | _ => exact ren_one hs hx
  · obtain ⟨i, hi⟩ := hρ k g t hk
    exact ⟨i, t, hi⟩
end Go.Av
/- Where two ways of a statement meet: told once. Own work of this seat. -/
set_option linter.unusedSimpArgs false
set_option linter.unusedVariables false
namespace Go.Av
open Go Go.RowKit

theorem acut {c : Cx} {x : It} {B : Code} {k : List It} {e : Env} {s : List Blk} {ι : Type} (E : ι → Env) (S : ι → List Blk) (H : ι → Prop)
    (h1 : ∀ J : Act → World → Prop, (∀ y, H y → ∀ a w, Sim c (E y) (S y) a w → J a w) → AWp c (x :: .inv J :: k) e s)
    (h2 : ∀ y, H y → AWp c (.code B :: k) (E y) (S y)) : AWp c (x :: .code B :: k) e s := by
  intro a w hs
  have h := h1 (fun a w => B.wp c.P (WQ c k) a w) (fun y hy a w hs => h2 y hy a w hs) a w hs
  have e1 : WQ c (.inv (fun a w => B.wp c.P (WQ c k) a w) :: k) = WQ c (.code B :: k) := by
    funext en a w
    cases en <;> rfl
  have e2 : WQ c (x :: .inv (fun a w => B.wp c.P (WQ c k) a w) :: k) = WQ c (x :: .code B :: k) := by
    funext en a w
    cases en <;> simp only [WQ, e1]
  rw [e2] at h
  exact h
end Go.Av
/- One more page: the closure of Lay. Own work of this seat. -/
set_option maxRecDepth 100000
set_option linter.unusedSimpArgs false
set_option linter.unusedVariables false
namespace Go.Proofs.YtikbgjhajgjjdaaGreatDoor
open Go Go.Av Go.RowKit
attribute [local go_sem ↓] br_true br_false dbr_true dbr_false dbri_true dbri_false dbrg_true dbrg_false
attribute [local go_sem] run cont br dbr dx dxc dgrd dyld dres dcall calm fieldPlace? allHas step1 opN grdN resN condN exitN stopN exitIt dOk xop xbin xint xarith xstr xbool xpick xnot xneg xextract xpart xpartOk xindex xfieldF fieldD xnew xbox xalloc xfieldAddr xptrAddIf xindexAddr xloadC xload putCells reElem xstoreB xstore xconv xtext xlen xlen2 xcall xfill xbuild cut rep xbuildSlice xbuildSliceD isRow elemD isU8 ev evs evp Go.Av.put Go.Av.get ofConst yldD yldV notBool_undef args0 cellsOf cond_true cond_false decide_true decide_false decide_eq_true_eq decide_eq_false_iff_not List.getElem?_cons_zero List.getElem?_cons_succ List.getElem?_nil List.getD_cons_zero List.getD_cons_succ List.getD_nil List.set_cons_zero List.set_cons_succ List.length_cons List.length_nil List.cons_append List.nil_append List.append_nil List.all_cons List.all_nil List.map_cons List.map_nil List.take_succ_cons List.take_zero List.drop_succ_cons List.drop_zero Bool.and_true Bool.true_and Bool.and_self Bool.and_false Bool.false_and one Go.Av.frozen beq_self_eq_true true_and and_true forall_const false_implies implies_true and_self Option.map_some Option.map_none Nat.zero_add Nat.add_zero Nat.zero_mul Nat.mul_one Nat.one_mul Int.toNat_zero ne_eq not_false_eq_true not_true_eq_false Bool.true_eq_false Bool.false_eq_true List.toList_toArray inr Go.Av.byteOf isByte decide_eq_decide Bool.not_true Bool.not_false Bool.not_eq_true' Bool.or_true Bool.true_or Bool.or_false Bool.false_or ge_iff_le gt_iff_lt and_assoc Bool.decide_eq_true beq_iff_eq beq_eq_false_iff_ne bne_iff_ne bne_self_eq_false if_true if_false Bool.and_eq_true Bool.or_eq_true Bool.and_eq_false_imp Bool.or_eq_false_iff Bool.not_eq_false' has Option.isSome_some Option.isSome_none Int.toNat_natCast Int.cast_ofNat_Int List.length_append xapp2 xapp xappS xappD xappB notInt srcOf srcB byteAV splice' xcut xcutS xcutF xcutB xcutN xcut0 cutL loOf hiOf evo xmake zelem xmax xcopy2 xcopyS xcopyB xnil xcut3 ixOf xclear2 xclearB List.getElem?_toArray xbin2 xnileq xempty xmkmap xmput xmputB xmputF isKey keyEq mfind xbin3 xeqs xeqop eqFs bothB leafEq xlook xlookB xlookF xbytes beq_c_n beq_n_c bne_c_n bne_n_c one_nil dxi dxic dbri rix dck reader blind opOk refOk Go.Op.operands Go.Call.operands List.contains_cons List.contains_nil dxg dxgc dbrg pck putD List.lookup_cons List.lookup_nil ts2 tb2 zl2 za2 Tryz.underlying2 ts3 tb3 zl3 za3 Tryz.underlying3 ts4 tb4 zl4 za4 Tryz.underlying4 ts5 tb5 zl5 za5 Tryz.underlying5 ts6 tb6 zl6 za6 Tryz.underlying6 ts7 tb7 za7 Tryz.underlying7 ts8 tb8 za8 Tryz.underlying8 ts9 tb9 zl9 za9 Tryz.underlying9 ts10 tb10 zl10 za10 Tryz.underlying10 ts11 tb11 zl11 za11 Tryz.underlying11 ts12 tb12 zl12 za12 Tryz.underlying12 ts13 tb13 za13 Tryz.underlying13 ts14 tb14 za14 Tryz.underlying14 ts18 tb18 za18 Tryz.underlying18 ts19 tb19 za19 Tryz.underlying19 ts21 tb21 zl21 za21 Tryz.underlying21 ts22 tb22 zl22 za22 Tryz.underlying22 ts24 tb24 za24 Tryz.underlying24 ts25 tb25 za25 Tryz.underlying25 ts26 tb26 zl26 za26 Tryz.underlying26 ts27 tb27 za27 Tryz.underlying27 ts28 tb28 za28 Tryz.underlying28 ts30 tb30 zl30 za30 Tryz.underlying30 ts31 tb31 zl31 za31 Tryz.underlying31 ts34 tb34 zl34 za34 Tryz.underlying34 ts35 tb35 zl35 za35 Tryz.underlying35 ts36 tb36 za36 Tryz.underlying36 ts37 tb37 za37 Tryz.underlying37 ts46 tb46 za46 Tryz.underlying46 ts47 tb47 za47 Tryz.underlying47 ts61 tb61 zl61 za61 Tryz.underlying61 ts62 tb62 za62 Tryz.underlying62 ts63 tb63 za63 Tryz.underlying63 ts66 tb66 zl66 za66 Tryz.underlying66 ts68 tb68 zl68 za68 Tryz.underlying68 ts74 tb74 za74 Tryz.underlying74 ts75 tb75 za75 Tryz.underlying75 ts77 tb77 zl77 za77 Tryz.underlying77 ts81 tb81 zl81 za81 Tryz.underlying81 ts82 tb82 za82 Tryz.underlying82 ts83 tb83 za83 Tryz.underlying83 ts86 tb86 zl86 za86 Tryz.underlying86 ts102 tb102 za102 Tryz.underlying102 ts103 tb103 za103 Tryz.underlying103 ts106 tb106 za106 Tryz.underlying106 ts107 tb107 za107 Tryz.underlying107 ts114 tb114 zl114 za114 Tryz.underlying114 ts117 tb117 zl117 za117 Tryz.underlying117 ts120 tb120 zl120 za120 Tryz.underlying120 ts133 tb133 zl133 za133 Tryz.underlying133 ts144 tb144 zl144 za144 Tryz.underlying144 ts151 tb151 zl151 za151 Tryz.underlying151 ts156 tb156 zl156 za156 Tryz.underlying156 ts160 tb160 Tryz.underlying160 ts169 tb169 za169 Tryz.underlying169 ts170 tb170 za170 Tryz.underlying170 ts175 tb175 Tryz.underlying175 ts180 tb180 za180 Tryz.underlying180 ts181 tb181 za181 Tryz.underlying181 ts185 tb185 za185 Tryz.underlying185 ts186 tb186 za186 Tryz.underlying186 ts187 tb187 Tryz.underlying187 ts189 tb189 Tryz.underlying189 ts190 tb190 Tryz.underlying190 ts191 tb191 za191 Tryz.underlying191 ts192 tb192 za192 Tryz.underlying192 ts196 tb196 zl196 za196 Tryz.underlying196 ts197 tb197 zl197 za197 Tryz.underlying197 ts199 tb199 zl199 za199 Tryz.underlying199 ts200 tb200 zl200 za200 Tryz.underlying200 ts201 tb201 za201 Tryz.underlying201 ts202 tb202 za202 Tryz.underlying202

def pgA (p : List Ln) : AV := .fz 1 (p.map .str)
def layT (s : LS) (pg : AV) (b7 : Blk) (J : List Blk) : List Blk :=
  .arr 3 [.agg [.raw (.slice none 0 0), .raw (.slice none 0 0), .raw (.slice none 0 0)]] :: .arr 3 [.agg [.sl 4 0 s.pages.length s.pages.length, .sl 5 0 s.firsts.length s.firsts.length, .sl 6 0 s.starts.length s.starts.length]] :: .arr 1 [pg] :: .arr 1 [.int .i64 s.first] ::
    .arr 1 (s.pages.map pgA) :: .arr 1 (s.firsts.map (.int .i64)) :: .arr 1 (s.starts.map (.int .i64)) :: b7 :: J
/-- the table of a layout under way -/
def layS (s : LS) (J : List Blk) : List Blk := layT s (.sl 7 0 s.page.length s.page.length) (.arr 1 (s.page.map .str)) J
theorem frozen_lns (l : List Ln) : (flat (l.map AV.str)).all Av.frozen = true := by
  induction l with
  | nil => rfl
  | cons y l ih => simpa [flat, cellsOf, Av.frozen] using ih
theorem frz_map {α : Type} {id es : Nat} {l : List AV} {f : α → AV} (h : ∀ x, frz id es l (f x) = f x) (xs : List α) : (xs.map f).map (frz id es l) = xs.map f := by
  rw [List.map_map]; exact List.map_congr_left fun x _ => h x
theorem ren_map {α : Type} {σ : List Nat} {f : α → AV} (h : ∀ x, renC σ (f x) = f x) (xs : List α) : (xs.map f).map (renC σ) = xs.map f := by
  rw [List.map_map]; exact List.map_congr_left fun x _ => h x
theorem frz_page (s : LS) (J : List Blk) (hJ : ∀ l, J.map (frzB 7 1 l) = J) : ((layS s J).set 7 .dead).map (frzB 7 1 (s.page.map .str)) = layT s (pgA s.page) .dead J := by
  have h2 : List.take s.page.length (List.map AV.str s.page) = List.map AV.str s.page := List.take_of_length_le (by simp)
  simp only [layS, layT, List.set_cons_succ, List.set_cons_zero, List.map_cons, frzB, hJ, List.map_nil]
  rw [frz_map (fun _ => rfl), frz_map (fun _ => rfl), frz_map (fun _ => rfl)]
  simp only [frz, frz1, List.map_cons, List.map_nil, List.length_map, Nat.zero_add, List.drop_zero, h2, pgA]
  simp

theorem flush_ct (s : LS) (J : List Blk) (hJ : ∀ l, J.map (frzB 7 1 l) = J) (h1 : s.pages.length ≤ 2000000000000) (h2 : s.firsts.length ≤ 2000000000000) :
    Ct Tryz.prog 67 [.ptr 1 1 0 0, .ptr 2 1 0 0, .ptr 3 1 0 0] (layS s J) (fun r st => r = .tup [] ∧ st = layT (flushS s) (.raw (.slice none 0 0)) .dead J) := by
  refine ct_intro Tryz.func67 rfl Tryz.ntmps67 hB67 (by simp) fun h ρ w => ?_
  refine AWp.shift (Shift.frz 7 (es := 1) (l := s.page.map .str) rfl (frozen_lns _)) ?_
  rw [frz_page s J hJ]
  simp only [args0, frzE, frz, frz1, layT]
  refine goF (N := 15) Tryz.ntmps67 300 ?_
  simp only [go_sem, Nat.reduceAdd, Nat.reduceMul, Nat.reduceBEq, Nat.reduceLT, Nat.reduceLeDiff, reduceIte, reduceCtorEq, Int.reduceToNat, Int.reduceLT, Int.reduceGT, Int.reduceNeg, Int.reduceBEq, Int.reduceBNe, List.length_map, pgA]
  repeat refine And.intro (by first | omega | exact .inl trivial | exact .inl (.inl trivial) | rfl | (simp; done) | (simp; omega)) ?_
  exact aret [] rfl ⟨rfl, by simp [layT, flushS, pgA]⟩
end Go.Proofs.YtikbgjhajgjjdaaGreatDoor
/- Lay: the table after a page is done. Own work of this seat. -/
set_option maxRecDepth 100000
set_option linter.unusedSimpArgs false
set_option linter.unusedVariables false
namespace Go.Proofs.YtikbgjhajgjjdaaGreatDoor
open Go Go.Av Go.RowKit

theorem ren_layT (s : LS) (b : Bl) (h0 : s.page = []) : renS [0, 1, 2, 3, 4, 5, 6, 9, 8] (List.set (layT s (.raw (.slice none 0 0)) .dead [.arr 4 [blA b]] ++ [Blk.arr 1 []]) 2 (.arr 1 [.sl 9 0 0 0])) = layS s [.arr 4 [blA b]] := by
  have h : renS [0, 1, 2, 3, 4, 5, 6, 9, 8] (List.set (layT s (.raw (.slice none 0 0)) .dead [.arr 4 [blA b]] ++ [Blk.arr 1 []]) 2 (.arr 1 [.sl 9 0 0 0])) =
      .arr 3 [.agg [.raw (.slice none 0 0), .raw (.slice none 0 0), .raw (.slice none 0 0)]] :: .arr 3 [.agg [.sl 4 0 s.pages.length s.pages.length, .sl 5 0 s.firsts.length s.firsts.length, .sl 6 0 s.starts.length s.starts.length]] :: .arr 1 [.sl 7 0 0 0] :: .arr 1 [.int .i64 s.first] ::
      .arr 1 ((s.pages.map pgA).map (renC [0, 1, 2, 3, 4, 5, 6, 9, 8])) :: .arr 1 ((s.firsts.map (.int .i64)).map (renC [0, 1, 2, 3, 4, 5, 6, 9, 8])) :: .arr 1 ((s.starts.map (.int .i64)).map (renC [0, 1, 2, 3, 4, 5, 6, 9, 8])) :: .arr 1 [] :: [.arr 4 [blA b]] := rfl
  rw [h, ren_map (fun _ => rfl), ren_map (fun _ => rfl), ren_map (fun _ => rfl)]
  simp only [layS, layT, h0, List.length_nil, List.map_nil]
theorem refill_shift {c : Cx} {e e' : Env} (hc : c.sto.length = 0) (s : LS) (b : Bl) (h0 : s.page = []) (hw : wk (renE [0, 1, 2, 3, 4, 5, 6, 9, 8] e) e') : Shift c e (layT s (.raw (.slice none 0 0)) .dead [.arr 4 [blA b]]) e' (layS s [.arr 4 [blA b]]) := by
  refine Shift.trans (Shift.cells 2 1 [.sl 9 0 0 0] rfl rfl (by simp [cellsOf]) ⟨.sl, trivial⟩) ?_
  refine Shift.trans (Shift.ren [0, 1, 2, 3, 4, 5, 6, 9, 8] (by rw [hc]; rfl)) ?_
  exact Shift.weakS hw (ren_layT s b h0)

theorem low_layS (s : LS) : (layS s []).all (lowB 8) = true := by
  have h1 : (flat (s.pages.map pgA)).all Av.frozen = true := by
    generalize s.pages = l
    induction l with
    | nil => rfl
    | cons y l ih => simpa [flat, cellsOf, pgA, Av.frozen] using ih
  have h2 : ∀ l : List Int, (flat (l.map (AV.int .i64))).all Av.frozen = true := fun l => by
    induction l with
    | nil => rfl
    | cons y l ih => simpa [flat, cellsOf, Av.frozen] using ih
  simp only [layS, layT, List.all_cons, List.all_nil, Bool.and_true]
  simp only [lowB, low_all h1, low_all (h2 _), low_all (frozen_lns _), Bool.and_true, Bool.true_and]
  simp [flat, cellsOf, lowC, Av.frozen]
theorem drop_shift {c : Cx} {e e' : Env} (hc : c.sto.length = 0) (s : LS) (b : Blk) (hw : wkl 8 e e') : Shift c e (layS s [b]) e' (layS s []) := by
  have h := Shift.low (c := c) (e := e) (e' := e') (s := layS s [b]) 8 (by omega) (by simp [layS, layT]) (low_layS s) hw
  exact h
theorem headN_le {bs : List Bl} {i : Nat} {b : Bl} {M : Nat} (h : ∀ d ∈ bs, d.lines.length ≤ M) : headN bs i b ≤ b.lines.length + M + 5 := by
  have h1 := least_le b
  unfold headN
  by_cases hk : (b.kind == 0) = true
  · rw [if_pos hk]
    cases hq : bs[i + 1]? with
    | none => simp only; omega
    | some d =>
      have h2 := least_le d
      have h3 := h d (List.mem_of_getElem? hq)
      simp only
      split <;> omega
  · rw [if_neg hk]; omega
theorem turn_inv {bs : List Bl} {i : Nat} {b : Bl} {s : LS} {w : List Ln} (h : PInv s w) : PInv (turnS bs i b s) w ∧ ((turnS bs i b s).page = [] ∨ (turnS bs i b s).page.length + gapN b + headN bs i b ≤ 54) := by
  have hn : ∀ s : LS, addS s [] = s := fun s => by simp [addS]
  unfold turnS
  split
  · rename_i hc
    have : 1 ≤ s.page.length := by
      cases hq : s.page with
      | nil => exact (hc.1 hq).elim
      | cons a r => simp
    have k := flush_inv h (post := []) (.inl rfl) (by simpa using this) (by simpa using h.len)
    rw [hn] at k
    exact ⟨k, .inl rfl⟩
  · rename_i hc
    refine ⟨h, ?_⟩
    by_cases h0 : s.page = []
    · exact .inl h0
    · right
      have : ¬ s.page.length + gapN b + headN bs i b > 54 := fun e => hc ⟨h0, e⟩
      omega
theorem turn_many (bs : List Bl) (i : Nat) (b : Bl) (s : LS) : (turnS bs i b s).pages.length ≤ s.pages.length + 1 ∧ ((turnS bs i b s).firsts.length = (turnS bs i b s).pages.length ↔ s.firsts.length = s.pages.length) ∧ (turnS bs i b s).starts = s.starts := by
  unfold turnS
  split
  · simp [flushS]
  · simp
theorem place_step {b : Bl} (ho : ∀ x ∈ b.lines, OwnLn x) {fr : Nat} {s : LS} {w : List Ln} (h : PInv s w) (hfr : fr ≤ b.lines.length) (hr : RoomOk b fr (54 - s.page.length)) (hne : stopL b fr (54 - s.page.length) ≠ b.lines.length) :
    fr < stopL b fr (54 - s.page.length) ∧ stopL b fr (54 - s.page.length) < b.lines.length ∧ (∃ w', PInv (breakS b (addS s (partL' b fr (stopL b fr (54 - s.page.length))))) w') ∧ RoomOk b (stopL b fr (54 - s.page.length)) (54 - (breakS b (addS s (partL' b fr (stopL b fr (54 - s.page.length))))).page.length) := by
  have hl := h.len
  rcases stop_spec hr hfr with ⟨h1, h2⟩ | ⟨h1, h2, h3⟩
  · exact (hne h1).elim
  · generalize hto : stopL b fr (54 - s.page.length) = tz at h1 h2 h3 ⊢
    have hpl := partLn_len b (fr := fr) (Nat.le_of_lt h2)
    have ho' : ∀ x ∈ partL' b fr tz, OwnLn x := fun x hx => ho x (List.mem_of_mem_take (List.mem_of_mem_drop hx))
    have k1 := add_inv h ho' (by rw [List.length_append, hpl]; unfold grp at h3; split at h3 <;> omega)
    have k2 := break_inv (b := b) k1 (by simp only [addS, List.length_append, hpl]; omega) (by simp only [addS, List.length_append, hpl]; omega)
    refine ⟨h1, h2, ⟨_, k2⟩, ?_⟩
    right
    rw [break_page]
    unfold grp
    split <;> simp

def costTo (bs : List Bl) (i : Nat) : Nat := ((bs.take i).map fun b => b.lines.length + 1).sum
theorem costTo_step {bs : List Bl} {i : Nat} (h : i < bs.length) : costTo bs (i + 1) = costTo bs i + (bs[i].lines.length + 1) := by
  unfold costTo
  rw [List.take_succ_eq_append_getElem h, List.map_append, List.sum_append]
  simp only [List.map_cons, List.map_nil, List.sum_cons, List.sum_nil, Nat.add_zero]
theorem costTo_mono (bs : List Bl) {i : Nat} (h : i ≤ bs.length) : costTo bs i ≤ costTo bs bs.length := by
  have : costTo bs bs.length = costTo bs i + ((bs.drop i).map fun b => b.lines.length + 1).sum := by
    simp only [costTo, List.take_length]
    rw [← List.sum_append, ← List.map_append, List.take_append_drop]
  omega

end Go.Proofs.YtikbgjhajgjjdaaGreatDoor
/- Lay: the table at the end. Own work of this seat. -/
set_option maxRecDepth 100000
set_option linter.unusedSimpArgs false
set_option linter.unusedVariables false
namespace Go.Proofs.YtikbgjhajgjjdaaGreatDoor
open Go Go.Av Go.RowKit

def layF (s : LS) (pg : AV) (b7 : Blk) : List Blk :=
  .arr 3 [.agg [.raw (.slice none 0 0), .raw (.slice none 0 0), .raw (.slice none 0 0)]] :: .arr 3 [.agg [.fz 1 (s.pages.map pgA), .fz 1 (s.firsts.map (.int .i64)), .fz 1 (s.starts.map (.int .i64))]] :: .arr 1 [pg] :: .arr 1 [.int .i64 s.first] :: .dead :: .dead :: .dead :: [b7]
def isF (x : AV) : Prop := ∀ id l, id < 7 → frz id 1 l x = x
theorem frz_out4 (a b c : Nat) (P : List AV) (h : a = P.length) : frz 4 1 P (.agg [.sl 4 0 a a, .sl 5 0 b b, .sl 6 0 c c]) = .agg [.fz 1 P, .sl 5 0 b b, .sl 6 0 c c] := by
  subst h
  simp [frz, frz1]
theorem frz_out5 (b c : Nat) (A P : List AV) (h : b = P.length) : frz 5 1 P (.agg [.fz 1 A, .sl 5 0 b b, .sl 6 0 c c]) = .agg [.fz 1 A, .fz 1 P, .sl 6 0 c c] := by
  subst h
  simp [frz, frz1]
theorem frz_out6 (c : Nat) (A B P : List AV) (h : c = P.length) : frz 6 1 P (.agg [.fz 1 A, .fz 1 B, .sl 6 0 c c]) = .agg [.fz 1 A, .fz 1 B, .fz 1 P] := by
  subst h
  simp [frz, frz1]
theorem frozen_pgs (l : List (List Ln)) : (flat (l.map pgA)).all Av.frozen = true := by
  induction l with
  | nil => rfl
  | cons y l ih => simpa [flat, cellsOf, pgA, Av.frozen] using ih
theorem frozen_nums (l : List Int) : (flat (l.map (AV.int .i64))).all Av.frozen = true := by
  induction l with
  | nil => rfl
  | cons y l ih => simpa [flat, cellsOf, Av.frozen] using ih
theorem fin_shift {c : Cx} {e e' : Env} (s : LS) {pg : AV} {b7 : Blk} (hp : isF pg) (hb : ∀ id l, id < 7 → frzB id 1 l b7 = b7)
    (hw : wk (frzE 6 1 (s.starts.map (.int .i64)) (frzE 5 1 (s.firsts.map (.int .i64)) (frzE 4 1 (s.pages.map pgA) e))) e') : Shift c e (layT s pg b7 []) e' (layF s pg b7) := by
  have hz : ∀ id l, frzB id 1 l (.arr 3 [.agg [.raw (.slice none 0 0), .raw (.slice none 0 0), .raw (.slice none 0 0)]]) = .arr 3 [.agg [.raw (.slice none 0 0), .raw (.slice none 0 0), .raw (.slice none 0 0)]] := fun _ _ => rfl
  have hi : ∀ id l (n : Int), frzB id 1 l (.arr 1 [.int .i64 n]) = .arr 1 [.int .i64 n] := fun _ _ _ => rfl
  have hg : ∀ id l, id < 7 → frzB id 1 l (.arr 1 [pg]) = .arr 1 [pg] := fun id l h => by simp only [frzB, List.map_cons, List.map_nil, hp id l h]
  have hn : ∀ id l (xs : List Int), frzB id 1 l (.arr 1 (xs.map (.int .i64))) = .arr 1 (xs.map (.int .i64)) := fun id l xs => by simp only [frzB]; rw [frz_map (fun _ => rfl)]
  have hd : ∀ id l, frzB id 1 l .dead = .dead := fun _ _ => rfl
  refine Shift.trans (Shift.frz 4 (es := 1) (l := s.pages.map pgA) rfl (frozen_pgs _)) ?_
  have t1 : (List.set (layT s pg b7 []) 4 .dead).map (frzB 4 1 (s.pages.map pgA)) = .arr 3 [.agg [.raw (.slice none 0 0), .raw (.slice none 0 0), .raw (.slice none 0 0)]] :: .arr 3 [.agg [.fz 1 (s.pages.map pgA), .sl 5 0 s.firsts.length s.firsts.length, .sl 6 0 s.starts.length s.starts.length]] :: .arr 1 [pg] :: .arr 1 [.int .i64 s.first] :: .dead :: .arr 1 (s.firsts.map (.int .i64)) :: .arr 1 (s.starts.map (.int .i64)) :: [b7] := by
    show frzB 4 1 _ _ :: frzB 4 1 _ (.arr 3 [_]) :: frzB 4 1 _ _ :: frzB 4 1 _ _ :: frzB 4 1 _ _ :: frzB 4 1 _ _ :: frzB 4 1 _ _ :: [frzB 4 1 _ _] = _
    rw [hz, hg 4 _ (by omega), hi, hd, hn, hn, hb 4 _ (by omega)]
    simp only [frzB, List.map_cons, List.map_nil]
    rw [frz_out4 _ _ _ _ (by simp)]
  rw [t1]
  refine Shift.trans (Shift.frz 5 (es := 1) (l := s.firsts.map (.int .i64)) rfl (frozen_nums _)) ?_
  have t2 : (List.set (Blk.arr 3 [.agg [.raw (.slice none 0 0), .raw (.slice none 0 0), .raw (.slice none 0 0)]] :: .arr 3 [.agg [.fz 1 (s.pages.map pgA), .sl 5 0 s.firsts.length s.firsts.length, .sl 6 0 s.starts.length s.starts.length]] :: .arr 1 [pg] :: .arr 1 [.int .i64 s.first] :: .dead :: .arr 1 (s.firsts.map (.int .i64)) :: .arr 1 (s.starts.map (.int .i64)) :: [b7]) 5 .dead).map (frzB 5 1 (s.firsts.map (.int .i64))) =
      .arr 3 [.agg [.raw (.slice none 0 0), .raw (.slice none 0 0), .raw (.slice none 0 0)]] :: .arr 3 [.agg [.fz 1 (s.pages.map pgA), .fz 1 (s.firsts.map (.int .i64)), .sl 6 0 s.starts.length s.starts.length]] :: .arr 1 [pg] :: .arr 1 [.int .i64 s.first] :: .dead :: .dead :: .arr 1 (s.starts.map (.int .i64)) :: [b7] := by
    show frzB 5 1 _ _ :: frzB 5 1 _ (.arr 3 [_]) :: frzB 5 1 _ _ :: frzB 5 1 _ _ :: frzB 5 1 _ _ :: frzB 5 1 _ _ :: frzB 5 1 _ _ :: [frzB 5 1 _ _] = _
    rw [hz, hg 5 _ (by omega), hi, hd, hn, hb 5 _ (by omega)]
    simp only [frzB, List.map_cons, List.map_nil]
    rw [frz_out5 _ _ _ _ (by simp)]
  rw [t2]
  refine Shift.trans (Shift.frz 6 (es := 1) (l := s.starts.map (.int .i64)) rfl (frozen_nums _)) ?_
  have t3 : (List.set (Blk.arr 3 [.agg [.raw (.slice none 0 0), .raw (.slice none 0 0), .raw (.slice none 0 0)]] :: .arr 3 [.agg [.fz 1 (s.pages.map pgA), .fz 1 (s.firsts.map (.int .i64)), .sl 6 0 s.starts.length s.starts.length]] :: .arr 1 [pg] :: .arr 1 [.int .i64 s.first] :: .dead :: .dead :: .arr 1 (s.starts.map (.int .i64)) :: [b7]) 6 .dead).map (frzB 6 1 (s.starts.map (.int .i64))) = layF s pg b7 := by
    show frzB 6 1 _ _ :: frzB 6 1 _ (.arr 3 [_]) :: frzB 6 1 _ _ :: frzB 6 1 _ _ :: frzB 6 1 _ _ :: frzB 6 1 _ _ :: frzB 6 1 _ _ :: [frzB 6 1 _ _] = _
    rw [hz, hg 6 _ (by omega), hi, hd, hb 6 _ (by omega)]
    simp only [frzB, List.map_cons, List.map_nil]
    rw [frz_out6 _ _ _ _ (by simp)]
    rfl
  rw [t3]
  exact Shift.weak hw
end Go.Proofs.YtikbgjhajgjjdaaGreatDoor
