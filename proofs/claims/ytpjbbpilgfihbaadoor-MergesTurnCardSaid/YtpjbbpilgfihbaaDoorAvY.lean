/- Contracts that lean on cells of memory that were there before and stand (variables of the library's). Own work of this seat. -/
import Derived.Test.YtpjbbpilgfihbaaDoorAvX
set_option linter.unusedSimpArgs false
set_option linter.unusedVariables false
namespace Go.Av
open Go Go.RowKit

/-- these cells stand -/
def Le (g h : Mem) : Prop := ∀ b o v, g b o = some v → h b o = some v

def CtH (P : Program) (g : Mem) (f : FuncId) (args : List AV) (sto : List Blk) (post : AV → List Blk → Prop) : Prop :=
  hasBody P f = true ∧ ∀ h ρ w vs, Le g h → Mine h ρ sto w → RL h (Lf ρ sto) false vs args → Calls P f vs.toArray w fun en w' =>
    ∃ v r s h' ρ', en = .returned v ∧ post r s ∧ Mine h' ρ' s w' ∧ Later h ρ sto w h' ρ' s w' ∧ RV h' (Lf ρ' s) false v r

def PcH (P : Program) (g : Mem) (f : FuncId) (args : List AV) (post : AV → Prop) : Prop :=
  hasBody P f = true ∧ ∀ h w vs, Le g h → (∀ b o v, h b o = some v → w.cell? ⟨b, o, none⟩ = some v ∧ v.oneCell' = true) → RL h Lf0 true vs args → Calls P f vs.toArray w fun en w' =>
    ∃ v r h', en = .returned v ∧ post r ∧ (∀ b o v, h' b o = some v → w'.cell? ⟨b, o, none⟩ = some v ∧ v.oneCell' = true) ∧ (∀ b o v, h b o = some v → h' b o = some v) ∧
      (∀ b o, h b o = none → h' b o ≠ none → w.heap.size ≤ b) ∧ Same w w' ∧ RV h' Lf0 true v r

section
variable {P : Program} {g : Mem}

theorem Ct.toH {f : FuncId} {args : List AV} {sto : List Blk} {post : AV → List Blk → Prop} (hc : Ct P f args sto post) : CtH P g f args sto post := ⟨hc.1, fun h ρ w vs _ m r => hc.2 h ρ w vs m r⟩
theorem Pc.toH {f : FuncId} {args : List AV} {post : AV → Prop} (hc : Pc P f args post) : PcH P g f args post := ⟨hc.1, fun h w vs _ m r => hc.2 h w vs m r⟩

theorem cth_intro {f : FuncId} {fn : Func} {body : Code} {N : Nat} {args : List AV} {sto : List Blk} {post : AV → List Blk → Prop} (hf : P.funcs[f]? = some fn) (hb : fn.body = some body) (hn : fn.ntmps = N) (hx : hasBody P f = true)
    (ha : args.length ≤ N) (h : ∀ h ρ w, Le g h → AWp ⟨P, fn, h, ρ, sto, w, post, X0, stb0⟩ [.code body] (args0 0 args) sto) : CtH P g f args sto post := by
  refine ⟨hx, fun hh ρ w vs hg hm hv => ?_⟩
  refine calls_of_wp hf hb ?_
  have hlen := hv.length
  have hsim : Sim ⟨P, fn, hh, ρ, sto, w, post, X0, stb0⟩ (args0 0 args) sto { tmps := vs.toArray ++ Array.replicate (fn.ntmps - vs.toArray.size) undef, defers := [] } w := by
    refine ⟨hh, ρ, hm, .refl .., fun t => ?_, rfl, by simp; omega, trivial⟩
    rw [args0_get]
    simp only [Nat.zero_le, if_true, Nat.sub_zero]
    have h1 := hv.getD t undef
    by_cases ht : t < vs.length
    · have : (vs.toArray ++ Array.replicate (fn.ntmps - vs.toArray.size) undef).getD t undef = vs.getD t undef := by
        simp [Array.getElem?_append, ht, List.getD]
      simp only [this]; exact h1
    · have : args.getD t .any = .any := by simp [List.getD, List.getElem?_eq_none (by omega : args.length ≤ t)]
      rw [this]; exact .any _
  have := h hh ρ w hg _ w hsim
  refine Code.wp_mono ?_ (show body.wp P (WQ ⟨P, fn, hh, ρ, sto, w, post, X0, stb0⟩ []) _ w from this)
  intro en a' w' hq
  cases en with
  | normal => obtain ⟨hd, v, r, s, h', ρ', h1, h2⟩ := hq; exact ⟨hd, v, h1, v, r, s, h', ρ', rfl, h2⟩
  | ret => obtain ⟨hd, v, r, s, h', ρ', h1, h2⟩ := hq; exact ⟨hd, v, h1, v, r, s, h', ρ', rfl, h2⟩
  | _ => exact hq.elim

theorem pch_intro {f : FuncId} {args : List AV} {post : AV → Prop} (hc : CtH P g f args [] (fun r _ => post r ∧ nr2 r = true)) : PcH P g f args post := by
  refine ⟨hc.1, fun h w vs hg hm hv => ?_⟩
  have hmine : Mine h (fun _ => none) [] w := ⟨hm, fun id blk e => by simp at e, fun _ _ => rfl, fun i j g t t' e => by simp at e, fun i g t e => by simp at e⟩
  refine (hc.2 h (fun _ => none) w vs hg hmine (hv.thaw (fun _ _ _ x => x))).mono ?_
  rintro en w' ⟨v, r, s, h', ρ', rfl, ⟨hp, hn⟩, hm', hl, rv⟩
  exact ⟨v, r, h', rfl, hp, hm'.mem, hl.hle, fun b o e n => by
    rcases hl.hnew b o e n with ⟨j, t, hj⟩ | hs
    · simp at hj
    · exact hs, ⟨hl.os, hl.tape, hl.output, hl.size, fun k hk => hl.block k hk (fun i t e => by simp at e)⟩, nofrz2 rv hn⟩

theorem PcH.cth {f : FuncId} {args : List AV} {post : AV → Prop} (hc : PcH P g f args post) (ha : args.all nr1 = true) (sto : List Blk) : CtH P g f args sto (fun r s => post r ∧ s = sto) := by
  refine ⟨hc.1, fun h ρ w vs hg hm hv => ?_⟩
  refine (hc.2 h w vs hg hm.mem (nofrzL hv ha)).mono ?_
  rintro en w' ⟨v, r, h', rfl, hp, hm', hle, hnew, hs, rv⟩
  refine ⟨v, r, sto, h', ρ, rfl, ⟨hp, rfl⟩, ⟨hm', ?_, hm.out, hm.inj, ?_⟩, ⟨hle, fun b o e n => .inr (hnew b o e n), fun _ _ x => x, hs.os, hs.tape, hs.output, hs.size, fun k hk _ => hs.block k hk, fun i _ t x => .inl ⟨i, t, x⟩⟩, rv.thaw (fun _ _ _ x => x)⟩
  · exact fun id blk e => (hm.own id blk e).mono hle (fun _ _ x => x) rfl (fun g t hg => hs.block g (hm.lt hg))
  · intro i g t e o
    have hlt := hm.lt e
    have hd := hm.disj i g t e o
    cases hq : h' g o with
    | none => rfl
    | some v => have := hnew g o hd (by simp [hq]); omega

variable {c : Cx} {k : List It} {e : Env} {s : List Blk}

theorem acallH (hg : Le g c.h) {f : FuncId} {args : List AV} {d : Option Tmp} {all os : List Oper} {post : AV → List Blk → Prop} (hc : CtH c.P g f args s post) {N : Nat} (hN : c.fn.ntmps = N) (hd : dOk N d = true)
    (hk : ∀ r s', post r s' → AWp c (.ops all os :: k) (put e d r) s') : ACall c f args d all os k e s := by
  intro a w h ρ vs hm hl he hdf hsz hX hv
  refine ⟨hc.1, (hc.2 h ρ w vs (fun b o v x => hl.hle b o v (hg b o v x)) hm hv).mono ?_⟩
  rintro en w' ⟨v, r, s', h', ρ', rfl, hp, hm', hlt, rv⟩
  have he' : EnvOk h' ρ' s' e a := fun t => (he t).mono hlt.hle hlt.keep
  exact hk r s' hp _ _ ⟨h', ρ', hm', hl.trans hlt, he'.put (by rw [hsz, hN]; exact hd) rv, by rw [put_defers']; exact hdf, by rw [put_size]; exact hsz, c.hx.later hm hlt hX⟩

theorem pcallH (hg : Le g c.h) {f : FuncId} {args : List AV} {d : Option Tmp} {all os : List Oper} {post : AV → Prop} (hc : PcH c.P g f args post) (ha : args.all nr1 = true) {N : Nat} (hN : c.fn.ntmps = N) (hd : dOk N d = true)
    (hk : ∀ r, post r → AWp c (.ops all os :: k) (put e d r) s) : ACall c f args d all os k e s :=
  acallH hg (hc.cth ha s) hN hd fun r s' ⟨hp, hs⟩ => by subst hs; exact hk r hp
theorem pcallH1 (hg : Le g c.h) {f : FuncId} {args : List AV} {d : Option Tmp} {all os : List Oper} {r : AV} (hc : PcH c.P g f args (· = r)) (ha : args.all nr1 = true) {N : Nat} (hN : c.fn.ntmps = N) (hd : dOk N d = true)
    (hk : AWp c (.ops all os :: k) (put e d r) s) : ACall c f args d all os k e s :=
  pcallH hg hc ha hN hd fun r' hr => by subst hr; exact hk
theorem PcH.mono {f : FuncId} {args : List AV} {post post' : AV → Prop} (hc : PcH P g f args post) (hp : ∀ r, post r → post' r) : PcH P g f args post' :=
  ⟨hc.1, fun h w vs hg hm hv => (hc.2 h w vs hg hm hv).mono fun _ _ ⟨v, r, h', a, b, rest⟩ => ⟨v, r, h', a, hp r b, rest⟩⟩
end
end Go.Av
