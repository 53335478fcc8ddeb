/- Functions that leave memory as it was: one contract for every table of blocks; what is frozen. Own work of this seat. -/
import Derived.Test.YtkomcdohejibmaaGreatDoorY12
set_option linter.unusedSimpArgs false
set_option linter.unusedVariables false
set_option linter.unusedSectionVars false
namespace Go.Av
open Go Go.RowKit
variable [Tr]

def Lf0 : Value → AV → Prop := fun _ _ => False
/-- without references, to the bottom of a value -/
def nr1 : AV → Bool
  | .agg l => l.all frozen
  | a => frozen a
def nr2 : AV → Bool
  | .tup l => l.all nr1
  | a => nr1 a

/-- what a call of a function comes to that only reads what is frozen, and makes new memory -/
def Pc (P : Program) (f : FuncId) (args : List AV) (post : AV → Prop) : Prop :=
  hasBody P f = true ∧ ∀ h w vs, (∀ b o v, h b o = some v → w.cell? ⟨b, o, none⟩ = some v ∧ v.oneCell' = true) → RL h Lf0 true vs args → Calls P f vs.toArray w fun en w' =>
    ∃ v r h', en = .returned v ∧ post r ∧ (∀ b o v, h' b o = some v → w'.cell? ⟨b, o, none⟩ = some v ∧ v.oneCell' = true) ∧ (∀ b o v, h b o = some v → h' b o = some v) ∧
      (∀ b o, h b o = none → h' b o ≠ none → w.heap.size ≤ b) ∧ Same w w' ∧ RV h' Lf0 true v r

section
variable {h : Mem} {ρ : Own} {sto : List Blk} {w : World} {P : Program} {Lf' : Value → AV → Prop}

theorem nofrz {fl u a} (r : RV h (Lf ρ sto) fl u a) (hf : nr1 a = true) : RV h Lf' true u a := by
  cases a with
  | agg l =>
    obtain ⟨vs, rfl, rl⟩ := inv_agg r
    exact .agg _ _ ((frz_all rl hf).thaw (fun _ _ _ x => x))
  | _ => exact (frz_one r hf).thaw (fun _ _ _ x => x)

theorem nofrzL {fl : Bool} : ∀ {l : List AV} {vs : List Value}, RL h (Lf ρ sto) fl vs l → l.all nr1 = true → RL h Lf' true vs l
  | [], _, r, _ => by cases r; exact .nil
  | a :: l, _, r, hf => by
    cases r with
    | cons r1 r2 =>
      simp at hf
      exact .cons (nofrz r1 hf.1) (nofrzL r2 (by simpa using hf.2))

theorem nofrz2 {fl u a} (r : RV h (Lf ρ sto) fl u a) (hf : nr2 a = true) : RV h Lf' true u a := by
  cases a with
  | tup l =>
    obtain ⟨vs, rfl, rl⟩ := inv_tup r
    exact .tup _ _ (nofrzL rl hf)
  | _ => exact nofrz r hf

/-- out of the walk over an empty table -/
theorem pc_intro {f : FuncId} {args : List AV} {post : AV → Prop} (hc : Ct P f args [] (fun r _ => post r ∧ nr2 r = true)) : Pc P f args post := by
  refine ⟨hc.1, fun h w vs hm hv => ?_⟩
  have hmine : Mine h (fun _ => none) [] w := ⟨hm, fun id blk e => by simp at e, fun _ _ => rfl, fun i j g t t' e => by simp at e, fun i g t e => by simp at e⟩
  refine (hc.2 h (fun _ => none) w vs hmine (hv.thaw (fun _ _ _ x => x))).mono ?_
  rintro en w' ⟨v, r, s, h', ρ', rfl, ⟨hp, hn⟩, hm', hl, rv⟩
  exact ⟨v, r, h', rfl, hp, hm'.mem, hl.hle, fun b o e n => by
    rcases hl.hnew b o e n with ⟨j, t, hj⟩ | hs
    · simp at hj
    · exact hs, ⟨hl.os, hl.tape, hl.output, hl.size, fun k hk => hl.block k hk (fun i t e => by simp at e)⟩, nofrz2 rv hn⟩

/-- over every table of blocks -/
theorem Pc.ct {f : FuncId} {args : List AV} {post : AV → Prop} (hc : Pc P f args post) (ha : args.all nr1 = true) (sto : List Blk) : Ct P f args sto (fun r s => post r ∧ s = sto) := by
  refine ⟨hc.1, fun h ρ w vs hm hv => ?_⟩
  refine (hc.2 h w vs hm.mem (nofrzL hv ha)).mono ?_
  rintro en w' ⟨v, r, h', rfl, hp, hm', hle, hnew, hs, rv⟩
  refine ⟨v, r, sto, h', ρ, rfl, ⟨hp, rfl⟩, ⟨hm', ?_, hm.out, hm.inj, ?_⟩, ⟨hle, fun b o e n => .inr (hnew b o e n), fun _ _ x => x, hs.os, hs.tape, hs.output, hs.size, fun k hk _ => hs.block k hk, fun i _ t x => .inl ⟨i, t, x⟩⟩, rv.thaw (fun _ _ _ x => x)⟩
  · exact fun id blk e => (hm.own id blk e).mono hle (fun _ _ x => x) rfl (fun g t hg => hs.block g (hm.lt hg))
  · intro i g t e o
    have hlt := hm.lt e
    have hd := hm.disj i g t e o
    cases hq : h' g o with
    | none => rfl
    | some v => have := hnew g o hd (by simp [hq]); omega

/-- a call of such a function -/
theorem pcall {c : Cx} {k : List It} {e : Env} {s : List Blk} {f : FuncId} {args : List AV} {d : Option Tmp} {all os : List Oper} {post : AV → Prop} (hc : Pc c.P f args post) (ha : args.all nr1 = true) {N : Nat} (hN : c.fn.ntmps = N) (hd : dOk N d = true)
    (hk : ∀ r, post r → AWp c (.ops all os :: k) (put e d r) s) : ACall c f args d all os k e s :=
  acall (hc.ct ha s) hN hd fun r s' ⟨hp, hs⟩ => by subst hs; exact hk r hp

/-- one whose result is known -/
theorem pcall1 {c : Cx} {k : List It} {e : Env} {s : List Blk} {f : FuncId} {args : List AV} {d : Option Tmp} {all os : List Oper} {r : AV} (hc : Pc c.P f args (· = r)) (ha : args.all nr1 = true) {N : Nat} (hN : c.fn.ntmps = N) (hd : dOk N d = true)
    (hk : AWp c (.ops all os :: k) (put e d r) s) : ACall c f args d all os k e s :=
  pcall hc ha hN hd fun r' hr => by subst hr; exact hk

theorem Pc.mono {f : FuncId} {args : List AV} {post post' : AV → Prop} (hc : Pc P f args post) (hp : ∀ r, post r → post' r) : Pc P f args post' :=
  ⟨hc.1, fun h w vs hm hv => (hc.2 h w vs hm hv).mono fun _ _ ⟨v, r, h', a, b, rest⟩ => ⟨v, r, h', a, hp r b, rest⟩⟩

/-- what the machine's own contract is, of a call whose arguments and result are plain -/
theorem Pc.calls {f : FuncId} {args : List AV} {r : AV} (hc : Pc P f args (· = r)) {w : World} {vs : List Value} (hv : ∀ h, RL h Lf0 true vs args) : Calls P f vs.toArray w fun en w' => (∃ v h', en = .returned v ∧ RV h' Lf0 true v r) ∧ Same w w' :=
  (hc.2 (fun _ _ => none) w vs (fun b o v e => by simp at e) (hv _)).mono fun _ _ ⟨v, _, h', e1, e2, _, _, _, hs, rv⟩ => ⟨⟨v, h', e1, e2 ▸ rv⟩, hs⟩
end
end Go.Av
