/- Calls that change one block of the caller's (a method with a pointer for its receiver). Own work of this seat. -/
import Derived.Test.YtpjbbpilgfihbaaGreatDoorAvJ
set_option linter.unusedSimpArgs false
set_option linter.unusedVariables false
namespace Go.Av
open Go Go.RowKit

section
variable {h : Mem} {ρ : Own} {sto : List Blk} {w : World} {P : Program}

/-- what a method comes to that is called on a block with one element, and hands back what is frozen -/
def Mc (P : Program) (f : FuncId) (e : Nat) (agg : AV) (args : List AV) (post : AV → AV → Prop) : Prop :=
  Ct P f (.ptr 0 1 0 0 :: args) [.arr e [agg]] (fun r s => ∃ agg' junk, s = .arr e [agg'] :: junk ∧ post r agg' ∧ nr2 r = true ∧ nr1 agg' = true)

theorem nr1_cells {fl : Bool} {a : AV} {vs : List Value} (ha : nr1 a = true) (r : RL h (Lf ρ sto) fl vs (cellsOf a)) {Lf' : Value → AV → Prop} : RL h Lf' true vs (cellsOf a) := by
  cases a with
  | agg l => exact (frz_all r ha).thaw (fun _ _ _ x => x)
  | _ => exact (frz_all r (by simpa [cellsOf, nr1] using ha)).thaw (fun _ _ _ x => x)

theorem Mc.ct {f : FuncId} {e : Nat} {agg : AV} {args : List AV} {post : AV → AV → Prop} (hc : Mc P f e agg args post) (ha : args.all nr1 = true) (hg : nr1 agg = true) {id : Nat} (hid : sto[id]? = some (.arr e [agg])) :
    Ct P f (.ptr id 1 0 0 :: args) sto (fun r s => ∃ agg', post r agg' ∧ nr1 agg' = true ∧ s = sto.set id (.arr e [agg'])) := by
  refine ⟨hc.1, fun h ρ w vs m hv => ?_⟩
  cases hv with
  | @cons _ v0 _ vs _ r0 rs =>
    have hl := (inv_ptr r0).2
    simp only [LfC, hid] at hl
    obtain ⟨_, g, tot, h1, h2⟩ := hl.2 rfl
    have hown := m.own id _ hid
    rcases hown with ⟨hn, _⟩ | ⟨g', tot', cur, tt, i3, i4, i5, i6, i7, i8, i9, i10, i11⟩
    · simp at hn
    rw [h1] at i3
    simp only [Option.some.injEq, Prod.mk.injEq] at i3
    obtain ⟨rfl, rfl⟩ := i3
    let ρ0 : Own := fun i => if i = 0 then some (g, tot) else none
    have hρ0 : ∀ i b t, ρ0 i = some (b, t) → i = 0 ∧ b = g ∧ t = tot := by
      intro i b t hh
      simp only [ρ0] at hh
      split at hh
      · rename_i hi; simp at hh; exact ⟨hi, hh.1.symm, hh.2.symm⟩
      · simp at hh
    have m0 : Mine h ρ0 [.arr e [agg]] w := by
      refine ⟨m.mem, ?_, ?_, ?_, ?_⟩
      · intro i blk hb
        match i, hb with
        | 0, hb =>
          simp at hb; subst hb
          refine .inr ⟨g, tot, cur, tt, rfl, i4, i5, i6, i7, i8, i9, i10, ?_⟩
          simp only [flat, List.append_nil] at i11 ⊢
          exact (nr1_cells hg i11 (Lf' := Lf ρ0 [.arr e [agg]])).thaw (fun _ _ _ x => x)
        | i + 1, hb => simp at hb
      · intro i hi
        simp at hi
        simp [ρ0]; omega
      · intro i j b t t' hi hj
        rw [(hρ0 i b t hi).1, (hρ0 j b t' hj).1]
      · intro i b t hi o
        obtain ⟨_, rfl, _⟩ := hρ0 i b t hi
        exact m.disj id _ _ h1 o
    have hp0 : RV h (Lf ρ0 [.arr e [agg]]) false v0 (.ptr 0 1 0 0) := by
      refine .leaf ⟨(inv_ptr r0).1, ?_⟩
      simp only [LfC, List.getElem?_cons_zero]
      exact ⟨by simp, fun _ => ⟨by omega, g, tot, rfl, h2⟩⟩
    refine (hc.2 h ρ0 w (v0 :: vs) m0 (.cons hp0 ((nofrzL rs ha (Lf' := Lf ρ0 [.arr e [agg]])).thaw (fun _ _ _ x => x)))).mono ?_
    rintro en w' ⟨v, r, s', h', ρ', rfl, ⟨agg', junk, rfl, hp, hnr, hna⟩, m', l', rv⟩
    have hk1 := l'.keep (.slice (some ⟨g, 0 * e, none⟩) 1 (tot - 0)) (.sl 0 0 1 1) ⟨rfl, by simp [LfC, ρ0]⟩
    have hρ' : ρ' 0 = some (g, tot) := by
      have hk := hk1.2
      simp only [LfC, List.getElem?_cons_zero] at hk
      rcases hk.2 (by simp) with ⟨hh, _⟩ | ⟨g', t', e1, e2, _⟩
      · simp at hh
      · simp at e2
        rw [e1, e2.1, e2.2]
    have hset : ∀ v a, Lf ρ sto v a → Lf ρ (sto.set id (.arr e [agg'])) v a := fun v a lf => ⟨lf.1, LfC_set hid (fun _ _ => rfl) (Or.inl ⟨rfl, rfl, rfl⟩ : (_ ∧ _ ∧ _) ∨ _) lf.2⟩
    have hlt := (List.getElem?_eq_some_iff.1 hid).1
    refine ⟨v, r, _, h', ρ, rfl, ⟨agg', hp, hna, rfl⟩, ⟨m'.mem, ?_, ?_, m.inj, ?_⟩, ⟨l'.hle, ?_, hset, l'.os, l'.tape, l'.output, l'.size, ?_, fun i _ t x => .inl ⟨i, t, x⟩⟩, (nofrz2 rv hnr (Lf' := Lf0)).thaw (fun _ _ _ x => x)⟩
    · intro j blk hb
      by_cases hj : j = id
      · subst hj
        simp [hlt] at hb
        subst hb
        rcases m'.own 0 _ rfl with ⟨hn, _⟩ | ⟨g2, tot2, cur2, tt2, k3, k4, k5, k6, k7, k8, k9, k10, k11⟩
        · simp at hn
        rw [hρ'] at k3
        simp only [Option.some.injEq, Prod.mk.injEq] at k3
        obtain ⟨rfl, rfl⟩ := k3
        refine .inr ⟨g, tot, cur2, tt2, h1, k4, k5, k6, k7, k8, k9, k10, ?_⟩
        simp only [flat, List.append_nil] at k11 ⊢
        exact (nr1_cells hna k11 (Lf' := Lf0)).thaw (fun _ _ _ x => x)
      · rw [List.getElem?_set_ne (Ne.symm hj)] at hb
        refine (m.own j blk hb).mono l'.hle hset rfl (fun gj t hgj => l'.block gj (m.lt hgj) fun i t' hi => ?_)
        obtain ⟨_, rfl, _⟩ := hρ0 i gj t' hi
        exact hj (m.inj j id _ _ _ hgj h1)
    · intro i hi
      simp at hi
      exact m.out i hi
    · intro i gi t hi o
      by_cases hj : i = id
      · subst hj
        rw [h1] at hi
        simp only [Option.some.injEq, Prod.mk.injEq] at hi
        obtain ⟨rfl, rfl⟩ := hi
        exact m'.disj 0 _ _ hρ' o
      · have hd := m.disj i gi t hi o
        cases hq : h' gi o with
        | none => rfl
        | some u =>
          rcases l'.hnew gi o hd (by simp [hq]) with ⟨j, t', hj'⟩ | hs
          · obtain ⟨_, rfl, _⟩ := hρ0 j gi t' hj'
            exact (hj (m.inj i id _ _ _ hi h1)).elim
          · have := m.lt hi; omega
    · intro b o hb hb'
      rcases l'.hnew b o hb hb' with ⟨j, t', hj'⟩ | hs
      · obtain ⟨_, rfl, _⟩ := hρ0 j b t' hj'
        exact .inl ⟨id, _, h1⟩
      · exact .inr hs
    · intro k hk hno
      exact l'.block k hk fun i t hi => by
        obtain ⟨_, rfl, _⟩ := hρ0 i k t hi
        exact hno id _ h1

/-- such a call, in a walk -/
theorem mcall {c : Cx} {k : List It} {e : Env} {s : List Blk} {f : FuncId} {es : Nat} {agg : AV} {args : List AV} {d : Option Tmp} {all os : List Oper} {post : AV → AV → Prop} (hc : Mc c.P f es agg args post) (ha : args.all nr1 = true) (hg : nr1 agg = true) {id : Nat} (hid : s[id]? = some (.arr es [agg])) {N : Nat} (hN : c.fn.ntmps = N) (hd : dOk N d = true)
    (hk : ∀ r agg', post r agg' → AWp c (.ops all os :: k) (put e d r) (s.set id (.arr es [agg']))) : ACall c f (.ptr id 1 0 0 :: args) d all os k e s :=
  acall (hc.ct ha hg hid) hN hd fun r s' ⟨agg', hp, _, hs⟩ => by subst hs; exact hk r agg' hp
end
end Go.Av
