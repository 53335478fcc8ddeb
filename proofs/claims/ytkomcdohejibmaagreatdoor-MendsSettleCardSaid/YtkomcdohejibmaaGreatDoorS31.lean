/- Comparing deeds. Own work of this seat. -/
import Derived.Test.YtkomcdohejibmaaGreatDoorS30
import Derived.Test.YtkomcdohejibmaaGreatDoorS23
import Derived.Test.YtkomcdohejibmaaGreatDoorS19
set_option maxRecDepth 100000
set_option linter.unusedSimpArgs false
set_option linter.unusedVariables false
namespace Go.Proofs.YtkomcdohejibmaaGreatDoor
open Go Go.Av Go.RowKit

theorem eqSts_pc (a b : List St) (ha : a.length < 1000000) (hb : b.length < 1000000) : Pc Tryz.prog 56 [.fz 2 (a.map stA), .fz 2 (b.map stA)] (· = .bool (decide (a = b))) := by
  by_cases hl : a.length = b.length
  · have d0 : ((a.length : Int) != (b.length : Int)) = false := by simp [hl]
    refine pc_intro (ct_intro Tryz.func56 rfl Tryz.ntmps56 hB56 (by simp) fun h ρ w => goB (N := 26) Tryz.ntmps56 300 ?_)
    simp only [go_sem, d0, List.length_map]
    refine aloop (ι := Nat) (fun i => a.length - i) (fun i => [(13, .int .i64 i), (12, .int .i64 a.length), (1, .fz 2 (b.map stA)), (0, .fz 2 (a.map stA))]) (fun _ => []) (fun i => i ≤ a.length ∧ a.take i = b.take i) 0 (by simp) ?_ ?_
    · refine Shift.weak ?_
      simp only [wk, go_sem]
    · rintro i ⟨g1, g2⟩ J hJ
      by_cases gi : i < a.length
      · have di : decide ((i : Int) < (a.length : Int)) = true := by simp; omega
        have gb : i < b.length := by omega
        have h1 := stA_get a i gi
        have h2 := stA_get b i gb
        cases he : stB a[i] b[i] with
        | true =>
          have he2 := stB_iff.1 he
          have hfin := hJ (i + 1) ⟨by omega, by rw [List.take_succ_eq_append_getElem gi, List.take_succ_eq_append_getElem gb, g2, he2]⟩ (by omega)
          simp only [stB] at he
          refine goB (N := 26) Tryz.ntmps56 300 ?_
          simp only [go_sem, di]
          refine adraw [] mixed (by decide) (N := 26) Tryz.ntmps56 (by decide) 100 ?_
          simp only [go_sem, h1, h2, he, List.length_map]
          repeat refine And.intro (by first | omega | rfl | kernel_rfl | (simp; omega)) ?_
          refine goB (N := 26) Tryz.ntmps56 300 ?_
          simp only [go_sem]
          repeat refine And.intro (by first | omega | (simp; omega)) ?_
          rw [show (i : Int) + 1 = ((i + 1 : Nat) : Int) by omega]
          refine ainv hfin (Shift.weak ?_)
          simp only [wk, go_sem]
        | false =>
          have hab : ¬ a = b := by
            rintro rfl
            rw [stB_iff.2 rfl] at he
            cases he
          simp only [stB] at he
          refine goB (N := 26) Tryz.ntmps56 300 ?_
          simp only [go_sem, di]
          refine adraw [] mixed (by decide) (N := 26) Tryz.ntmps56 (by decide) 100 ?_
          simp only [go_sem, h1, h2, he, List.length_map]
          repeat refine And.intro (by first | omega | rfl | kernel_rfl | (simp; omega)) ?_
          refine goB (N := 26) Tryz.ntmps56 300 ?_
          simp only [go_sem]
          exact aret [4] rfl ⟨by simp [resV, Av.get, Av.put, hab], rfl⟩
      · have di : decide ((i : Int) < (a.length : Int)) = false := by simp; omega
        have : a = b := by
          rw [List.take_of_length_le (by omega), List.take_of_length_le (by omega)] at g2
          exact g2
        subst this
        refine goB (N := 26) Tryz.ntmps56 300 ?_
        simp only [go_sem, di]
        exact aret [4] rfl ⟨by simp [resV, Av.get], rfl⟩
  · have d0 : ((a.length : Int) != (b.length : Int)) = true := by simp; omega
    have hab : ¬ a = b := by
      rintro rfl
      exact hl rfl
    refine pc_intro (ct_intro Tryz.func56 rfl Tryz.ntmps56 hB56 (by simp) fun h ρ w => goB (N := 26) Tryz.ntmps56 300 ?_)
    simp only [go_sem, d0, List.length_map]
    exact aret [4] rfl ⟨by simp [resV, Av.get, Av.put, hab], rfl⟩

def sameP (a b : De) : Bool := stB a.st b.st && (decide (a.seen = b.seen) && (a.kind == b.kind && (a.paper == b.paper && (a.text == b.text && a.person == b.person))))
theorem sameP_iff {a b : De} : sameP a b = true ↔ a = b := by
  obtain ⟨s1, n1, k1, p1, t1, q1⟩ := a
  obtain ⟨s2, n2, k2, p2, t2, q2⟩ := b
  simp [sameP, stB_iff]
set_option maxHeartbeats 4000000 in
theorem sameDeed_pc (a b : De) (ha : a.seen.length < 1000000) (hb : b.seen.length < 1000000) : Pc Tryz.prog 49 [deA a, deA b] (· = .bool (sameP a b)) := by
  have hs := eqSts_pc a.seen b.seen ha hb
  simp only [deA]
  refine pc_intro (ct_intro Tryz.func49 rfl Tryz.ntmps49 hB49 (by simp) fun h ρ w => goB (N := 45) Tryz.ntmps49 300 ?_)
  cases h1 : stB a.st b.st with
  | false =>
    have h1' := h1
    simp only [stB] at h1'
    simp only [go_sem, h1']
    repeat refine And.intro (by first | rfl | kernel_rfl) ?_
    exact aret [4] rfl ⟨by simp [resV, Av.get, Av.put, sameP, h1], rfl⟩
  | true =>
    have h1' := h1
    simp only [stB] at h1'
    simp only [go_sem, h1']
    repeat refine And.intro (by first | rfl | kernel_rfl) ?_
    refine pcall1 (hs) rfl (N := 45) Tryz.ntmps49 rfl (goB (N := 45) Tryz.ntmps49 300 ?_)
    cases h2 : decide (a.seen = b.seen) with
    | false =>
      simp only [go_sem]
      exact aret [4] rfl ⟨by simp [resV, Av.get, Av.put, sameP, h1, h2], rfl⟩
    | true =>
      cases h3 : a.kind == b.kind with
      | false =>
        simp only [go_sem, h3]
        exact aret [4] rfl ⟨by simp [resV, Av.get, Av.put, sameP, h1, h2, h3], rfl⟩
      | true =>
        cases h4 : a.paper == b.paper with
        | false =>
          simp only [go_sem, h3, h4]
          exact aret [4] rfl ⟨by simp [resV, Av.get, Av.put, sameP, h1, h2, h3, h4], rfl⟩
        | true =>
          cases h5 : a.text == b.text with
          | false =>
            simp only [go_sem, h3, h4, h5]
            exact aret [4] rfl ⟨by simp [resV, Av.get, Av.put, sameP, h1, h2, h3, h4, h5], rfl⟩
          | true =>
            cases h6 : a.person == b.person with
            | false =>
              simp only [go_sem, h3, h4, h5, h6]
              exact aret [4] rfl ⟨by simp [resV, Av.get, Av.put, sameP, h1, h2, h3, h4, h5, h6], rfl⟩
            | true =>
              simp only [go_sem, h3, h4, h5, h6]
              exact aret [4] rfl ⟨by simp [resV, Av.get, Av.put, sameP, h1, h2, h3, h4, h5, h6], rfl⟩
theorem joinFn_pc (x y : De) : Pc Tryz.prog 77 [deA x, deA y] (· = .int .i64 (stCmp x.st y.st)) := by
  have hs := stampOrder_pc x.st y.st
  simp only [deA, stA] at hs ⊢
  refine pc_intro (ct_intro Tryz.func77 rfl Tryz.ntmps77 hB77 (by simp) fun h ρ w => goB (N := 10) Tryz.ntmps77 300 ?_)
  simp only [go_sem]
  refine pcall1 (hs) rfl (N := 10) Tryz.ntmps77 rfl (goB (N := 10) Tryz.ntmps77 300 ?_)
  simp only [go_sem]
  exact aret [4] rfl ⟨rfl, rfl⟩
end Go.Proofs.YtkomcdohejibmaaGreatDoor
/- Statements whose order is open, in which an address may be found before or after a store. Own work of this seat. -/
set_option linter.unusedSimpArgs false
set_option linter.unusedVariables false
set_option linter.unusedSectionVars false
namespace Go.Av
open Go Go.RowKit
variable [Tr]

/-- the same sizes -/
def likeB : Blk → Blk → Prop
  | .arr e l, .arr e' l' => e = e' ∧ l.length = l'.length
  | .arr _ _, _ => False
  | _, .arr _ _ => False
  | _, _ => True
def Like (s s' : List Blk) : Prop := ∀ id, likeB (s.getD id .dead) (s'.getD id .dead)
theorem likeB_refl : ∀ b, likeB b b
  | .arr _ _ => ⟨rfl, rfl⟩
  | .mp _ => trivial
  | .it .. => trivial
  | .dead => trivial
theorem likeB_symm : ∀ {a b}, likeB a b → likeB b a := by
  intro a b h
  cases a <;> cases b <;> first | exact ⟨h.1.symm, h.2.symm⟩ | exact trivial | exact h.elim
theorem Like.symm {s s' : List Blk} (h : Like s s') : Like s' s := fun id => likeB_symm (h id)

/-- operations that look at sizes alone -/
def lenOp : Op → Bool
  | .indexAddr .. | .fieldAddr .. => true
  | .binOp .add .. | .binOp .sub .. => true
  | _ => false
def isSto : Op → Bool
  | .store .. => true
  | _ => false
theorem lenOp_calm {op : Op} (h : lenOp op = true) : calm op = true := by
  cases op <;> first | rfl | (exfalso; revert h; simp [lenOp]; done)

theorem xptrAddIf_like {p : Prop} {s s' : List Blk} (h : Like s s') (x : AV) (k : Nat) : xptrAddIf p s x k = xptrAddIf p s' x k := by
  unfold xptrAddIf
  split <;> try rfl
  rename_i id n j off
  have := h id
  cases h1 : s.getD id .dead <;> cases h2 : s'.getD id .dead <;> rw [h1, h2] at this <;> first | rfl | exact this.elim | skip
  obtain ⟨rfl, e⟩ := this
  simp only [e]
theorem xop_like {P : Program} {e : Env} {s s' : List Blk} (h : Like s s') {op : Op} (ho : lenOp op = true) : xop false true P e s op = xop false true P e s' op := by
  cases op <;> try (exfalso; revert ho; simp [lenOp]; done)
  · rename_i b t x y t2
    cases b <;> try (exfalso; revert ho; simp [lenOp]; done)
    all_goals
      simp only [xop, xbin3]
      split
      · rfl
      · unfold xbin2
        split <;> rfl
  · rename_i t x f
    simp only [xop, xfieldAddr]
    split
    · exact xptrAddIf_like h _ _
    · rfl
  · rename_i t x i
    simp only [xop]
    generalize ev e x = xv
    generalize ev e i = iv
    generalize P.underlying t = td
    unfold xindexAddr
    split
    · exact xptrAddIf_like h _ _
    · cases xv <;> try rfl
      rename_i id off len cap
      have := h id
      simp only
      cases h1 : s.getD id .dead <;> cases h2 : s'.getD id .dead <;> rw [h1, h2] at this <;> first | rfl | exact this.elim | skip
      obtain ⟨rfl, he⟩ := this
      simp only [he]
    · rfl
theorem like_set {s : List Blk} {id e : Nat} {l l' : List AV} (h : s.getD id .dead = .arr e l) (hl : l.length = l'.length) : Like s (s.set id (.arr e l')) := by
  intro k
  by_cases hk : k = id
  · subst hk
    have : k < s.length := by
      rcases Nat.lt_or_ge k s.length with h3 | h3
      · exact h3
      · simp [List.getD, List.getElem?_eq_none h3] at h
    have e2 : (s.set k (.arr e l')).getD k .dead = .arr e l' := by simp [List.getD, this]
    rw [h, e2]
    exact ⟨rfl, hl⟩
  · have e2 : (s.set id (.arr e l')).getD k .dead = s.getD k .dead := by
      simp only [List.getD, List.getElem?_set_ne (Ne.symm hk)]
    rw [e2]
    exact likeB_refl _
theorem store_like {c : Cx} {ops : Array Oper} {s s1 : List Blk} {o : Oper} {cv v : AV} {e : Env} (ho : isSto o.op = true) (h : Does c ops s o cv e v s1) : Like s s1 := by
  have hd : DoesOp c s o cv e v s1 → Like s s1 := by
    intro h
    unfold DoesOp at h
    cases hop : o.op <;> rw [hop] at ho h <;> try (exfalso; revert ho; simp [isSto]; done)
    rename_i t x u
    simp only [xop] at h
    generalize ev e x = xv at h
    generalize cellsOf (ev e u) = vs at h
    have hx : ∀ q, xstore (tsize c.P t) s xv (ev e u) = q → (∃ p w s3, q = .sto p w s3 ∧ Like s s3) ∨ q = .stuck := by
      intro q hq
      subst hq
      cases xv <;> try exact .inr rfl
      rename_i id n j off
      simp only [xstore]
      cases hb : s.getD id .dead with
      | arr e' l => exact .inl ⟨_, _, _, rfl, like_set hb (by simp)⟩
      | mp es => exact .inr rfl
      | it a b c => exact .inr rfl
      | dead => exact .inr rfl
    rcases hx _ rfl with ⟨p, w, s3, e1, e2⟩ | e1
    · rw [e1] at h
      simp only at h
      rw [h.2.2.2]
      exact e2
    · rw [e1] at h
      exact h.elim
  unfold Does at h
  split at h
  · exact hd h
  · split at h
    · rcases h with ⟨_, h⟩ | ⟨_, _, rfl⟩
      · exact hd h
      · exact fun _ => likeB_refl _
    · exact h.elim
theorem DoesOp.like {c : Cx} {s s' s2 : List Blk} {o : Oper} {cv v : AV} {e : Env} (hc : lenOp o.op = true) (hl : Like s s2) (h : DoesOp c s o cv e v s') : DoesOp c s2 o cv e v s2 := by
  have hcc := lenOp_calm hc
  unfold DoesOp at h ⊢
  rw [xop_like hl hc] at h
  split at h <;> rename_i hq
  · exact ⟨h.1, rfl⟩
  · exact ⟨h.1, h.2.1, rfl⟩
  · rw [hcc] at h; cases h.1
  · exact ⟨h.1, rfl⟩
  · exact ⟨h.1, h.2.1, h.2.2.1, rfl⟩
  · exact h.elim
theorem Does.like {c : Cx} {ops : Array Oper} {s s' s2 : List Blk} {o : Oper} {cv v : AV} {e : Env} (hc : lenOp o.op = true) (hl : Like s s2) (h : Does c ops s o cv e v s') : Does c ops s2 o cv e v s2 := by
  unfold Does at h ⊢
  split at h
  · exact h.like hc hl
  · split at h
    · rcases h with ⟨h1, h⟩ | ⟨h1, h2, h⟩
      · exact .inl ⟨h1, h.like hc hl⟩
      · exact .inr ⟨h1, h2, rfl⟩
    · exact h.elim

/-- may i pass the earlier j? -/
def swp (x y : Oper) : Bool := lenOp x.op && isSto y.op || isSto x.op && lenOp y.op
def okSw (ops : List Oper) (j i : Nat) : Bool := match ops[j]?, ops[i]? with
  | some oj, some oi => oj.apart ops.toArray oi && (together oj oi || swp oj oi)
  | _, _ => false

section
variable {cx : Cx} {ops : Array Oper} {s : List Blk} {K : Env → List Blk → Prop}
theorem Chain.swapS {opl : List Oper} (hops : ops = opl.toArray) (hK : ∀ e e' s, Eqv e e' → K e s → K e' s) {i j : Nat} {r : List Nat} (hok : okSw opl j i = true) {e : Env} {s : List Blk} (c : Chain cx ops K (j :: i :: r) e s) :
    Chain cx ops K (i :: j :: r) e s := by
  unfold okSw at hok
  split at hok
  rotate_left
  · cases hok
  rename_i oj oi hj' hi'
  have hj : ops[j]? = some oj := by rw [hops]; simpa using hj'
  have hi : ops[i]? = some oi := by rw [hops]; simpa using hi'
  simp only [Bool.and_eq_true, Bool.or_eq_true] at hok
  obtain ⟨ha, hok⟩ := hok
  rw [← hops] at ha
  rcases hok with hok | hok
  · exact Chain.swap hK hj hi ha hok c
  obtain ⟨a1, a2, a3⟩ := Oper.apart_spec ha
  simp only [Chain, hj, hi] at c ⊢
  obtain ⟨cv, v, s1, h1, cu, u, s2, h2, h3⟩ := c
  have h2' : Does cx ops s1 oi cu e u s2 := h2.agree fun t ht => by
    rw [get_put, if_neg]; intro h; exact a1 t h ht
  have h1' : ∀ {z z'}, Does cx ops z oj cv e v z' → Does cx ops z oj cv (put e oi.dst u) v z' := fun hd => hd.agree fun t ht => by
    rw [get_put, if_neg]; intro h; exact a3 t h ht
  have h3' := Chain.congr hK (put_swap a2) h3
  simp only [swp, Bool.or_eq_true, Bool.and_eq_true] at hok
  rcases hok with ⟨c1, c2⟩ | ⟨c1, c2⟩
  · have e1 := h1.calm (lenOp_calm c1)
    subst e1
    exact ⟨cu, u, _, h2', cv, v, _, h1' (h1.like c1 (store_like c2 h2')), h3'⟩
  · have e2 := h2.calm (lenOp_calm c2)
    subst e2
    exact ⟨cu, u, _, h2'.like c2 (store_like c1 h1).symm, cv, v, _, h1' h1, h3'⟩
theorem Chain.frontS {opl : List Oper} (hops : ops = opl.toArray) (hK : ∀ e e' s, Eqv e e' → K e s → K e' s) {i : Nat} {r : List Nat} : ∀ {l : List Nat} {e : Env} {s : List Blk}, (∀ j ∈ l, okSw opl j i = true) →
    Chain cx ops K (l ++ i :: r) e s → Chain cx ops K (i :: (l ++ r)) e s
  | [], _, _, _, c => c
  | j :: l, e, s, h, c => by
    refine Chain.swapS hops hK (h j (by simp)) ?_
    simp only [List.cons_append, Chain] at c ⊢
    split at c
    · rename_i o ho
      obtain ⟨cv, v, s', h1, h2⟩ := c
      exact ⟨cv, v, s', h1, Chain.frontS hops hK (fun k hk => h k (by simp [hk])) h2⟩
    · exact c.elim
end

section
variable {c : Cx} {k : List It} {e : Env} {s : List Blk}
/-- A STATEMENT WHOSE ORDER IS OPEN, addresses and stores among it: 'cs' are the results of its calls, in the text's order. -/
theorem adrawS (cs : List AV) {id : Nat} {ops : List Oper} (hm : c.P.follows .mixedOrders = true) (hok : drawOkG (okSw ops) ops = true) {N : Nat} (hN : c.fn.ntmps = N) (hdst : ops.all (fun o => dOk N o.dst) = true) (n : Nat)
    (h : dx c ops k n ops cs e s) : AWp c (.code (.region id ops.toArray true) :: k) e s := by
  intro a w hsim
  have hch := chain_of_dx (m := 0) (by intro j; simp) h
  rw [← List.range_eq_range'] at hch
  refine wp_region_any hm ?_
  have hsim' : Sim c e s a { w with drawn := w.drawn + 1 } := by
    obtain ⟨hh, ρ, hmm, hl, he, hdf, hsz, hX⟩ := hsim
    have sm : Same w { w with drawn := w.drawn + 1 } := Same.drew w
    exact ⟨hh, ρ, hmm.same sm, hl.trans (Later.same sm), he, hdf, hsz, c.hx.later hmm (Later.same sm) hX⟩
  have hd : ∀ o ∈ ops, dOk c.fn.ntmps o.dst = true := fun o ho => by rw [hN]; exact (List.all_eq_true.1 hdst) o ho
  refine any_of_gen (okp := okSw ops) (Chain c ops.toArray (fun e s => AWp c k e s)) hok (fun e s x => x) (fun l i r e s hj x => Chain.frontS rfl AWp.K hj x)
    (fun i o r e s a w Kc ho x hs hK => ?_)
    ops.length (Array.replicate ops.length false) (List.range ops.length) e s a _ (by simp) ?_ (by simp) ?_ hch hsim'
  · have ho' : ops.toArray[i]? = some o := by simpa using ho
    simp only [Chain, ho'] at x
    obtain ⟨cv, v, s', h1, h2⟩ := x
    exact does_wp hs (hd o (List.mem_of_getElem? ho)) h1 fun a w hs' => hK _ _ a w h2 hs'
  · symm
    rw [List.filter_eq_self]
    intro i hi
    simp at hi
    simp [hi]
  · intro i hi j hj
    exfalso
    by_cases h1 : i < ops.length
    · simp [h1] at hi
    · unfold waits at hj
      have : ops[i]? = none := by simp; omega
      simp [this] at hj
end
end Go.Av
/- Parts of SortStableFunc at deeds: only that what is there is put in another order. Own work of this seat. -/
set_option maxRecDepth 100000
set_option linter.unusedSimpArgs false
set_option linter.unusedVariables false
namespace Go.Proofs.YtkomcdohejibmaaGreatDoor
open Go Go.Av Go.RowKit

theorem set_deA (l : List De) (i : Nat) (x : De) : (l.map deA).set i (.agg [.str x.st.dept, .int .i64 x.st.no, .fz 2 (x.seen.map stA), .int .i64 x.kind, .str x.paper, .str x.text, .str x.person]) = (l.set i x).map deA := by
  rw [List.map_set]; rfl
/-- what a sort leaves -/
def SortR (l : List De) (r : AV) (s : List Blk) : Prop := r = .tup [] ∧ ∃ l' : List De, s = [.arr 7 (l'.map deA)] ∧ l'.Perm l
theorem swap_perm {q l : List De} (hq : q.Perm l) {i j : Nat} (h1 : i < q.length) (h2 : j < q.length) : ((q.set i q[j]).set j q[i]).Perm l := (List.set_set_perm h1 h2).trans hq

theorem swapRange_ct (l : List De) (a b n : Nat) (f : FuncId) (h1 : a + n ≤ l.length) (h2 : b + n ≤ l.length) (hl : l.length < 1000000) :
    Ct Tryz.prog 229 [.sl 0 0 l.length l.length, .int .i64 a, .int .i64 b, .int .i64 n, .fn (.func f) []] [.arr 7 (l.map deA)] (SortR l) := by
  refine ct_intro Tryz.func229 rfl Tryz.ntmps229 hB229 (by simp) fun h ρ w => goB (N := 38) Tryz.ntmps229 300 ?_
  simp only [go_sem]
  refine aloop (ι := Nat × List De) (fun y => n - y.1) (fun y => [(10, .int .i64 y.1), (3, .int .i64 n), (2, .int .i64 b), (1, .int .i64 a), (0, .sl 0 0 l.length l.length)]) (fun y => [.arr 7 (y.2.map deA)])
    (fun y => y.1 ≤ n ∧ y.2.Perm l) (0, l) ⟨by simp, .refl _⟩ ?_ ?_
  · refine Shift.weakS ?_ rfl
    simp only [wk, go_sem]
  · rintro ⟨i, q⟩ ⟨g1, g2⟩ J hJ
    simp only at g1 g2 hJ ⊢
    have hq := g2.length_eq
    by_cases gi : i < n
    · have di : decide ((i : Int) < (n : Int)) = true := by simp; omega
      have e1 : ((a : Int) + (i : Int)).toNat = a + i := by omega
      have e2 : ((b : Int) + (i : Int)).toNat = b + i := by omega
      have p1 := deA_get q (a + i) (by omega)
      have p2 := deA_get q (b + i) (by omega)
      have p3 := deA_get (q.set (a + i) (q[b + i]'(by omega))) (b + i) (by simp; omega)
      have s1 := set_deA q (a + i) (q[b + i]'(by omega))
      have s2 := set_deA (q.set (a + i) (q[b + i]'(by omega))) (b + i) (q[a + i]'(by omega))
      have hfin := hJ (i + 1, _) ⟨by simp only; omega, swap_perm g2 (i := a + i) (j := b + i) (by omega) (by omega)⟩ (by simp only; omega)
      refine goB (N := 38) Tryz.ntmps229 300 ?_
      simp only [go_sem, di]
      refine adrawS [] mixed (by decide) (N := 38) Tryz.ntmps229 (by decide) 100 ?_
      simp only [go_sem, e1, e2, p1, p2, p3, s1, s2, List.length_map, List.length_set]
      repeat refine And.intro (by first | omega | rfl | (simp; done) | (simp; omega)) ?_
      refine goB (N := 38) Tryz.ntmps229 300 ?_
      simp only [go_sem]
      repeat refine And.intro (by first | omega | rfl | (simp; done) | (simp; omega)) ?_
      rw [show (i : Int) + 1 = ((i + 1 : Nat) : Int) by omega]
      refine ainv hfin (Shift.weakS ?_ rfl)
      simp only [wk, go_sem]
    · have di : decide ((i : Int) < (n : Int)) = false := by simp; omega
      refine goB (N := 38) Tryz.ntmps229 300 ?_
      simp only [go_sem, di]
      exact aret [] rfl ⟨rfl, q, rfl, g2⟩

theorem rotate_ct (l : List De) (a m b : Nat) (f : FuncId) (h1 : a < m) (h2 : m < b) (h3 : b ≤ l.length) (hl : l.length < 1000000) :
    Ct Tryz.prog 208 [.sl 0 0 l.length l.length, .int .i64 a, .int .i64 m, .int .i64 b, .fn (.func f) []] [.arr 7 (l.map deA)] (SortR l) := by
  refine ct_intro Tryz.func208 rfl Tryz.ntmps208 hB208 (by simp) fun h ρ w => goB (N := 58) Tryz.ntmps208 300 ?_
  simp only [go_sem]
  repeat refine And.intro (by omega) ?_
  rw [show (m : Int) - (a : Int) = ((m - a : Nat) : Int) by omega, show (b : Int) - (m : Int) = ((b - m : Nat) : Int) by omega]
  refine aloop (ι := Nat × Nat × List De) (fun y => y.1 + y.2.1) (fun y => [(11, .int .i64 y.2.1), (10, .int .i64 y.1), (4, .fn (.func f) []), (2, .int .i64 m), (0, .sl 0 0 l.length l.length)]) (fun y => [.arr 7 (y.2.2.map deA)])
    (fun y => 0 < y.1 ∧ 0 < y.2.1 ∧ y.1 ≤ m ∧ m + y.2.1 ≤ l.length ∧ y.2.2.Perm l) (m - a, b - m, l) ⟨by simp only; omega, by simp only; omega, by simp only; omega, by simp only; omega, .refl _⟩ ?_ ?_
  · refine Shift.weakS ?_ rfl
    simp only [wk, go_sem]
  · rintro ⟨i, j, q⟩ ⟨g1, g2, g3, g4, g5⟩ J hJ
    simp only at g1 g2 g3 g4 g5 hJ ⊢
    have hq := g5.length_eq
    by_cases hij : i = j
    · have dj : ((i : Int) != (j : Int)) = false := by simp; omega
      have hc := swapRange_ct q (m - i) m i f (by omega) (by omega) (by omega)
      rw [show ((m - i : Nat) : Int) = (m : Int) - (i : Int) by omega, hq] at hc
      refine goB (N := 58) Tryz.ntmps208 300 ?_
      simp only [go_sem, dj]
      repeat refine And.intro (by omega) ?_
      refine acall (hc) (N := 58) Tryz.ntmps208 rfl ?_
      rintro _ _ ⟨rfl, q', rfl, hp⟩
      refine goB (N := 58) Tryz.ntmps208 300 ?_
      simp only [go_sem]
      exact aret [] rfl ⟨rfl, q', rfl, hp.trans g5⟩
    · have dj : ((i : Int) != (j : Int)) = true := by simp; omega
      by_cases hlt : j < i
      · have dg : decide ((i : Int) > (j : Int)) = true := by simp; omega
        have hc := swapRange_ct q (m - i) m j f (by omega) (by omega) (by omega)
        rw [show ((m - i : Nat) : Int) = (m : Int) - (i : Int) by omega, hq] at hc
        refine goB (N := 58) Tryz.ntmps208 300 ?_
        simp only [go_sem, dj, dg]
        repeat refine And.intro (by omega) ?_
        refine acall (hc) (N := 58) Tryz.ntmps208 rfl ?_
        rintro _ _ ⟨rfl, q', rfl, hp⟩
        have hfin := hJ (i - j, j, q') ⟨by simp only; omega, g2, by simp only; omega, by simp only; omega, hp.trans g5⟩ (by simp only; omega)
        refine goB (N := 58) Tryz.ntmps208 300 ?_
        simp only [go_sem]
        repeat refine And.intro (by omega) ?_
        rw [show (i : Int) - (j : Int) = ((i - j : Nat) : Int) by omega]
        refine ainv hfin (Shift.weakS ?_ rfl)
        simp only [wk, go_sem]
      · have dg : decide ((i : Int) > (j : Int)) = false := by simp; omega
        have hc := swapRange_ct q (m - i) (m + j - i) i f (by omega) (by omega) (by omega)
        rw [show ((m - i : Nat) : Int) = (m : Int) - (i : Int) by omega, show ((m + j - i : Nat) : Int) = (m : Int) + (j : Int) - (i : Int) by omega, hq] at hc
        refine goB (N := 58) Tryz.ntmps208 300 ?_
        simp only [go_sem, dj, dg]
        repeat refine And.intro (by omega) ?_
        refine acall (hc) (N := 58) Tryz.ntmps208 rfl ?_
        rintro _ _ ⟨rfl, q', rfl, hp⟩
        have hfin := hJ (i, j - i, q') ⟨g1, by simp only; omega, g3, by simp only; omega, hp.trans g5⟩ (by simp only; omega)
        refine goB (N := 58) Tryz.ntmps208 300 ?_
        simp only [go_sem]
        repeat refine And.intro (by omega) ?_
        rw [show (j : Int) - (i : Int) = ((j - i : Nat) : Int) by omega]
        refine ainv hfin (Shift.weakS ?_ rfl)
        simp only [wk, go_sem]

theorem insertionSort_ct (l : List De) (a b : Nat) (h2 : a ≤ b) (h3 : b ≤ l.length) (hl : l.length < 1000000) :
    Ct Tryz.prog 142 [.sl 0 0 l.length l.length, .int .i64 a, .int .i64 b, .fn (.func 77) []] [.arr 7 (l.map deA)] (SortR l) := by
  refine ct_intro Tryz.func142 rfl Tryz.ntmps142 hB142 (by simp) fun h ρ w => goB (N := 53) Tryz.ntmps142 300 ?_
  simp only [go_sem]
  repeat refine And.intro (by omega) ?_
  rw [show (a : Int) + 1 = ((a + 1 : Nat) : Int) by omega]
  refine aloop (ι := Nat × List De) (fun y => b + 1 - y.1) (fun y => [(8, .int .i64 y.1), (3, .fn (.func 77) []), (2, .int .i64 b), (1, .int .i64 a), (0, .sl 0 0 l.length l.length)]) (fun y => [.arr 7 (y.2.map deA)])
    (fun y => a + 1 ≤ y.1 ∧ y.2.Perm l) (a + 1, l) ⟨by simp, .refl _⟩ ?_ ?_
  · refine Shift.weakS ?_ rfl
    simp only [wk, go_sem]
  · rintro ⟨i, q⟩ ⟨g1, g2⟩ J hJ
    simp only at g1 g2 hJ ⊢
    by_cases gi : i < b
    · have di : decide ((i : Int) < (b : Int)) = true := by simp; omega
      refine goB (N := 53) Tryz.ntmps142 300 ?_
      simp only [go_sem, di]
      refine aloop (ι := Nat × List De) (fun y => y.1) (fun y => [(9, .int .i64 y.1), (8, .int .i64 i), (3, .fn (.func 77) []), (2, .int .i64 b), (1, .int .i64 a), (0, .sl 0 0 l.length l.length)]) (fun y => [.arr 7 (y.2.map deA)])
        (fun y => a ≤ y.1 ∧ y.1 ≤ i ∧ y.2.Perm l) (i, q) ⟨by simp only; omega, by simp, g2⟩ ?_ ?_
      · refine Shift.weakS ?_ rfl
        simp only [wk, go_sem]
      · rintro ⟨j, p⟩ ⟨k1, k2, k3⟩ K hK
        simp only at k1 k2 k3 hK ⊢
        have hq := k3.length_eq
        by_cases hja : a < j
        · have dj : decide ((j : Int) > (a : Int)) = true := by simp; omega
          have e1 : ((j : Int) - 1).toNat = j - 1 := by omega
          have p1 := deA_get p j (by omega)
          have p2 := deA_get p (j - 1) (by omega)
          have hc := joinFn_pc (p[j]'(by omega)) (p[j - 1]'(by omega))
          simp only [deA] at hc
          refine goB (N := 53) Tryz.ntmps142 300 ?_
          simp only [go_sem]
          refine adraw [.int .i64 (stCmp (p[j]'(by omega)).st (p[j - 1]'(by omega)).st)] mixed (by decide) (N := 53) Tryz.ntmps142 (by decide) 100 ?_
          cases dc : decide (stCmp (p[j]'(by omega)).st (p[j - 1]'(by omega)).st < 0) with
          | true =>
            have p3 := deA_get (p.set j (p[j - 1]'(by omega))) (j - 1) (by simp; omega)
            have s1 := set_deA p j (p[j - 1]'(by omega))
            have s2 := set_deA (p.set j (p[j - 1]'(by omega))) (j - 1) (p[j]'(by omega))
            have hfin := hK (j - 1, _) ⟨by simp only; omega, by simp only; omega, swap_perm k3 (i := j) (j := j - 1) (by omega) (by omega)⟩ (by simp only; omega)
            simp only [go_sem, dj, e1, p1, p2, dc, List.length_map]
            repeat refine And.intro (by first | exact hc.at | omega | rfl | (simp; done) | (simp; omega)) ?_
            refine goB (N := 53) Tryz.ntmps142 300 ?_
            simp only [go_sem]
            refine adrawS [] mixed (by decide) (N := 53) Tryz.ntmps142 (by decide) 100 ?_
            simp only [go_sem, e1, p1, p2, p3, s1, s2, List.length_map, List.length_set]
            repeat refine And.intro (by first | omega | rfl | (simp; done) | (simp; omega)) ?_
            refine goB (N := 53) Tryz.ntmps142 300 ?_
            simp only [go_sem]
            repeat refine And.intro (by first | omega | rfl | (simp; done) | (simp; omega)) ?_
            rw [show (j : Int) - 1 = ((j - 1 : Nat) : Int) by omega]
            refine ainv hfin (Shift.weakS ?_ rfl)
            simp only [wk, go_sem]
          | false =>
            have hfin := hJ (i + 1, p) ⟨by simp only; omega, k3⟩ (by simp only; omega)
            simp only [go_sem, dj, e1, p1, p2, dc, List.length_map]
            repeat refine And.intro (by first | exact hc.at | omega | rfl | (simp; done) | (simp; omega)) ?_
            refine goB (N := 53) Tryz.ntmps142 300 ?_
            simp only [go_sem]
            repeat refine And.intro (by first | omega | rfl | (simp; done) | (simp; omega)) ?_
            rw [show (i : Int) + 1 = ((i + 1 : Nat) : Int) by omega]
            refine ainv hfin (Shift.weakS ?_ rfl)
            simp only [wk, go_sem]
        · have dj : decide ((j : Int) > (a : Int)) = false := by simp; omega
          have hfin := hJ (i + 1, p) ⟨by simp only; omega, k3⟩ (by simp only; omega)
          refine goB (N := 53) Tryz.ntmps142 300 ?_
          simp only [go_sem]
          refine adraw [.any] mixed (by decide) (N := 53) Tryz.ntmps142 (by decide) 100 ?_
          simp only [go_sem, dj]
          repeat refine And.intro (by first | omega | rfl | (simp; done) | (simp; omega)) ?_
          refine goB (N := 53) Tryz.ntmps142 300 ?_
          simp only [go_sem]
          repeat refine And.intro (by first | omega | rfl | (simp; done) | (simp; omega)) ?_
          rw [show (i : Int) + 1 = ((i + 1 : Nat) : Int) by omega]
          refine ainv hfin (Shift.weakS ?_ rfl)
          simp only [wk, go_sem]
    · have di : decide ((i : Int) < (b : Int)) = false := by simp; omega
      refine goB (N := 53) Tryz.ntmps142 300 ?_
      simp only [go_sem, di]
      exact aret [] rfl ⟨rfl, q, rfl, g2⟩
end Go.Proofs.YtkomcdohejibmaaGreatDoor
