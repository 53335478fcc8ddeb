/- Statements whose order is open, in which an append may pass readers of other blocks. Own work of this seat. -/
import Derived.Test.YtkomcdohejibmaaGreatDoorY19
import Derived.Test.YtkomcdohejibmaaGreatDoorY33
import Derived.Test.YtkomcdohejibmaaGreatDoorY21
import Derived.Test.YtkomcdohejibmaaGreatDoorY22
import Derived.Test.YtkomcdohejibmaaGreatDoorY31
import Derived.Test.YtkomcdohejibmaaGreatDoorY32
set_option linter.unusedSimpArgs false
set_option linter.unusedVariables false
set_option linter.unusedSectionVars false
namespace Go.Av
open Go Go.RowKit
variable [Tr]

def isApp : Op → Bool
  | .call c => match c.callee with
    | .builtin .append => true
    | _ => false
  | _ => false
/-- the append is written into a new block, or into this one -/
def appOk (id : Nat) (e : Env) : Op → Bool
  | .call c => match c.args.toList with
    | x :: _ => match ev e x with
      | .sl i _ _ _ => i == id
      | _ => true
    | [] => true
  | _ => true
def cka (id : Nat) (i : Nat) (e : Env) (s : List Blk) (o : Oper) : Prop :=
  (bif isApp o.op then appOk id e o.op = true else True) ∧ (bif reader o.op && !blind o.op then opOk s.length id e o.op = true else True)

theorem xapp_sto {P : Program} {sto s3 : List Blk} {dst src w : AV} {tx td : Option TypeDesc} {p : Prop} (h : xapp P sto dst src tx td = .sto p w s3) :
    (∃ b, s3 = sto ++ [b]) ∨ ∃ i o l c b, dst = .sl i o l c ∧ s3 = sto.set i b := by
  have hB : ∀ {id off len cap sz bytes z L q b}, xappB sto id off len cap sz bytes z L q b = .sto p w s3 → ∃ b', s3 = sto.set id b' := by
    intro id off len cap sz bytes z L q b h
    unfold xappB at h
    split at h
    · cases hc : (len == cap) <;> rw [hc] at h <;> simp only [cond_true, cond_false, Res.sto.injEq] at h <;> exact ⟨_, h.2.2.symm⟩
    · cases h
  unfold xapp at h
  split at h
  · cases h1 : notInt tx <;> rw [h1] at h <;> simp only [cond_true, cond_false] at h
    · cases h2 : isI tx <;> rw [h2] at h <;> simp only [cond_true, cond_false] at h
      · cases h
      · unfold xappZ at h
        split at h
        · simp only [Res.sto.injEq] at h
          exact .inl ⟨_, h.2.2.symm⟩
        · cases h
    · unfold xappS at h
      split at h
      · unfold xappD at h
        split at h
        · simp only [Res.sto.injEq] at h
          exact .inl ⟨_, h.2.2.symm⟩
        · obtain ⟨b', hb⟩ := hB h
          exact .inr ⟨_, _, _, _, b', rfl, hb⟩
        · cases h
      · cases h
  · cases h
theorem Agr.refl {n id : Nat} {s : List Blk} : Agr n id s s := fun _ _ _ => rfl
theorem app_agr {c : Cx} {ops : Array Oper} {s s1 : List Blk} {o : Oper} {cv v : AV} {e : Env} {id : Nat} (ha : isApp o.op = true) (hk : appOk id e o.op = true) (h : Does c ops s o cv e v s1) : Agr s.length id s s1 ∧ s.length ≤ s1.length := by
  have hd : DoesOp c s o cv e v s1 → Agr s.length id s s1 ∧ s.length ≤ s1.length := by
    intro h
    unfold DoesOp at h
    split at h <;> rename_i hq
    · rw [h.2]; exact ⟨Agr.refl, Nat.le_refl _⟩
    · rw [h.2.2]; exact ⟨Agr.refl, Nat.le_refl _⟩
    · obtain ⟨_, _, _, rfl⟩ := h
      cases hop : o.op <;> rw [hop] at ha hk hq <;> try (exfalso; revert ha; simp [isApp]; done)
      rename_i cl
      simp only [isApp] at ha
      split at ha <;> try (cases ha; done)
      rename_i hcl
      simp only [xop, hcl] at hq
      unfold xapp2 at hq
      split at hq
      · rename_i x y t u hx hy
        simp only [appOk, hx] at hk
        rcases xapp_sto hq with ⟨b, rfl⟩ | ⟨i, o', l, cc, b, hdst, rfl⟩
        · exact ⟨Agr.push b, by simp⟩
        · rw [hdst] at hk
          have : i = id := by simpa using hk
          subst this
          exact ⟨Agr.set b, by simp⟩
      · cases hq
    · rw [h.2]; exact ⟨Agr.refl, Nat.le_refl _⟩
    · rw [h.2.2.2]; exact ⟨Agr.refl, Nat.le_refl _⟩
    · exact h.elim
  unfold Does at h
  split at h
  · exact hd h
  · split at h
    · rcases h with ⟨_, h⟩ | ⟨_, _, rfl⟩
      · exact hd h
      · exact ⟨Agr.refl, Nat.le_refl _⟩
    · exact h.elim
theorem appOk_agree {id : Nat} {e e' : Env} {op : Op} (h : ∀ x ∈ op.operands, ev e x = ev e' x) : appOk id e op = appOk id e' op := by
  unfold appOk
  cases op <;> try rfl
  rename_i c
  simp only
  cases hc : c.args.toList with
  | nil => rfl
  | cons x r =>
    have hm : x ∈ (Op.call c).operands := by
      have : x ∈ c.args := by
        rw [← Array.mem_toList_iff, hc]; simp
      simp only [Op.operands, Go.Call.operands]
      split <;> simp [this]
    simp only [h x hm]
theorem cka_agree {id i : Nat} {e e' : Env} {s s' : List Blk} {o : Oper} (h : ∀ x ∈ o.op.operands, ev e x = ev e' x) (hs : s.length ≤ s'.length) (hp : cka id i e s o) : cka id i e' s' o := by
  refine ⟨?_, ?_⟩
  · rw [← appOk_agree h]; exact hp.1
  · have h2 := hp.2
    cases hb : (reader o.op && !blind o.op) with
    | false => trivial
    | true =>
      rw [hb] at h2
      simp only [cond_true] at h2 ⊢
      rw [← opOk_agree h]
      exact opOk_mono hs h2

def ChA (c : Cx) (ops : Array Oper) (id : Nat) (K : Env → List Blk → Prop) : List Nat → Env → List Blk → Prop
  | [], e, s => K e s
  | i :: r, e, s => match ops[i]? with
    | some o => cka id i e s o ∧ ∃ cv v s', Does c ops s o cv e v s' ∧ ChA c ops id K r (put e o.dst v) s'
    | none => False
def okAp (ops : List Oper) (j i : Nat) : Bool := match ops[j]?, ops[i]? with
  | some oj, some oi => oj.apart ops.toArray oi && (together oj oi || (reader oj.op && isApp oi.op))
  | _, _ => false
section
variable {cx : Cx} {ops : Array Oper} {K : Env → List Blk → Prop} {id : Nat}
theorem ChA.congr (hK : ∀ e e' s, Eqv e e' → K e s → K e' s) : ∀ {l : List Nat} {e e' : Env} {s : List Blk}, Eqv e e' → ChA cx ops id K l e s → ChA cx ops id K l e' s
  | [], e, e', s, h, c => hK e e' s h c
  | i :: r, e, e', s, h, c => by
    unfold ChA at c ⊢
    split at c
    · rename_i o ho
      obtain ⟨h0, cv, v, s', h1, h2⟩ := c
      exact ⟨cka_agree (fun x _ => ev_agree fun t _ => h t) (Nat.le_refl _) h0, cv, v, s', h1.agree fun t _ => h t, ChA.congr hK (h.put _ _) h2⟩
    · exact c.elim
theorem ChA.swap {opl : List Oper} (hops : ops = opl.toArray) (hK : ∀ e e' s, Eqv e e' → K e s → K e' s) {i j : Nat} {r : List Nat} (hok : okAp opl j i = true) {e : Env} {s : List Blk} (c : ChA cx ops id K (j :: i :: r) e s) :
    ChA cx ops id K (i :: j :: r) e s := by
  unfold okAp at hok
  split at hok
  rotate_left
  · cases hok
  rename_i oj oi hj' hi'
  have hj : ops[j]? = some oj := by rw [hops]; simpa using hj'
  have hi : ops[i]? = some oi := by rw [hops]; simpa using hi'
  simp only [Bool.and_eq_true, Bool.or_eq_true] at hok
  obtain ⟨ha, hok⟩ := hok
  rw [← hops] at ha
  obtain ⟨a1, a2, a3⟩ := Oper.apart_spec ha
  simp only [ChA, hj, hi] at c ⊢
  obtain ⟨pj, cv, v, s1, h1, pi, cu, u, s2, h2, h3⟩ := c
  have gi : ∀ (e : Env) (v : AV), Agree ops oi (put e oj.dst v) e := fun e v t ht => by
    rw [get_put, if_neg]; intro h; exact a1 t h ht
  have gj : ∀ (e : Env) (v : AV), Agree ops oj e (put e oi.dst v) := fun e v t ht => by
    rw [get_put, if_neg]; intro h; exact a3 t h ht
  have h2' : Does cx ops s1 oi cu e u s2 := h2.agree (gi e v)
  have h1' : ∀ {z z'}, Does cx ops z oj cv e v z' → Does cx ops z oj cv (put e oi.dst u) v z' := fun hd => hd.agree (gj e u)
  have h3' := ChA.congr hK (put_swap a2) h3
  have pi' : ∀ s', s1.length ≤ s'.length → cka id i e s' oi := fun s' hs => cka_agree (agree_ops (gi e v)) hs pi
  have pj' : ∀ s', s.length ≤ s'.length → cka id j (put e oi.dst u) s' oj := fun s' hs => cka_agree (agree_ops (gj e u)) hs pj
  have bj : blind oj.op = true → ∀ s', cka id j (put e oi.dst u) s' oj := fun hb s' => ⟨(pj' s (Nat.le_refl _)).1, by simp [hb]⟩
  have bi : blind oi.op = true → ∀ s', cka id i e s' oi := fun hb s' => ⟨(pi' s1 (Nat.le_refl _)).1, by simp [hb]⟩
  rcases hok with hok | hok
  · simp only [together, Bool.or_eq_true, Bool.and_eq_true] at hok
    rcases hok with (⟨c1, c2⟩ | c1) | c1
    · have e1 := h1.calm c1
      subst e1
      have e2 := h2.calm c2
      subst e2
      exact ⟨pi' _ (Nat.le_refl _), cu, u, _, h2', pj' _ (Nat.le_refl _), cv, v, _, h1' h1, h3'⟩
    · have e1 := h1.calm (blind_calm c1)
      subst e1
      exact ⟨pi' _ (Nat.le_refl _), cu, u, _, h2', bj c1 _, cv, v, _, h1' (h1.blind c1), h3'⟩
    · have e2 := h2.calm (blind_calm c1)
      subst e2
      exact ⟨bi c1 _, cu, u, _, h2'.blind c1, pj' _ (Nat.le_refl _), cv, v, _, h1' h1, h3'⟩
  · obtain ⟨hr, hap⟩ := hok
    have e1 := h1.calm (reader_calm hr)
    subst e1
    have pis := pi' _ (Nat.le_refl _)
    have hk : appOk id e oi.op = true := by have := pis.1; rw [hap] at this; exact this
    obtain ⟨hag, hle⟩ := app_agr hap hk h2'
    have ok0 : blind oj.op = false → opOk s1.length id e oj.op = true := fun hb => by have := pj.2; rw [hr, hb] at this; exact this
    exact ⟨pis, cu, u, _, h2', pj' _ hle, cv, v, _, h1' (does_reader hr ok0 hag h1).2, h3'⟩
theorem ChA.front {opl : List Oper} (hops : ops = opl.toArray) (hK : ∀ e e' s, Eqv e e' → K e s → K e' s) {i : Nat} {r : List Nat} : ∀ {l : List Nat} {e : Env} {s : List Blk}, (∀ j ∈ l, okAp opl j i = true) →
    ChA cx ops id K (l ++ i :: r) e s → ChA cx ops id K (i :: (l ++ r)) e s
  | [], _, _, _, c => c
  | j :: l, e, s, h, c => by
    refine ChA.swap hops hK (h j (by simp)) ?_
    simp only [List.cons_append, ChA] at c ⊢
    split at c
    · rename_i o ho
      obtain ⟨h0, cv, v, s', h1, h2⟩ := c
      exact ⟨h0, cv, v, s', h1, ChA.front hops hK (fun k hk => h k (by simp [hk])) h2⟩
    · exact c.elim
end
section
variable {c : Cx} {k : List It} {e : Env} {s : List Blk}
theorem chA_of_dxg {all : List Oper} {id : Nat} : ∀ {r : List Oper} {m n : Nat} {cs : List AV} {e : Env} {s : List Blk}, (∀ (j : Nat), r[j]? = all[m + j]?) → all.length = m + r.length → dxg c all (cka id) k n r cs e s → ChA c all.toArray id (fun e s => AWp c k e s) (List.range' m r.length) e s
  | [], m, n, cs, e, s, _, _, h => by
    rw [dxg] at h
    exact h
  | o :: r, m, n, cs, e, s, hr, hlen, h => by
    obtain ⟨h0, cv, v, n', cs', s', h1, h2⟩ := dxg_step h
    have hat : all.toArray[m]? = some o := by have := hr 0; simpa using this.symm
    have hix : rix all (o :: r) = m := by unfold rix; omega
    rw [hix] at h0
    simp only [List.length_cons, List.range'_succ, ChA, hat]
    exact ⟨h0, cv, v, s', h1, chA_of_dxg (fun j => by have := hr (j + 1); simpa [Nat.add_assoc, Nat.add_comm 1 j] using this) (by simp at hlen; omega) h2⟩
/-- A STATEMENT WHOSE ORDER IS OPEN, with an append into a new block or into the block 'bid'. -/
theorem adrawA (bid : Nat) (cs : List AV) {id : Nat} {ops : List Oper} (hm : c.P.follows .mixedOrders = true) (hok : drawOkG (okAp ops) ops = true) {N : Nat} (hN : c.fn.ntmps = N) (hdst : ops.all (fun o => dOk N o.dst) = true) (n : Nat)
    (h : dxg c ops (cka bid) k n ops cs e s) : AWp c (.code (.region id ops.toArray true) :: k) e s := by
  intro a w hsim
  have hch := chA_of_dxg (m := 0) (by intro j; simp) (by simp) h
  rw [← List.range_eq_range'] at hch
  refine wp_region_any hm ?_
  have hsim' : Sim c e s a { w with drawn := w.drawn + 1 } := by
    obtain ⟨hh, ρ, hmm, hl, he, hdf, hsz, hX⟩ := hsim
    have sm : Same w { w with drawn := w.drawn + 1 } := Same.drew w
    exact ⟨hh, ρ, hmm.same sm, hl.trans (Later.same sm), he, hdf, hsz, c.hx.later hmm (Later.same sm) hX⟩
  have hd : ∀ o ∈ ops, dOk c.fn.ntmps o.dst = true := fun o ho => by rw [hN]; exact (List.all_eq_true.1 hdst) o ho
  refine any_of_gen (okp := okAp ops) (ChA c ops.toArray bid (fun e s => AWp c k e s)) hok (fun e s x => x) (fun l i r e s hj x => ChA.front rfl AWp.K hj x)
    (fun i o r e s a w Kc ho x hs hK => ?_)
    ops.length (Array.replicate ops.length false) (List.range ops.length) e s a _ (by simp) ?_ (by simp) ?_ hch hsim'
  · have ho' : ops.toArray[i]? = some o := by simpa using ho
    simp only [ChA, ho'] at x
    obtain ⟨_, cv, v, s', h1, h2⟩ := x
    exact does_wp hs (hd o (List.mem_of_getElem? ho)) h1 fun a w hs' => hK _ _ a w h2 hs'
  · symm
    rw [List.filter_eq_self]
    intro i hi
    simp at hi
    simp [hi]
  · intro i hi j hj
    exfalso
    by_cases h1 : i < ops.length
    · simp [h1] at hi
    · unfold waits at hj
      have : ops[i]? = none := by simp; omega
      simp [this] at hj
end
end Go.Av
/- MayOf (begun). Own work of this seat. -/
set_option maxRecDepth 100000
set_option linter.unusedSimpArgs false
set_option linter.unusedVariables false
namespace Go.Proofs.YtkomcdohejibmaaGreatDoor
open Go Go.Av Go.RowKit

/-- a group of deeds: whose, in which block -/
structure Gr where
  key : List UInt8
  at' : Nat
  ds : List De
def gM (gs : List Gr) : List (AV × AV) := gs.map fun g => (.str g.key, .sl (g.at' + 1) 0 g.ds.length g.ds.length)
structure GOk (l : List De) (n : Nat) (gs : List Gr) (S : List Blk) : Prop where
  blk : ∀ g ∈ gs, S[g.at']? = some (.arr 7 (g.ds.map deA))
  sub : ∀ g ∈ gs, ∀ d ∈ g.ds, d ∈ l
  len : ∀ g ∈ gs, g.ds.length ≤ n
  ne : gs.Pairwise fun x y => x.at' ≠ y.at'
end Go.Proofs.YtkomcdohejibmaaGreatDoor
/- MayOf's first loop (begun). Own work of this seat. -/
set_option maxRecDepth 100000
set_option linter.unusedSimpArgs false
set_option linter.unusedVariables false
namespace Go.Proofs.YtkomcdohejibmaaGreatDoor
open Go Go.Av Go.RowKit

theorem GOk.lt {l : List De} {n : Nat} {gs : List Gr} {S : List Blk} (h : GOk l n gs S) {g : Gr} (hg : g ∈ gs) : g.at' < S.length := (List.getElem?_eq_some_iff.1 (h.blk g hg)).1
theorem GOk.weak {l : List De} {n : Nat} {gs : List Gr} {S : List Blk} (h : GOk l n gs S) (x : Blk) : GOk l (n + 1) gs (S ++ [x]) :=
  ⟨fun g hg => by rw [List.getElem?_append_left (h.lt hg)]; exact h.blk g hg, h.sub, fun g hg => Nat.le_succ_of_le (h.len g hg), h.ne⟩
theorem GOk.push {l : List De} {n : Nat} {gs : List Gr} {S : List Blk} (h : GOk l n gs S) (x : Blk) (k : List UInt8) {d : De} (hd : d ∈ l) : GOk l (n + 1) (gs ++ [⟨k, S.length + 1, [d]⟩]) (S ++ [x] ++ [.arr 7 [deA d]]) := by
  refine ⟨fun g hg => ?_, fun g hg => ?_, fun g hg => ?_, ?_⟩
  · rcases List.mem_append.1 hg with hg | hg
    · rw [List.getElem?_append_left (by have := h.lt hg; simp; omega), List.getElem?_append_left (h.lt hg)]; exact h.blk g hg
    · rw [List.mem_singleton.1 hg]; simp
  · rcases List.mem_append.1 hg with hg | hg
    · exact h.sub g hg
    · rw [List.mem_singleton.1 hg]; intro y hy; rw [List.mem_singleton.1 hy]; exact hd
  · rcases List.mem_append.1 hg with hg | hg
    · exact Nat.le_succ_of_le (h.len g hg)
    · rw [List.mem_singleton.1 hg]; simp
  · rw [List.pairwise_append]
    exact ⟨h.ne, List.pairwise_singleton .., fun a ha b hb => by rw [List.mem_singleton.1 hb]; have := h.lt ha; simp only; omega⟩
theorem GOk.put {l : List De} {n : Nat} {gs : List Gr} {S : List Blk} (h : GOk l n gs S) (x : Blk) {i : Nat} {g : Gr} (hi : gs[i]? = some g) {d : De} (hd : d ∈ l) :
    GOk l (n + 1) (gs.set i ⟨g.key, g.at', g.ds ++ [d]⟩) ((S ++ [x]).set g.at' (.arr 7 ((g.ds ++ [d]).map deA))) := by
  obtain ⟨hil, hgi⟩ := List.getElem?_eq_some_iff.1 hi
  have hgm : g ∈ gs := List.mem_of_getElem? hi
  have key : ∀ y ∈ gs.set i ⟨g.key, g.at', g.ds ++ [d]⟩, y = ⟨g.key, g.at', g.ds ++ [d]⟩ ∨ (y ∈ gs ∧ y.at' ≠ g.at') := by
    intro y hy
    obtain ⟨j, hj, rfl⟩ := List.getElem_of_mem hy
    rw [List.length_set] at hj
    by_cases hij : j = i
    · subst hij; left; simp
    · right
      rw [List.getElem_set_ne (Ne.symm hij)]
      refine ⟨List.getElem_mem _, ?_⟩
      rcases Nat.lt_or_gt_of_ne hij with hlt | hlt
      · have hx := List.pairwise_iff_getElem.1 h.ne j i hj hil hlt
        rw [hgi] at hx
        exact hx
      · have hx := List.pairwise_iff_getElem.1 h.ne i j hil hj hlt
        rw [hgi] at hx
        exact Ne.symm hx
  refine ⟨fun y hy => ?_, fun y hy => ?_, fun y hy => ?_, ?_⟩
  · rcases key y hy with rfl | ⟨h1, h2⟩
    · simp only
      rw [List.getElem?_set_self (by have := h.lt hgm; simp; omega)]
    · rw [List.getElem?_set_ne (Ne.symm h2), List.getElem?_append_left (h.lt h1)]
      exact h.blk y h1
  · rcases key y hy with rfl | ⟨h1, _⟩
    · intro z hz
      rcases List.mem_append.1 hz with hz | hz
      · exact h.sub g hgm z hz
      · rw [List.mem_singleton.1 hz]; exact hd
    · exact h.sub y h1
  · rcases key y hy with rfl | ⟨h1, _⟩
    · have := h.len g hgm; simp; omega
    · exact Nat.le_succ_of_le (h.len y h1)
  · rw [List.pairwise_iff_getElem]
    intro a b ha hb hab
    rw [List.length_set] at ha hb
    have hat : ∀ (t : Nat) (ht : t < gs.length), ((gs.set i ⟨g.key, g.at', g.ds ++ [d]⟩)[t]'(by simpa using ht)).at' = gs[t].at' := by
      intro t ht
      by_cases hti : t = i
      · subst hti; simp [hgi]
      · rw [List.getElem_set_ne (Ne.symm hti)]
    rw [hat a ha, hat b hb]
    exact List.pairwise_iff_getElem.1 h.ne a b ha hb hab
theorem gM_push (gs : List Gr) (g : Gr) : gM gs ++ [(.str g.key, .sl (g.at' + 1) 0 g.ds.length g.ds.length)] = gM (gs ++ [g]) := by simp [gM]
theorem gM_set (gs : List Gr) (i : Nat) (g : Gr) : (gM gs).set i (.str g.key, .sl (g.at' + 1) 0 g.ds.length g.ds.length) = gM (gs.set i g) := by
  unfold gM; rw [List.map_set]
end Go.Proofs.YtkomcdohejibmaaGreatDoor
/- Groups are frozen. Own work of this seat. -/
set_option maxRecDepth 100000
set_option linter.unusedSimpArgs false
set_option linter.unusedVariables false
namespace Go.Proofs.YtkomcdohejibmaaGreatDoor
open Go Go.Av Go.RowKit

def gF (gs : List Gr) : List (AV × AV) := gs.map fun g => (.str g.key, .fz 7 (g.ds.map deA))
theorem gF_frz (id : Nat) (l : List AV) (gs : List Gr) : (gF gs).map (fun x => (x.1, frz id 7 l x.2)) = gF gs := by
  unfold gF
  rw [List.map_map]
  rfl
theorem gM_frz (at' : Nat) (l : List AV) (gs : List Gr) (h : ∀ g ∈ gs, g.at' ≠ at') : (gM gs).map (fun x => (x.1, frz (at' + 1) 7 l x.2)) = gM gs := by
  unfold gM
  rw [List.map_map]
  apply List.map_congr_left
  intro g hg
  have h1 : (g.at' + 1 == at' + 1) = false := by have := h g hg; simp; omega
  simp only [Function.comp, frz, frz1, h1, Bool.false_and, cond_false]
theorem freeze_all {c : Cx} (hc : c.sto.length ≤ 1) (E0 : Env) (hE : ∀ id l, frzE (id + 1) 7 l E0 = E0) (hw : wkl 1 E0 E0) : ∀ (gs done : List Gr) (S : List Blk), (∀ g ∈ gs, S[g.at']? = some (.arr 7 (g.ds.map deA))) → gs.Pairwise (fun x y => x.at' ≠ y.at') →
    Shift c E0 (.mp (gF done ++ gM gs) :: S) E0 [.mp (gF (done ++ gs))]
  | [], done, S, _, _ => by
    rw [show gM [] = [] from rfl, List.append_nil, List.append_nil]
    refine Shift.low 1 hc (by simp) ?_ hw
    simp only [List.take_succ_cons, List.take_zero, List.all_cons, List.all_nil, Bool.and_true]
    show (gF done).all _ = true
    rw [gF, List.all_map, List.all_eq_true]
    intro x hx
    rfl
  | g :: r, done, S, hb, hn => by
    have h0 := hb g (by simp)
    rw [List.pairwise_cons] at hn
    have hs : (Blk.mp (gF done ++ gM (g :: r)) :: S).getD (g.at' + 1) .dead = .arr 7 (g.ds.map deA) := by
      rw [List.getD_cons_succ, List.getD_eq_getElem?_getD, h0]; rfl
    have sh := Shift.frz (c := c) (en := E0) (g.at' + 1) hs (deA_frz _)
    rw [hE] at sh
    have e1 : ((Blk.mp (gF done ++ gM (g :: r)) :: S).set (g.at' + 1) .dead).map (frzB (g.at' + 1) 7 (g.ds.map deA)) = .mp (gF (done ++ [g]) ++ gM r) :: (S.set g.at' .dead).map (frzB (g.at' + 1) 7 (g.ds.map deA)) := by
      rw [List.set_cons_succ, List.map_cons]
      congr 1
      simp only [frzB, List.map_append, gF_frz]
      congr 1
      have e2 : gM (g :: r) = (.str g.key, .sl (g.at' + 1) 0 g.ds.length g.ds.length) :: gM r := rfl
      have e3 : gF (done ++ [g]) = gF done ++ [(.str g.key, .fz 7 (g.ds.map deA))] := by simp [gF]
      rw [e2, e3, List.map_cons, gM_frz _ _ _ (fun y hy => Ne.symm (hn.1 y hy)), List.append_assoc]
      congr 1
      simp only [frz, frz1, beq_self_eq_true, List.length_map, Nat.zero_add, decide_true, Nat.le_refl, Bool.and_self, cond_true, List.drop_zero, take_map, List.cons_append, List.nil_append]
    rw [e1] at sh
    have ih := freeze_all hc E0 hE hw r (done ++ [g]) ((S.set g.at' .dead).map (frzB (g.at' + 1) 7 (g.ds.map deA))) (fun y hy => by
      rw [List.getElem?_map, List.getElem?_set_ne (hn.1 y hy), hb y (by simp [hy])]
      simp only [Option.map_some, frzB, frz_deM]) hn.2
    rw [List.append_assoc] at ih
    exact Shift.trans sh ih
end Go.Proofs.YtkomcdohejibmaaGreatDoor
/- MayOf's first loop. Own work of this seat. -/
set_option maxRecDepth 100000
set_option linter.unusedSimpArgs false
set_option linter.unusedVariables false
namespace Go.Proofs.YtkomcdohejibmaaGreatDoor
open Go Go.Av Go.RowKit

theorem pigeon : ∀ (n : Nat) (l : List Nat), l.Nodup → (∀ x ∈ l, x < n) → l.length ≤ n
  | 0, l, _, h => by
    cases l with
    | nil => simp
    | cons a l => exact absurd (h a (by simp)) (by omega)
  | n + 1, l, hn, h => by
    have h1 := pigeon n (l.erase n) (hn.erase n) (fun x hx => by
      have h2 := h x (List.mem_of_mem_erase hx)
      have h3 : x ≠ n := fun e => by
        subst e
        exact (hn.not_mem_erase) hx
      omega)
    have h4 := List.length_erase (a := n) (l := l)
    split at h4 <;> omega
/-- what is wanted of slices.Sort at strings -/
def SortStrs : Prop := ∀ (o : List (List UInt8)) (s : List Blk) (bid : Nat), s[bid]? = some (.arr 1 (o.map .str)) → o.length < 1000000 → Ct Tryz.prog 111 [.sl bid 0 o.length o.length] s (fun r s' => r = .tup [] ∧ ∃ o' : List (List UInt8), s' = s.set bid (.arr 1 (o'.map .str)) ∧ o'.Perm o)
end Go.Proofs.YtkomcdohejibmaaGreatDoor
/- slices.Sort of strings. Own work of this seat. -/
set_option maxRecDepth 100000
set_option linter.unusedSimpArgs false
set_option linter.unusedVariables false
namespace Go.Proofs.YtkomcdohejibmaaGreatDoor
open Go Go.Av Go.RowKit Go.Shelf Go.Sort

theorem strs_cells {h : Mem} {ρ : Go.Av.Own} {s : List Blk} : ∀ (l : List (List UInt8)) (vs : List Value), RL h (Lf ρ s) false vs (flat (l.map AV.str)) → vs = l.map encStr
  | [], vs, r => by cases r; rfl
  | x :: l, vs, r => by
    simp only [List.map_cons, flat, cellsOf, List.cons_append, List.nil_append] at r
    cases r with
    | cons r1 r2 =>
      rw [inv_str r1, strs_cells l _ r2]
      rfl
theorem strs_rl {h : Mem} {L : Value → AV → Prop} : ∀ (l : List (List UInt8)), RL h L false (l.map encStr) (flat (l.map AV.str))
  | [] => .nil
  | x :: l => by
    simp only [List.map_cons, flat, cellsOf, List.cons_append, List.nil_append]
    exact .cons (.str x) (strs_rl l)
theorem sortStrs : SortStrs := by
  intro l s bid hs hl
  refine ⟨hB111, fun h ρ w vs m r => ?_⟩
  have hid := (List.getElem?_eq_some_iff.1 hs).1
  cases r with
  | @cons _ v0 _ _ _ r0 r =>
    cases r
    have hL := (inv_sl r0).2
    simp only [LfC, hs] at hL
    have none_ok : l = [] → ∀ (p : Option Addr) (cap : Nat), v0 = .slice p 0 cap → Calls Tryz.prog 111 #[v0] w fun en w' =>
        ∃ v r s_1 h' ρ', en = .returned v ∧ (r = .tup [] ∧ ∃ l' : List (List UInt8), s_1 = s.set bid (.arr 1 (l'.map .str)) ∧ l'.Perm l) ∧ Mine h' ρ' s_1 w' ∧ Later h ρ s w h' ρ' s_1 w' ∧ RV h' (Lf ρ' s_1) false v r := by
      intro h0 p cap e0
      subst h0 e0
      refine (AnyM.slices_Sort_string_none Tryz.sortS p cap w).mono ?_
      rintro e w' ⟨rfl, rfl⟩
      exact ⟨_, .tup [], s, h, ρ, rfl, ⟨rfl, [], (set_same hs).symm, .nil⟩, m, .refl .., .tup [] [] .nil⟩
    rcases hL.2 (by simp) with ⟨h1, h2, a, rfl⟩ | ⟨g0, tot, h1, rfl, h3⟩
    · exact none_ok (List.eq_nil_of_length_eq_zero h1) (at0 a) 0 rfl
    · by_cases hne : l = []
      · subst hne
        exact none_ok rfl _ _ rfl
      · have hpos : 0 < l.length := List.length_pos_iff.2 hne
        rcases m.own bid _ hs with ⟨hn, _⟩ | ⟨g', tot', cur, tt, i3, i4, i5, i6, i7, i8, i9, i10, i11⟩
        · exact absurd hn (by simpa using hne)
        rw [h1] at i3
        simp only [Option.some.injEq, Prod.mk.injEq] at i3
        obtain ⟨rfl, rfl⟩ := i3
        simp only [List.length_map, Nat.mul_one] at i5 i6 i11
        have hcur := strs_cells l _ i11
        obtain ⟨q, hq⟩ : ∃ q, l.mergeSort (fun x y => decide (x ≤ y)) = q := ⟨_, rfl⟩
        have hp : q.Perm l := by rw [← hq]; exact List.mergeSort_perm l _
        have hql := hp.length_eq
        have hH : Holds encStr w g0 0 l.toArray := by
          intro j hj
          simp only [List.size_toArray] at hj
          have hjc : j < cur.size := by rw [i5]; omega
          refine ⟨?_, by rw [Nat.zero_add]; exact i4.fz hjc⟩
          have h5 : cur.toList[j]? = (l.map encStr)[j]? := by rw [← hcur, List.getElem?_take, if_pos hj]
          rw [Nat.zero_add, i4.cell, ← Array.getElem?_toList, h5, List.getElem?_map, List.getElem?_eq_getElem hj]
          rw [getElem!_pos l.toArray j (by simpa using hj)]
          rfl
        have key := AnyM.slices_Sort_string Tryz.sortS g0 0 (tot - 0) l w hH i4.lt (by omega)
        rw [hq] at key
        simp only [Nat.zero_mul]
        refine Calls.mono key ?_
        rintro e w' ⟨rfl, nn, os, rfl⟩
        obtain ⟨w1, hw1⟩ : ∃ w1, Go.Sort.putRow encStr (Go.Sort.ahead w nn) g0 0 q.toArray = w1 := ⟨_, rfl⟩
        rw [hw1]
        obtain ⟨mk, hmk1, hmk2⟩ := i4
        have hcs : (Go.Sort.putCells encStr 0 q.toArray cur).size = cur.size := by simp [Go.Sort.putCells]
        have hget : w1.heap[g0]? = some (.cells (Go.Sort.putCells encStr 0 q.toArray cur) tt mk) := by
          rw [← hw1]
          simp only [Go.Sort.putRow, mapBlock, Go.Sort.ahead, Array.getElem?_modify, if_true, hmk1, Option.map_some, onCells]
        have hoth : ∀ b, b ≠ g0 → w1.heap[b]? = w.heap[b]? := by
          intro b hb
          rw [← hw1]
          simp only [Go.Sort.putRow, mapBlock, Go.Sort.ahead, Array.getElem?_modify, if_neg (Ne.symm hb)]
        have hsz1 : w1.heap.size = w.heap.size := by rw [← hw1]; simp [Go.Sort.putRow, mapBlock, Go.Sort.ahead]
        have hel : ∀ j, (Go.Sort.putCells encStr 0 q.toArray cur).toList[j]? = if j < l.length then (q.map encStr)[j]? else cur.toList[j]? := by
          intro j
          rw [Array.getElem?_toList]
          simp only [Go.Sort.putCells, Array.getElem?_mapIdx, Nat.zero_le, true_and, Nat.zero_add, Nat.sub_zero, List.size_toArray, hql]
          by_cases hj : j < l.length
          · rw [if_pos hj]
            have h2 : j < cur.size := by rw [i5]; omega
            rw [Array.getElem?_eq_getElem h2, List.getElem?_map, List.getElem?_eq_getElem (by omega)]
            simp only [Option.map_some, hj, if_true]
            rw [getElem!_pos q.toArray j (by simp; omega)]
            rfl
          · rw [if_neg hj, Array.getElem?_toList]
            cases hq2 : cur[j]? with
            | none => rfl
            | some v => simp [hj]
        have htake : (Go.Sort.putCells encStr 0 q.toArray cur).toList.take l.length = q.map encStr := by
          apply List.ext_getElem?
          intro j
          rw [List.getElem?_take]
          split
          · rename_i hj; rw [hel, if_pos hj]
          · rename_i hj; rw [List.getElem?_eq_none (by simp; omega)]
        have hlen2 : (q.map AV.str).length = l.length := by simp [hql]
        have hset : ∀ v a, Lf ρ s v a → Lf ρ (s.set bid (.arr 1 (q.map .str))) v a := fun v a lf => ⟨lf.1, LfC_set hs (fun _ _ => rfl) (Or.inl ⟨rfl, by simp [hql], rfl⟩ : (_ ∧ _ ∧ _) ∨ _) lf.2⟩
        obtain ⟨m1, L1⟩ := m.write (w' := w1) hs (b' := .arr 1 (q.map .str)) h1 (.inl ⟨rfl, by simp [hql]⟩) (by rw [← hw1]; rfl) (by rw [← hw1]; rfl) ⟨by rw [← hw1]; rfl, trivial⟩ hsz1 hoth (by
          refine .inr ⟨g0, tot, Go.Sort.putCells encStr 0 q.toArray cur, tt, h1, ⟨mk, hget, by rw [hcs]; exact hmk2⟩, by rw [hcs, i5, Nat.mul_one], by rw [hlen2]; exact i6, i7, by decide, ?_, ?_, ?_⟩
          · intro x hx
            obtain ⟨y, _, rfl⟩ := List.mem_map.1 hx
            rfl
          · intro v hv
            obtain ⟨j, hj, e⟩ := List.getElem_of_mem hv
            have h2 := hel j
            rw [List.getElem?_eq_getElem hj, e] at h2
            split at h2
            · have h3 : v ∈ q.map encStr := List.mem_of_getElem? h2.symm
              obtain ⟨z, _, rfl⟩ := List.mem_map.1 h3
              rfl
            · exact i10 v (List.mem_of_getElem? h2.symm)
          · rw [hlen2, Nat.mul_one, htake]
            exact strs_rl q)
        have sm : Same w1 (grow w1 os) := ⟨rfl, rfl, ⟨rfl, trivial⟩, by simp, fun b hb => heap_grow_old _ _ hb⟩
        exact ⟨_, .tup [], _, h, ρ, rfl, ⟨rfl, q, rfl, hp⟩, m1.same sm, L1.trans (.same sm), .tup [] [] .nil⟩
end Go.Proofs.YtkomcdohejibmaaGreatDoor
