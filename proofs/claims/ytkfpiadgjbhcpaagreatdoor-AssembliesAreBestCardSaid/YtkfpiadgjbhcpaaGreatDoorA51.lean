/- Statements whose order is open and which store into several blocks of one's own. Written by mkos.py after AvPu. Own work of this seat. -/
import Derived.Test.YtkfpiadgjbhcpaaGreatDoorA18
import Derived.Test.YtkfpiadgjbhcpaaGreatDoorA50
import Derived.Test.YtkfpiadgjbhcpaaGreatDoorA22
import Derived.Test.YtkfpiadgjbhcpaaGreatDoorA36
set_option linter.unusedSimpArgs false
set_option linter.unusedVariables false
set_option linter.unusedSectionVars false
namespace Go.Av
open Go Go.RowKit
variable [Tr]

/-- an operation that stores into the block 'd' -/
def stoD (d : Nat) (e : Env) (o : Oper) : Prop := match o.guard, o.op with
  | none, .store _ x _ => match ev e x with
    | .ptr i _ _ _ => i = d
    | _ => False
  | _, _ => False
/-- what is asked of each operation: those listed store into their blocks; what reads looks at none of those that it may pass -/
def sck (ids lk : List (Nat × Nat)) (i : Nat) (e : Env) (s : List Blk) (o : Oper) : Prop :=
  (match ids.lookup i with
    | some d => stoD d e o
    | none => True) ∧ (bif reader o.op && !blind o.op then ids.all (fun p => lk.contains (i, p.1) || opOk s.length p.2 e o.op) = true else True)

/-- a store changes its block alone, and looks at no other -/
theorem sto_does {c : Cx} {ops : Array Oper} {s s1 : List Blk} {o : Oper} {cv v : AV} {e : Env} {d : Nat} (ho : stoD d e o) (h : Does c ops s o cv e v s1) :
    v = .raw undef ∧ ∃ b, s1 = s.set d b ∧ ∀ s2 cv2, s2.getD d .dead = s.getD d .dead → Does c ops s2 o cv2 e v (s2.set d b) := by
  unfold stoD at ho
  split at ho
  · rename_i t x u hg hop
    split at ho
    · rename_i i n j off hx
      subst ho
      unfold Does at h ⊢
      rw [hg] at h ⊢
      simp only at h ⊢
      unfold DoesOp at h ⊢
      rw [hop] at h ⊢
      simp only [xop, hx, xstore] at h ⊢
      cases hb : s.getD i .dead with
      | arr es l =>
        rw [hb] at h
        simp only [xstoreB] at h
        obtain ⟨h1, h2, h3, h4⟩ := h
        refine ⟨h3, _, h4, fun s2 cv2 hs => ?_⟩
        rw [hs]
        simp only [xstoreB]
        exact ⟨h1, h2, h3, trivial⟩
      | mp es => rw [hb] at h; exact h.elim
      | it a b c => rw [hb] at h; exact h.elim
      | dead => rw [hb] at h; exact h.elim
    · exact ho.elim
  · exact ho.elim
theorem stoD_agree {d : Nat} {e e' : Env} {o : Oper} (h : ∀ x ∈ o.op.operands, ev e x = ev e' x) (hs : stoD d e o) : stoD d e' o := by
  unfold stoD at hs ⊢
  cases hg : o.guard with
  | some x => rw [hg] at hs; exact hs.elim
  | none =>
    rw [hg] at hs
    cases ho : o.op <;> rw [ho] at hs <;> simp only at hs ⊢
    rw [← h _ (by rw [ho]; simp [Op.operands])]
    exact hs
theorem sck_agree {ids lk : List (Nat × Nat)} {i : Nat} {e e' : Env} {s s' : List Blk} {o : Oper} (h : ∀ x ∈ o.op.operands, ev e x = ev e' x) (hs : s.length = s'.length) (hp : sck ids lk i e s o) : sck ids lk i e' s' o := by
  obtain ⟨h1, h2⟩ := hp
  refine ⟨?_, ?_⟩
  · cases hl : ids.lookup i with
    | none => trivial
    | some d =>
      rw [hl] at h1
      simp only at h1 ⊢
      exact stoD_agree h h1
  · cases hb : (reader o.op && !blind o.op) with
    | false => trivial
    | true =>
      rw [hb] at h2
      simp only [cond_true] at h2 ⊢
      rw [List.all_eq_true] at h2 ⊢
      intro p hp
      rw [← opOk_agree h, ← hs]
      exact h2 p hp
theorem sck_ok {ids lk : List (Nat × Nat)} {i : Nat} {e : Env} {s : List Blk} {o : Oper} (hp : sck ids lk i e s o) (hr : reader o.op = true) (hb : blind o.op = false) {j d : Nat} (hj : ids.lookup j = some d) (hlk : lk.contains (i, j) = false) : opOk s.length d e o.op = true := by
  have h2 := hp.2
  rw [hr, hb] at h2
  simp only [Bool.not_false, Bool.and_self, cond_true, List.all_eq_true] at h2
  have : ∀ {l : List (Nat × Nat)}, l.lookup j = some d → (j, d) ∈ l := by
    intro l
    induction l with
    | nil => intro h; simp at h
    | cons p r ih =>
      intro h
      rw [List.lookup_cons] at h
      split at h
      · rename_i hq
        have hq : j = p.1 := by simpa using hq
        simp only [Option.some.injEq] at h
        subst hq; subst h
        exact List.mem_cons_self
      · exact List.mem_cons_of_mem _ (ih h)
  have h3 := h2 _ (this hj)
  rw [hlk, Bool.false_or] at h3
  exact h3
theorem sck_put {ids lk : List (Nat × Nat)} {i d : Nat} {e : Env} {s : List Blk} {o : Oper} (hp : sck ids lk i e s o) (hl : ids.lookup i = some d) : stoD d e o := by
  have := hp.1
  rw [hl] at this
  exact this

def ChO (c : Cx) (ops : Array Oper) (ids lk : List (Nat × Nat)) (K : Env → List Blk → Prop) : List Nat → Env → List Blk → Prop
  | [], e, s => K e s
  | i :: r, e, s => match ops[i]? with
    | some o => sck ids lk i e s o ∧ ∃ cv v s', Does c ops s o cv e v s' ∧ ChO c ops ids lk K r (put e o.dst v) s'
    | none => False

/-- may i pass the earlier j? -/
def okSo (ops : List Oper) (ids lk : List (Nat × Nat)) (j i : Nat) : Bool := match ops[j]?, ops[i]? with
  | some oj, some oi => oj.apart ops.toArray oi && (together oj oi || (match ids.lookup j, ids.lookup i with
    | some a, some b => a != b
    | some _, none => reader oi.op && !lk.contains (i, j)
    | none, some _ => reader oj.op && !lk.contains (j, i)
    | none, none => false))
  | _, _ => false

section
variable {cx : Cx} {ops : Array Oper} {K : Env → List Blk → Prop} {ids lk : List (Nat × Nat)}
theorem ChO.congr (hK : ∀ e e' s, Eqv e e' → K e s → K e' s) : ∀ {l : List Nat} {e e' : Env} {s : List Blk}, Eqv e e' → ChO cx ops ids lk K l e s → ChO cx ops ids lk K l e' s
  | [], e, e', s, h, c => hK e e' s h c
  | i :: r, e, e', s, h, c => by
    unfold ChO at c ⊢
    split at c
    · rename_i o ho
      obtain ⟨h0, cv, v, s', h1, h2⟩ := c
      exact ⟨sck_agree (fun x _ => ev_agree fun t _ => h t) rfl h0, cv, v, s', h1.agree fun t _ => h t, ChO.congr hK (h.put _ _) h2⟩
    · exact c.elim
theorem ChO.swap {opl : List Oper} (hops : ops = opl.toArray) (hK : ∀ e e' s, Eqv e e' → K e s → K e' s) {i j : Nat} {r : List Nat} (hok : okSo opl ids lk j i = true) {e : Env} {s : List Blk} (c : ChO cx ops ids lk K (j :: i :: r) e s) :
    ChO cx ops ids lk K (i :: j :: r) e s := by
  unfold okSo at hok
  split at hok
  rotate_left
  · cases hok
  rename_i oj oi hj' hi'
  have hj : ops[j]? = some oj := by rw [hops]; simpa using hj'
  have hi : ops[i]? = some oi := by rw [hops]; simpa using hi'
  simp only [Bool.and_eq_true, Bool.or_eq_true] at hok
  obtain ⟨ha, hok⟩ := hok
  rw [← hops] at ha
  obtain ⟨a1, a2, a3⟩ := Oper.apart_spec ha
  simp only [ChO, hj, hi] at c ⊢
  obtain ⟨pj, cv, v, s1, h1, pi, cu, u, s2, h2, h3⟩ := c
  have gi : ∀ (e : Env) (v : AV), Agree ops oi (put e oj.dst v) e := fun e v t ht => by
    rw [get_put, if_neg]; intro h; exact a1 t h ht
  have gj : ∀ (e : Env) (v : AV), Agree ops oj e (put e oi.dst v) := fun e v t ht => by
    rw [get_put, if_neg]; intro h; exact a3 t h ht
  have h2' : Does cx ops s1 oi cu e u s2 := h2.agree (gi e v)
  have h1' : ∀ {z z'}, Does cx ops z oj cv e v z' → Does cx ops z oj cv (put e oi.dst u) v z' := fun hd => hd.agree (gj e u)
  have h3' := ChO.congr hK (put_swap a2) h3
  have pi' : ∀ s', s1.length = s'.length → sck ids lk i e s' oi := fun s' hs => sck_agree (agree_ops (gi e v)) hs pi
  have pj' : ∀ s', s.length = s'.length → sck ids lk j (put e oi.dst u) s' oj := fun s' hs => sck_agree (agree_ops (gj e u)) hs pj
  rcases hok with hok | hok
  · simp only [together, Bool.or_eq_true, Bool.and_eq_true] at hok
    have blind_free : ∀ {o : Oper} {k : Nat} {e : Env} {s s' : List Blk}, blind o.op = true → sck ids lk k e s o → sck ids lk k e s' o := fun hb hp => ⟨hp.1, by simp [hb]⟩
    rcases hok with (⟨c1, c2⟩ | c1) | c1
    · have e1 := h1.calm c1
      subst e1
      have e2 := h2.calm c2
      subst e2
      exact ⟨pi' _ rfl, cu, u, _, h2', pj' _ rfl, cv, v, _, h1' h1, h3'⟩
    · have e1 := h1.calm (blind_calm c1)
      subst e1
      exact ⟨pi' _ rfl, cu, u, _, h2', blind_free c1 (pj' _ rfl), cv, v, _, h1' (h1.blind c1), h3'⟩
    · have e2 := h2.calm (blind_calm c1)
      subst e2
      exact ⟨blind_free c1 (pi' _ rfl), cu, u, _, h2'.blind c1, pj' _ rfl, cv, v, _, h1' h1, h3'⟩
  split at hok
  · rename_i a b hla hlb
    have hab : a ≠ b := by simpa using hok
    obtain ⟨hv, bj, rfl, hdj⟩ := sto_does (sck_put pj hla) h1
    obtain ⟨hu, bi, rfl, hdi⟩ := sto_does (sck_put (pi' _ rfl) hlb) h2'
    have n1 : (s.set b bi).getD a .dead = s.getD a .dead := by simp only [List.getD, List.getElem?_set_ne (Ne.symm hab)]
    have n2 : s.getD b .dead = (s.set a bj).getD b .dead := by simp only [List.getD, List.getElem?_set_ne hab]
    refine ⟨pi' _ (by simp), cu, u, _, hdi s cu n2, pj' _ (by simp), cv, v, _, h1' (hdj _ cv n1), ?_⟩
    rw [List.set_comm _ _ (Ne.symm hab)]
    exact h3'
  · rename_i a hla hlb
    simp only [Bool.and_eq_true, Bool.not_eq_true'] at hok
    obtain ⟨hok, hlk⟩ := hok
    obtain ⟨hv, bj, rfl, hdj⟩ := sto_does (sck_put pj hla) h1
    have ok0 : blind oi.op = false → opOk s.length a e oi.op = true := fun hb => sck_ok (pi' s (by simp)) hok hb hla hlk
    obtain ⟨e1, ds⟩ := does_reader hok ok0 ((Agr.set (s := s) (id := a) bj).symm) h2'
    subst e1
    exact ⟨pi' _ (by simp), cu, u, _, ds, pj' _ rfl, cv, v, _, h1' h1, h3'⟩
  · rename_i b hla hlb
    simp only [Bool.and_eq_true, Bool.not_eq_true'] at hok
    obtain ⟨hok, hlk⟩ := hok
    have ok0 : blind oj.op = false → opOk s.length b e oj.op = true := fun hb => sck_ok pj hok hb hlb hlk
    obtain ⟨rfl, _⟩ := does_reader hok ok0 (Agr.set (id := b) .dead) h1
    obtain ⟨hu, bi, rfl, hdi⟩ := sto_does (sck_put (pi' _ rfl) hlb) h2'
    have hs := (does_reader hok ok0 (Agr.set (id := b) bi) h1).2
    exact ⟨pi' _ rfl, cu, u, _, h2', pj' _ (by simp), cv, v, _, h1' hs, h3'⟩
  · cases hok
theorem ChO.front {opl : List Oper} (hops : ops = opl.toArray) (hK : ∀ e e' s, Eqv e e' → K e s → K e' s) {i : Nat} {r : List Nat} : ∀ {l : List Nat} {e : Env} {s : List Blk}, (∀ j ∈ l, okSo opl ids lk j i = true) →
    ChO cx ops ids lk K (l ++ i :: r) e s → ChO cx ops ids lk K (i :: (l ++ r)) e s
  | [], _, _, _, c => c
  | j :: l, e, s, h, c => by
    refine ChO.swap hops hK (h j (by simp)) ?_
    simp only [List.cons_append, ChO] at c ⊢
    split at c
    · rename_i o ho
      obtain ⟨h0, cv, v, s', h1, h2⟩ := c
      exact ⟨h0, cv, v, s', h1, ChO.front hops hK (fun k hk => h k (by simp [hk])) h2⟩
    · exact c.elim
end

section
variable {c : Cx} {k : List It} {e : Env} {s : List Blk}
theorem chO_of_dxg {all : List Oper} {ids lk : List (Nat × Nat)} : ∀ {r : List Oper} {m n : Nat} {cs : List AV} {e : Env} {s : List Blk}, (∀ (j : Nat), r[j]? = all[m + j]?) → all.length = m + r.length → dxg c all (sck ids lk) k n r cs e s → ChO c all.toArray ids lk (fun e s => AWp c k e s) (List.range' m r.length) e s
  | [], m, n, cs, e, s, _, _, h => by
    rw [dxg] at h
    exact h
  | o :: r, m, n, cs, e, s, hr, hlen, h => by
    obtain ⟨h0, cv, v, n', cs', s', h1, h2⟩ := dxg_step h
    have hat : all.toArray[m]? = some o := by have := hr 0; simpa using this.symm
    have hix : rix all (o :: r) = m := by unfold rix; omega
    rw [hix] at h0
    simp only [List.length_cons, List.range'_succ, ChO, hat]
    exact ⟨h0, cv, v, s', h1, chO_of_dxg (fun j => by have := hr (j + 1); simpa [Nat.add_assoc, Nat.add_comm 1 j] using this) (by simp at hlen; omega) h2⟩

/-- A STATEMENT WHOSE ORDER IS OPEN, in which the operations with the numbers 'ids' store into blocks of one's own, each into its own. -/
theorem adrawO (ids lk : List (Nat × Nat)) (cs : List AV) {id : Nat} {ops : List Oper} (hm : c.P.follows .mixedOrders = true) (hok : drawOkG (okSo ops ids lk) ops = true) {N : Nat} (hN : c.fn.ntmps = N) (hdst : ops.all (fun o => dOk N o.dst) = true) (n : Nat)
    (h : dxg c ops (sck ids lk) k n ops cs e s) : AWp c (.code (.region id ops.toArray true) :: k) e s := by
  intro a w hsim
  have hch := chO_of_dxg (m := 0) (by intro j; simp) (by simp) h
  rw [← List.range_eq_range'] at hch
  refine wp_region_any hm ?_
  have hsim' : Sim c e s a { w with drawn := w.drawn + 1 } := by
    obtain ⟨hh, ρ, hmm, hl, he, hdf, hsz, hX⟩ := hsim
    have sm : Same w { w with drawn := w.drawn + 1 } := Same.drew w
    exact ⟨hh, ρ, hmm.same sm, hl.trans (Later.same sm), he, hdf, hsz, c.hx.later hmm (Later.same sm) hX⟩
  have hd : ∀ o ∈ ops, dOk c.fn.ntmps o.dst = true := fun o ho => by rw [hN]; exact (List.all_eq_true.1 hdst) o ho
  refine any_of_gen (okp := okSo ops ids lk) (ChO c ops.toArray ids lk (fun e s => AWp c k e s)) hok (fun e s x => x) (fun l i r e s hj x => ChO.front rfl AWp.K hj x)
    (fun i o r e s a w Kc ho x hs hK => ?_)
    ops.length (Array.replicate ops.length false) (List.range ops.length) e s a _ (by simp) ?_ (by simp) ?_ hch hsim'
  · have ho' : ops.toArray[i]? = some o := by simpa using ho
    simp only [ChO, ho'] at x
    obtain ⟨_, cv, v, s', h1, h2⟩ := x
    exact does_wp hs (hd o (List.mem_of_getElem? ho)) h1 fun a w hs' => hK _ _ a w h2 hs'
  · symm
    rw [List.filter_eq_self]
    intro i hi
    simp at hi
    simp [hi]
  · intro i hi j hj
    exfalso
    by_cases h1 : i < ops.length
    · simp [h1] at hi
    · unfold waits at hj
      have : ops[i]? = none := by simp; omega
      simp [this] at hj
end
end Go.Av
/- The clips show the paragraphs. Own work of this seat. -/
set_option maxRecDepth 100000
set_option linter.unusedSimpArgs false
set_option linter.unusedVariables false
namespace Go.Proofs.YtkfpiadgjbhcpaaGreatDoor
open Go Go.Av Go.RowKit

/-- where part v of a run begins -/
def atR (r : List Pp') (v : Nat) : Int := match r[v]? with
  | some p => p.cv.inn
  | none => (clipR r).out
theorem clip_cons (a b : Pp') (t : List Pp') : clipR (a :: b :: t) = ⟨a.take, a.cv.inn, (clipR (b :: t)).out⟩ := by
  obtain ⟨q, hq⟩ : ∃ q, (b :: t).getLast? = some q := by
    cases h : (b :: t).getLast? with
    | none => simp at h
    | some q => exact ⟨q, rfl⟩
  have h2 : (a :: b :: t).getLast? = some q := by rw [List.getLast?_cons_cons]; exact hq
  simp [clipR, hq, h2]
theorem run_ok : ∀ r : List Pp', fols r → (∀ p ∈ r, p.cv.inn < p.cv.out) → ∀ v, (h : v < r.length) → r[v].cv.inn < (clipR r).out ∧ r[v].take = (clipR r).take ∧ r[v].cv.out = atR r (v + 1)
  | [], _, _, v, h => absurd h (by simp)
  | [a], _, hlt, v, h => by
    have : v = 0 := by simp at h; omega
    subst this
    have := hlt a (by simp)
    rw [clip_one]
    exact ⟨this, by simp, by simp [atR, clip_one]⟩
  | a :: b :: t, hf, hlt, v, h => by
    have ih := run_ok (b :: t) hf.2 (fun p hp => hlt p (by simp [hp]))
    have hfo := hf.1
    simp only [fol, Bool.and_eq_true, beq_iff_eq] at hfo
    rw [clip_cons]
    have hsh : ∀ v, atR (a :: b :: t) (v + 1) = atR (b :: t) v := fun v => by
      unfold atR
      rw [List.getElem?_cons_succ, clip_cons]
    rw [hsh]
    cases v with
    | zero =>
      obtain ⟨h1, h2, h3⟩ := ih 0 (by simp)
      have ha := hlt a (by simp)
      simp only [List.getElem_cons_zero] at h1 ⊢
      refine ⟨by omega, trivial, ?_⟩
      rw [hfo.2]; rfl
    | succ v =>
      obtain ⟨h1, h2, h3⟩ := ih v (by simpa using h)
      simp only [List.getElem_cons_succ]
      refine ⟨h1, ?_, h3⟩
      rw [h2, hfo.1]
      cases t with
      | nil => rfl
      | cons c t => rw [clip_cons]
theorem clip_inn {r : List Pp'} (h : r ≠ []) : (clipR r).inn = atR r 0 := by
  cases r with
  | nil => exact absurd rfl h
  | cons a t =>
    cases t with
    | nil => rfl
    | cons b t => rw [clip_cons]; rfl
theorem at_end (r : List Pp') : atR r r.length = (clipR r).out := by simp [atR]
theorem flat_at : ∀ (rs : List (List Pp')) (u : Nat) (hu : u < rs.length) (v : Nat) (hv : v < rs[u].length), rs.flatten[(rs.take u).flatten.length + v]? = some rs[u][v]
  | [], u, hu, _, _ => absurd hu (by simp)
  | r :: t, 0, _, v, hv => by
    simp only [List.getElem_cons_zero] at hv ⊢
    simp only [List.take_zero, List.flatten_nil, List.length_nil, Nat.zero_add, List.flatten_cons]
    rw [List.getElem?_append_left hv, List.getElem?_eq_getElem hv]
  | r :: t, u + 1, hu, v, hv => by
    simp only [List.getElem_cons_succ] at hv ⊢
    have ih := flat_at t u (by simpa using hu) v hv
    simp only [List.take_succ_cons, List.flatten_cons, List.length_append]
    rw [List.getElem?_append_right (by omega), show r.length + (t.take u).flatten.length + v - r.length = (t.take u).flatten.length + v by omega]
    exact ih
theorem flat_step (rs : List (List Pp')) (u : Nat) (hu : u < rs.length) : (rs.take (u + 1)).flatten.length = (rs.take u).flatten.length + rs[u].length := by
  rw [List.take_add_one, List.getElem?_eq_getElem hu]
  simp only [Option.toList, List.flatten_append, List.flatten_cons, List.flatten_nil, List.append_nil, List.length_append]
theorem idx_cov {l : List Cv} {p : Int} {c : Cv} (h : l.find? (fun x => x.para == p) = some c) : ∃ z, ∃ (hz : z < l.length), idxP (fun x : Cv => x.para == p && x.inn == c.inn) l = z ∧ l[z] = c := by
  rw [List.find?_eq_some_iff_getElem] at h
  obtain ⟨h1, z, hz, hze, hzm⟩ := h
  refine ⟨z, hz, idxP_some hz ?_ fun j hj => ?_, hze⟩
  · rw [hze]; simp only [h1, Bool.true_and]; simp
  · have := hzm j hj
    simp only [Bool.not_eq_true'] at this
    simp only [this, Bool.false_and]
theorem cov_lt {x : Sr} {r : Rl} {l : List Tk} (h : TakesOk x r l) {k : Nat} {t : Tk} (ht : l[k]? = some t) {c : Cv} (hc : c ∈ t.covers) : c.inn < c.out := by
  have ha := h.at' k t ht
  obtain ⟨i, hi, his⟩ := (sceneIx_bd x t.scene).resolve_left (by have := ha.scene; omega)
  obtain ⟨j, hj, rfl⟩ := List.getElem_of_mem hc
  exact (ha.cov i hi his j _ (List.getElem?_eq_getElem hj)).2.2.2.1
theorem clipsA_get (rs : List (List Pp')) (u : Nat) (h : u < rs.length) : List.getD (clipsA rs) u .any = .agg [.int .i64 (clipR rs[u]).take, .int .i64 (clipR rs[u]).inn, .int .i64 (clipR rs[u]).out] := by simp [List.getD, h, clipsA, clpA]
set_option maxHeartbeats 8000000 in
theorem shows_pc (x : Sr) (r : Rl) (l : List Tk) (hok : TakesOk x r l) (hgd : ∀ t ∈ l, t.good = true) (hcl : ∀ t ∈ l, t.covers.length ≤ 60) (hll : l.length ≤ 15) (no : List UInt8) (ks : List Nat) (hkl : ks.length ≤ 60) (ps : List Pp') (hpl : ps.length = ks.length)
    (hal : ∀ m q, (h : m < ks.length) → ps[m]? = some q → q ∈ partsU l no (ks[m] : Nat) l.length) (rs : List (List Pp')) (hrs : RunsOk rs ps) :
    Pc Tryz.prog 12 [.fz 9 (l.map tkA), .fz 3 (clipsA rs), .fz 1 (natA ks), .str no] (· = .bool true) := by
  have hps : ∀ p ∈ ps, p.cv.inn < p.cv.out := fun p hp => by
    obtain ⟨m, hm, rfl⟩ := List.getElem_of_mem hp
    have := hal m _ (by omega) (List.getElem?_eq_getElem hm)
    obtain ⟨_, t, ht, _, hf⟩ := partsU_mem this
    exact cov_lt hok ht (List.mem_of_find?_eq_some hf)
  have hrl := runs_len hrs
  refine pc_intro (ct_intro Tryz.func12 rfl Tryz.ntmps12 hB12 (by simp) fun h ρ w => goB (N := 70) Tryz.ntmps12 300 ?_)
  simp only [go_sem, clips_len]
  refine aloop (ι := Nat) (fun u => rs.length - u)
    (fun u => [(17, .int .i64 u), (16, .int .i64 rs.length), (15, .fz 3 (clipsA rs)), (9, .ptr 0 1 0 0), (6, .pin 1 [.fz 1 (natA ks)] 0 0), (0, .fz 9 (l.map tkA)), (3, .str no)])
    (fun u => [.arr 1 [.int .i64 ((rs.take u).flatten.length : Nat)]]) (fun u => u ≤ rs.length) 0 (by simp) ?_ ?_
  · refine Shift.weakS ?_ rfl
    simp only [wk, go_sem, clips_len]
  intro u g1 J hJ
  by_cases gu : u < rs.length
  · have du : decide ((u : Int) < (rs.length : Int)) = true := by simp; omega
    have hcg := clipsA_get rs u gu
    have hfin := hJ (u + 1) (by omega) (by omega)
    rw [flat_step rs u gu] at hfin
    have hro := hrs.run _ (List.getElem_mem gu)
    have hat := fun v hv => flat_at rs u gu v hv
    rw [hrs.flat] at hat
    have hmem : ∀ p ∈ rs[u], p ∈ ps := fun p hp => by
      rw [← hrs.flat]; exact List.mem_flatten.2 ⟨_, List.getElem_mem gu, hp⟩
    generalize (rs.take u).flatten.length = K at *
    generalize rs[u] = R at *
    have hrun := run_ok R hro.2 fun p hp => hps p (hmem p hp)
    have hci := clip_inn hro.1
    have hce := at_end R
    clear hJ
    refine goB (N := 70) Tryz.ntmps12 300 ?_
    simp only [go_sem, du, hcg, clips_len]
    repeat refine And.intro (by first | omega | rfl | (simp; done) | (simp; omega)) ?_
    refine aloop (ι := Nat) (fun v => R.length - v)
      (fun v => [(12, .ptr 2 1 0 0), (11, .ptr 1 1 0 0), (17, .int .i64 u), (16, .int .i64 rs.length), (15, .fz 3 (clipsA rs)), (9, .ptr 0 1 0 0), (6, .pin 1 [.fz 1 (natA ks)] 0 0), (0, .fz 9 (l.map tkA)), (3, .str no)])
      (fun v => [.arr 1 [.int .i64 ((K + v : Nat))], .arr 3 [.agg [.int .i64 (clipR R).take, .int .i64 (clipR R).inn, .int .i64 (clipR R).out]], .arr 1 [.int .i64 (atR R v)]]) (fun v => v ≤ R.length) 0 (by simp) ?_ ?_
    · refine Shift.weakS ?_ ?_
      · simp only [wk, go_sem]
      · rw [hci, Nat.add_zero]
    intro v f1 J2 hJ2
    by_cases gv : v < R.length
    · obtain ⟨z1, z2, z3⟩ := hrun v gv
      have hatv : atR R v = R[v].cv.inn := by simp [atR, gv]
      have hpv := hat v gv
      have hKk : K + v < ks.length := by
        have := (List.getElem?_eq_some_iff.1 hpv).1
        omega
      have hmq := hal (K + v) _ hKk hpv
      have hfin2 := hJ2 (v + 1) (by omega) (by omega)
      rw [← z3] at hfin2
      rw [hatv]
      rw [← z2] at hfin2 ⊢
      have dv : decide (R[v].cv.inn < (clipR R).out) = true := by simpa using z1
      generalize R[v] = q at *
      clear hJ2
      obtain ⟨hq1, t, ht, hts, htf⟩ := partsU_mem hmq
      obtain ⟨htl, hte⟩ := List.getElem?_eq_some_iff.1 ht
      have htg := tkA_get l q.take htl
      rw [hte] at htg
      have htm : t ∈ l := hte ▸ List.getElem_mem htl
      have hgo := hgd t htm
      have hcv := hcl t htm
      obtain ⟨z, hz, hzi, hze⟩ := idx_cov htf
      have hzg := cvA_get t.covers z hz
      rw [hze] at hzg
      have hsn : (t.scene != no) = false := by simp [bne, hts]
      have dk : (((K + v : Nat) : Int) == (ks.length : Int)) = false := by simp; omega
      have dz : decide ((z : Int) < 0) = false := by simp
      have hidx := idxCv_pc 44 [.pin 1 [.fz 1 (natA ks)] 0 0, .pin 1 [.int .i64 (K + v : Nat)] 0 0, .pin 1 [.int .i64 q.cv.inn] 0 0] rfl (fun c => c.para == (ks[K + v] : Nat) && c.inn == q.cv.inn) t.covers (by omega) (fun c _ => showsFn_pc c ks (K + v) hKk q.cv.inn)
      rw [hzi] at hidx
      have hbor := Ct.borrowF (P := Tryz.prog) (f := 43) (args := [.fz 4 (t.covers.map cvA), .fn (.func 44) [.pin 1 [.fz 1 (natA ks)] 0 0, .ptr 0 1 0 0, .ptr 2 1 0 0]]) 1
        [.arr 1 [.int .i64 (K + v : Nat)], .arr 3 [.agg [.int .i64 q.take, .int .i64 (clipR R).inn, .int .i64 (clipR R).out]], .arr 1 [.int .i64 q.cv.inn], .arr 9 [.agg [.str t.scene, .str t.setup, .int .i64 t.number, .str t.roll, .str t.sound, .int .i64 t.inn, .int .i64 t.out, .bool t.good, .fz 4 (t.covers.map cvA)]]] hidx (by rintro r rfl; rfl)
      refine goB (N := 70) Tryz.ntmps12 300 ?_
      simp only [go_sem, dv, dk, htg, natA_len, List.length_map]
      repeat refine And.intro (by first | omega | rfl | (simp; done) | (simp; omega)) ?_
      refine acall (hbor) (N := 70) Tryz.ntmps12 rfl ?_
      rintro _ _ ⟨rfl, rfl⟩
      refine goB (N := 70) Tryz.ntmps12 300 ?_
      simp only [go_sem, dz, hgo, hsn]
      repeat refine And.intro (by first | omega | rfl | (simp; done) | (simp; omega)) ?_
      refine adrawO [(8, 2), (9, 0)] [(6, 9)] [] mixed (by decide) (N := 70) Tryz.ntmps12 (by decide) 100 ?_
      simp only [go_sem, hzg, Go.Av.sck, Go.Av.stoD, List.length_map]
      repeat refine And.intro (by first | omega | rfl | (simp; done) | (simp; omega)) ?_
      refine goB (N := 70) Tryz.ntmps12 300 ?_
      simp only [go_sem]
      rw [show ((K + v : Nat) : Int) + 1 = ((K + (v + 1) : Nat) : Int) by omega]
      refine ainv hfin2 ?_
      refine Shift.low 3 (by simp) (by simp) ?_ ?_
      · simp only [List.take_succ_cons, List.take_zero, List.all_cons, List.all_nil, lowB, flat, cellsOf, lowC, Av.frozen, List.append_nil, List.cons_append, List.nil_append, Bool.and_self]
      · simp only [wkl, lowV, lowC, Av.get, go_sem]
    · have : v = R.length := by omega
      subst this
      rw [hce]
      have dv : decide ((clipR R).out < (clipR R).out) = false := by simp
      have hnn : ((clipR R).out != (clipR R).out) = false := by simp
      clear hJ2
      refine goB (N := 70) Tryz.ntmps12 300 ?_
      simp only [go_sem, dv, hnn]
      repeat refine And.intro (by first | omega | rfl | (simp; done) | (simp; omega)) ?_
      rw [show (u : Int) + 1 = ((u + 1 : Nat) : Int) by omega]
      refine ainv hfin ?_
      refine Shift.low 1 (by simp) (by simp) ?_ ?_
      · simp only [List.take_succ_cons, List.take_zero, List.all_cons, List.all_nil, lowB, flat, cellsOf, lowC, Av.frozen, List.append_nil, List.cons_append, List.nil_append, Bool.and_self]
      · simp only [wkl, lowV, lowC, Av.get, go_sem]
  · have hu : u = rs.length := by omega
    have du : decide ((u : Int) < (rs.length : Int)) = false := by simp; omega
    have hK : (rs.take u).flatten.length = ks.length := by
      rw [List.take_of_length_le (by omega), hrs.flat, hpl]
    rw [hK]
    clear hJ
    refine goB (N := 70) Tryz.ntmps12 300 ?_
    simp only [go_sem, du, natA_len]
    exact aret [8] rfl ⟨by simp [resV, Av.get, Av.put], rfl⟩
end Go.Proofs.YtkfpiadgjbhcpaaGreatDoor
/- A code. Own work of this seat. -/
set_option maxRecDepth 100000
set_option linter.unusedSimpArgs false
set_option linter.unusedVariables false
namespace Go.Proofs.YtkfpiadgjbhcpaaGreatDoor
open Go Go.Av Go.RowKit

def dg (n : Int) : UInt8 := UInt8.ofNat (48 + n).toNat
def two (n : Int) : List UInt8 := [dg (n / 10), dg (n % 10)]
theorem two_len (n : Int) : (two n).length = 2 := rfl
theorem two_pc (n : Int) (h1 : 0 ≤ n) (h2 : n ≤ 99) : Pc Tryz.prog 116 [.int .i64 n] (· = .str (two n)) := by
  refine pc_intro (ct_intro Tryz.func116 rfl Tryz.ntmps116 hB116 (by simp) fun h ρ w => goB (N := 13) Tryz.ntmps116 300 ?_)
  simp only [go_sem]
  repeat refine And.intro (by first | omega | rfl | (simp; done) | (simp; omega)) ?_
  exact aret [2] rfl ⟨rfl, rfl⟩
theorem codeD_pc : Pc Tryz.prog 63 [.int .i64 4, .int .i64 1800] (· = .str [48, 48, 58, 48, 49, 58, 48, 48, 59, 48, 50]) := by
  refine pc_intro (ct_intro Tryz.func63 rfl Tryz.ntmps63 hB63 (by simp) fun h ρ w => goB (N := 57) Tryz.ntmps63 300 ?_)
  simp only [go_sem]
  repeat refine And.intro (by first | omega | rfl | (simp; done) | (simp; omega)) ?_
  refine pcall1 (counted_pc 4 (by decide)) rfl (N := 57) Tryz.ntmps63 rfl (goB (N := 57) Tryz.ntmps63 300 ?_)
  simp only [go_sem, cntR]
  repeat refine And.intro (by first | omega | rfl | (simp; done) | (simp; omega)) ?_
  refine adraw [.str (two 0), .str (two 1), .str (two 0), .str (two 2)] mixed (by decide) (N := 57) Tryz.ntmps63 (by decide) 100 ?_
  simp only [go_sem, two_len]
  repeat refine And.intro (by first | omega | rfl | exact (two_pc 0 (by decide) (by decide)).at | exact (two_pc 1 (by decide) (by decide)).at | exact (two_pc 2 (by decide) (by decide)).at | (simp; done) | (simp; omega)) ?_
  refine goB (N := 57) Tryz.ntmps63 300 ?_
  simp only [go_sem]
  exact aret [4] rfl ⟨by simp [resV, Av.get, Av.put]; decide, rfl⟩
theorem codeX_pc : Pc Tryz.prog 47 [.int .i64 4, .int .i64 1800] (· = .tup [.str [48, 48, 58, 48, 49, 58, 48, 48, 59, 48, 50], .int .i64 0]) := by
  refine pc_intro (ct_intro Tryz.func47 rfl Tryz.ntmps47 hB47 (by simp) fun h ρ w => goB (N := 22) Tryz.ntmps47 300 ?_)
  simp only [go_sem]
  refine pcall1 (isRate_pc 4 (by decide)) rfl (N := 22) Tryz.ntmps47 rfl (goB (N := 22) Tryz.ntmps47 300 ?_)
  simp only [go_sem]
  refine pcall1 (frames_pc 4 (by decide)) rfl (N := 22) Tryz.ntmps47 rfl (goB (N := 22) Tryz.ntmps47 300 ?_)
  simp only [go_sem, dayR]
  refine pcall1 (codeD_pc) rfl (N := 22) Tryz.ntmps47 rfl (goB (N := 22) Tryz.ntmps47 300 ?_)
  simp only [go_sem]
  exact aret [4, 5] rfl ⟨rfl, rfl⟩
theorem takes_pc : Pc Tryz.prog 14 [] (· = .bool true) := by
  refine pc_intro (ct_intro Tryz.func14 rfl Tryz.ntmps14 hB14 (by simp) fun h ρ w => goB (N := 13) Tryz.ntmps14 300 ?_)
  simp only [go_sem]
  refine pcall1 (codeX_pc) rfl (N := 13) Tryz.ntmps14 rfl (goB (N := 13) Tryz.ntmps14 300 ?_)
  simp only [go_sem]
  exact aret [0] rfl ⟨rfl, rfl⟩
end Go.Proofs.YtkfpiadgjbhcpaaGreatDoor
