/- Contains, Clone, papers compared. Own work of this seat. -/
import Derived.Test.YtkomcdohejibmaaGreatDoorO40
import Derived.Test.YtkomcdohejibmaaGreatDoorO23
import Derived.Test.YtkomcdohejibmaaGreatDoorO19
import Derived.Test.YtkomcdohejibmaaGreatDoorO22
set_option maxRecDepth 100000
set_option linter.unusedSimpArgs false
set_option linter.unusedVariables false
namespace Go.Proofs.YtkomcdohejibmaaGreatDoor
open Go Go.Av Go.RowKit

theorem dstr_get {l : List (List UInt8)} {i : Nat} (h : i < l.length) : List.getD (List.map AV.str l) i .any = .str l[i] := by simp [List.getD, h]
theorem dindex_pc (l : List (List UInt8)) (x : List UInt8) (hl : l.length < 1000000) : Pc Tryz.prog 85 [.fz 1 (l.map .str), .str x] (· = .int .i64 (idxP (fun y => x == y) l)) := by
  refine pc_intro (ct_intro Tryz.func85 rfl Tryz.ntmps85 hB85 (by simp) fun h ρ w => goB (N := 19) Tryz.ntmps85 300 ?_)
  simp only [go_sem]
  refine aloop (ι := Nat) (fun i => l.length - i) (fun i => [(8, .int .i64 i), (7, .int .i64 l.length), (1, .str x), (0, .fz 1 (l.map .str))]) (fun _ => []) (fun i => i ≤ l.length ∧ ∀ j < i, ∀ h : j < l.length, (x == l[j]) = false) 0 ⟨by simp, fun j h => absurd h (by omega)⟩ ?_ ?_
  · refine Shift.weak ?_
    simp only [wk, go_sem, List.length_map]
  rintro i ⟨g1, g2⟩ J hJ
  by_cases gi : i < l.length
  · have di : decide ((i : Int) < (l.length : Int)) = true := by simp; omega
    have hx := dstr_get gi
    refine goB (N := 19) Tryz.ntmps85 300 ?_
    cases he : x == l[i] with
    | true =>
      have hidx : idxP (fun y => x == y) l = (i : Int) := by
        unfold idxP
        rw [List.findIdx?_eq_some_iff_getElem.2 ⟨gi, he, fun j hj => by simp [g2 j hj (by omega)]⟩]
      simp only [go_sem, di, hx, he, List.length_map]
      repeat refine And.intro (by first | omega | rfl | (simp; omega)) ?_
      exact aret [4] rfl ⟨by simp [resV, Av.get, Av.put, hidx], rfl⟩
    | false =>
      have hfin := hJ (i + 1) ⟨by omega, fun j hj h => by
        rcases Nat.lt_or_ge j i with hh | hh
        · exact g2 j hh h
        · have : j = i := by omega
          subst this; exact he⟩ (by omega)
      simp only [go_sem, di, hx, he, List.length_map]
      repeat refine And.intro (by first | omega | rfl | (simp; omega)) ?_
      rw [show (i : Int) + 1 = ((i + 1 : Nat) : Int) by omega]
      refine ainv hfin (Shift.weak ?_)
      simp only [wk, go_sem]
  · have di : decide ((i : Int) < (l.length : Int)) = false := by simp; omega
    have hidx : idxP (fun y => x == y) l = -1 := by
      unfold idxP
      rw [List.findIdx?_eq_none_iff.2 fun y hy => by
        obtain ⟨j, hj, rfl⟩ := List.getElem_of_mem hy
        exact g2 j (by omega) hj]
    refine goB (N := 19) Tryz.ntmps85 300 ?_
    simp only [go_sem, di]
    exact aret [4] rfl ⟨by rw [hidx]; rfl, rfl⟩
theorem dcontains_pc (l : List (List UInt8)) (x : List UInt8) (hl : l.length < 1000000) : Pc Tryz.prog 33 [.fz 1 (l.map .str), .str x] (· = .bool (decide (x ∈ l))) := by
  have hi := dindex_pc l x hl
  have hb : decide (idxP (fun y => x == y) l ≥ 0) = decide (x ∈ l) := by
    rcases idxP_find (p := fun y => x == y) (l := l) with ⟨h1, h2⟩ | ⟨i, hi, h1, h2⟩
    · rw [h1]
      have : x ∉ l := fun hm => by
        rw [List.find?_eq_none] at h2
        have := h2 x hm
        simp at this
      simp [this]
    · rw [h1]
      have h3 := List.find?_some h2
      simp only [beq_iff_eq] at h3
      have : x ∈ l := by rw [h3]; exact List.getElem_mem hi
      simp [this]
  rw [← hb]
  refine pc_intro (ct_intro Tryz.func33 rfl Tryz.ntmps33 hB33 (by simp) fun h ρ w => goB (N := 9) Tryz.ntmps33 300 ?_)
  simp only [go_sem]
  refine pcall1 (hi) rfl (N := 9) Tryz.ntmps33 rfl (goB (N := 9) Tryz.ntmps33 300 ?_)
  simp only [go_sem]
  exact aret [4] rfl ⟨rfl, rfl⟩
theorem rmayFn_pc (d : De) : Pc Tryz.prog 160 [deA d] (· = .bool (d.kind == 4)) := by
  simp only [deA]
  refine pc_intro (ct_intro Tryz.func160 rfl Tryz.ntmps160 hB160 (by simp) fun h ρ w => goB (N := 6) Tryz.ntmps160 300 ?_)
  simp only [go_sem]
  exact aret [2] rfl ⟨rfl, rfl⟩
theorem mayFn_pc (d : De) : Pc Tryz.prog 89 [deA d] (· = .bool (d.kind == 4)) := by
  simp only [deA]
  refine pc_intro (ct_intro Tryz.func89 rfl Tryz.ntmps89 hB89 (by simp) fun h ρ w => goB (N := 6) Tryz.ntmps89 300 ?_)
  simp only [go_sem]
  exact aret [2] rfl ⟨rfl, rfl⟩
/-- papers -/
structure Pp where
  name : List UInt8
  vers : List St
def ppA (p : Pp) : AV := .agg [.str p.name, .fz 2 (p.vers.map stA)]
theorem ppA_get (l : List Pp) (i : Nat) (h : i < l.length) : (l.map ppA).getD i .any = .agg [.str l[i].name, .fz 2 (l[i].vers.map stA)] := by simp [List.getD, h, ppA]
theorem samePapFn_pc (a b : Pp) (ha : a.vers.length < 1000000) (hb : b.vers.length < 1000000) : Pc Tryz.prog 55 [ppA a, ppA b] (· = .bool (a.name == b.name && decide (a.vers = b.vers))) := by
  have hs := eqSts_pc a.vers b.vers ha hb
  simp only [ppA]
  refine pc_intro (ct_intro Tryz.func55 rfl Tryz.ntmps55 hB55 (by simp) fun h ρ w => goB (N := 17) Tryz.ntmps55 300 ?_)
  cases h1 : a.name == b.name with
  | false =>
    simp only [go_sem, h1]
    exact aret [4] rfl ⟨rfl, rfl⟩
  | true =>
    simp only [go_sem, h1]
    refine pcall1 (hs) rfl (N := 17) Tryz.ntmps55 rfl (goB (N := 17) Tryz.ntmps55 300 ?_)
    simp only [go_sem]
    exact aret [4] rfl ⟨rfl, rfl⟩
end Go.Proofs.YtkomcdohejibmaaGreatDoor
/- Statements whose order is open, in which an append may pass readers of other blocks. Own work of this seat. -/
set_option linter.unusedSimpArgs false
set_option linter.unusedVariables false
set_option linter.unusedSectionVars false
namespace Go.Av
open Go Go.RowKit
variable [Tr]

def isApp : Op → Bool
  | .call c => match c.callee with
    | .builtin .append => true
    | _ => false
  | _ => false
/-- the append is written into a new block, or into this one -/
def appOk (id : Nat) (e : Env) : Op → Bool
  | .call c => match c.args.toList with
    | x :: _ => match ev e x with
      | .sl i _ _ _ => i == id
      | _ => true
    | [] => true
  | _ => true
def cka (id : Nat) (i : Nat) (e : Env) (s : List Blk) (o : Oper) : Prop :=
  (bif isApp o.op then appOk id e o.op = true else True) ∧ (bif reader o.op && !blind o.op then opOk s.length id e o.op = true else True)

theorem xapp_sto {P : Program} {sto s3 : List Blk} {dst src w : AV} {tx td : Option TypeDesc} {p : Prop} (h : xapp P sto dst src tx td = .sto p w s3) :
    (∃ b, s3 = sto ++ [b]) ∨ ∃ i o l c b, dst = .sl i o l c ∧ s3 = sto.set i b := by
  have hB : ∀ {id off len cap sz bytes z L q b}, xappB sto id off len cap sz bytes z L q b = .sto p w s3 → ∃ b', s3 = sto.set id b' := by
    intro id off len cap sz bytes z L q b h
    unfold xappB at h
    split at h
    · cases hc : (len == cap) <;> rw [hc] at h <;> simp only [cond_true, cond_false, Res.sto.injEq] at h <;> exact ⟨_, h.2.2.symm⟩
    · cases h
  unfold xapp at h
  split at h
  · cases h1 : notInt tx <;> rw [h1] at h <;> simp only [cond_true, cond_false] at h
    · cases h2 : isI tx <;> rw [h2] at h <;> simp only [cond_true, cond_false] at h
      · cases h
      · unfold xappZ at h
        split at h
        · simp only [Res.sto.injEq] at h
          exact .inl ⟨_, h.2.2.symm⟩
        · cases h
    · unfold xappS at h
      split at h
      · unfold xappD at h
        split at h
        · simp only [Res.sto.injEq] at h
          exact .inl ⟨_, h.2.2.symm⟩
        · obtain ⟨b', hb⟩ := hB h
          exact .inr ⟨_, _, _, _, b', rfl, hb⟩
        · cases h
      · cases h
  · cases h
theorem Agr.refl {n id : Nat} {s : List Blk} : Agr n id s s := fun _ _ _ => rfl
theorem app_agr {c : Cx} {ops : Array Oper} {s s1 : List Blk} {o : Oper} {cv v : AV} {e : Env} {id : Nat} (ha : isApp o.op = true) (hk : appOk id e o.op = true) (h : Does c ops s o cv e v s1) : Agr s.length id s s1 ∧ s.length ≤ s1.length := by
  have hd : DoesOp c s o cv e v s1 → Agr s.length id s s1 ∧ s.length ≤ s1.length := by
    intro h
    unfold DoesOp at h
    split at h <;> rename_i hq
    · rw [h.2]; exact ⟨Agr.refl, Nat.le_refl _⟩
    · rw [h.2.2]; exact ⟨Agr.refl, Nat.le_refl _⟩
    · obtain ⟨_, _, _, rfl⟩ := h
      cases hop : o.op <;> rw [hop] at ha hk hq <;> try (exfalso; revert ha; simp [isApp]; done)
      rename_i cl
      simp only [isApp] at ha
      split at ha <;> try (cases ha; done)
      rename_i hcl
      simp only [xop, hcl] at hq
      unfold xapp2 at hq
      split at hq
      · rename_i x y t u hx hy
        simp only [appOk, hx] at hk
        rcases xapp_sto hq with ⟨b, rfl⟩ | ⟨i, o', l, cc, b, hdst, rfl⟩
        · exact ⟨Agr.push b, by simp⟩
        · rw [hdst] at hk
          have : i = id := by simpa using hk
          subst this
          exact ⟨Agr.set b, by simp⟩
      · cases hq
    · rw [h.2]; exact ⟨Agr.refl, Nat.le_refl _⟩
    · rw [h.2.2.2]; exact ⟨Agr.refl, Nat.le_refl _⟩
    · exact h.elim
  unfold Does at h
  split at h
  · exact hd h
  · split at h
    · rcases h with ⟨_, h⟩ | ⟨_, _, rfl⟩
      · exact hd h
      · exact ⟨Agr.refl, Nat.le_refl _⟩
    · exact h.elim
theorem appOk_agree {id : Nat} {e e' : Env} {op : Op} (h : ∀ x ∈ op.operands, ev e x = ev e' x) : appOk id e op = appOk id e' op := by
  unfold appOk
  cases op <;> try rfl
  rename_i c
  simp only
  cases hc : c.args.toList with
  | nil => rfl
  | cons x r =>
    have hm : x ∈ (Op.call c).operands := by
      have : x ∈ c.args := by
        rw [← Array.mem_toList_iff, hc]; simp
      simp only [Op.operands, Go.Call.operands]
      split <;> simp [this]
    simp only [h x hm]
theorem cka_agree {id i : Nat} {e e' : Env} {s s' : List Blk} {o : Oper} (h : ∀ x ∈ o.op.operands, ev e x = ev e' x) (hs : s.length ≤ s'.length) (hp : cka id i e s o) : cka id i e' s' o := by
  refine ⟨?_, ?_⟩
  · rw [← appOk_agree h]; exact hp.1
  · have h2 := hp.2
    cases hb : (reader o.op && !blind o.op) with
    | false => trivial
    | true =>
      rw [hb] at h2
      simp only [cond_true] at h2 ⊢
      rw [← opOk_agree h]
      exact opOk_mono hs h2

def ChA (c : Cx) (ops : Array Oper) (id : Nat) (K : Env → List Blk → Prop) : List Nat → Env → List Blk → Prop
  | [], e, s => K e s
  | i :: r, e, s => match ops[i]? with
    | some o => cka id i e s o ∧ ∃ cv v s', Does c ops s o cv e v s' ∧ ChA c ops id K r (put e o.dst v) s'
    | none => False
def okAp (ops : List Oper) (j i : Nat) : Bool := match ops[j]?, ops[i]? with
  | some oj, some oi => oj.apart ops.toArray oi && (together oj oi || (reader oj.op && isApp oi.op))
  | _, _ => false
section
variable {cx : Cx} {ops : Array Oper} {K : Env → List Blk → Prop} {id : Nat}
theorem ChA.congr (hK : ∀ e e' s, Eqv e e' → K e s → K e' s) : ∀ {l : List Nat} {e e' : Env} {s : List Blk}, Eqv e e' → ChA cx ops id K l e s → ChA cx ops id K l e' s
  | [], e, e', s, h, c => hK e e' s h c
  | i :: r, e, e', s, h, c => by
    unfold ChA at c ⊢
    split at c
    · rename_i o ho
      obtain ⟨h0, cv, v, s', h1, h2⟩ := c
      exact ⟨cka_agree (fun x _ => ev_agree fun t _ => h t) (Nat.le_refl _) h0, cv, v, s', h1.agree fun t _ => h t, ChA.congr hK (h.put _ _) h2⟩
    · exact c.elim
theorem ChA.swap {opl : List Oper} (hops : ops = opl.toArray) (hK : ∀ e e' s, Eqv e e' → K e s → K e' s) {i j : Nat} {r : List Nat} (hok : okAp opl j i = true) {e : Env} {s : List Blk} (c : ChA cx ops id K (j :: i :: r) e s) :
    ChA cx ops id K (i :: j :: r) e s := by
  unfold okAp at hok
  split at hok
  rotate_left
  · cases hok
  rename_i oj oi hj' hi'
  have hj : ops[j]? = some oj := by rw [hops]; simpa using hj'
  have hi : ops[i]? = some oi := by rw [hops]; simpa using hi'
  simp only [Bool.and_eq_true, Bool.or_eq_true] at hok
  obtain ⟨ha, hok⟩ := hok
  rw [← hops] at ha
  obtain ⟨a1, a2, a3⟩ := Oper.apart_spec ha
  simp only [ChA, hj, hi] at c ⊢
  obtain ⟨pj, cv, v, s1, h1, pi, cu, u, s2, h2, h3⟩ := c
  have gi : ∀ (e : Env) (v : AV), Agree ops oi (put e oj.dst v) e := fun e v t ht => by
    rw [get_put, if_neg]; intro h; exact a1 t h ht
  have gj : ∀ (e : Env) (v : AV), Agree ops oj e (put e oi.dst v) := fun e v t ht => by
    rw [get_put, if_neg]; intro h; exact a3 t h ht
  have h2' : Does cx ops s1 oi cu e u s2 := h2.agree (gi e v)
  have h1' : ∀ {z z'}, Does cx ops z oj cv e v z' → Does cx ops z oj cv (put e oi.dst u) v z' := fun hd => hd.agree (gj e u)
  have h3' := ChA.congr hK (put_swap a2) h3
  have pi' : ∀ s', s1.length ≤ s'.length → cka id i e s' oi := fun s' hs => cka_agree (agree_ops (gi e v)) hs pi
  have pj' : ∀ s', s.length ≤ s'.length → cka id j (put e oi.dst u) s' oj := fun s' hs => cka_agree (agree_ops (gj e u)) hs pj
  have bj : blind oj.op = true → ∀ s', cka id j (put e oi.dst u) s' oj := fun hb s' => ⟨(pj' s (Nat.le_refl _)).1, by simp [hb]⟩
  have bi : blind oi.op = true → ∀ s', cka id i e s' oi := fun hb s' => ⟨(pi' s1 (Nat.le_refl _)).1, by simp [hb]⟩
  rcases hok with hok | hok
  · simp only [together, Bool.or_eq_true, Bool.and_eq_true] at hok
    rcases hok with (⟨c1, c2⟩ | c1) | c1
    · have e1 := h1.calm c1
      subst e1
      have e2 := h2.calm c2
      subst e2
      exact ⟨pi' _ (Nat.le_refl _), cu, u, _, h2', pj' _ (Nat.le_refl _), cv, v, _, h1' h1, h3'⟩
    · have e1 := h1.calm (blind_calm c1)
      subst e1
      exact ⟨pi' _ (Nat.le_refl _), cu, u, _, h2', bj c1 _, cv, v, _, h1' (h1.blind c1), h3'⟩
    · have e2 := h2.calm (blind_calm c1)
      subst e2
      exact ⟨bi c1 _, cu, u, _, h2'.blind c1, pj' _ (Nat.le_refl _), cv, v, _, h1' h1, h3'⟩
  · obtain ⟨hr, hap⟩ := hok
    have e1 := h1.calm (reader_calm hr)
    subst e1
    have pis := pi' _ (Nat.le_refl _)
    have hk : appOk id e oi.op = true := by have := pis.1; rw [hap] at this; exact this
    obtain ⟨hag, hle⟩ := app_agr hap hk h2'
    have ok0 : blind oj.op = false → opOk s1.length id e oj.op = true := fun hb => by have := pj.2; rw [hr, hb] at this; exact this
    exact ⟨pis, cu, u, _, h2', pj' _ hle, cv, v, _, h1' (does_reader hr ok0 hag h1).2, h3'⟩
theorem ChA.front {opl : List Oper} (hops : ops = opl.toArray) (hK : ∀ e e' s, Eqv e e' → K e s → K e' s) {i : Nat} {r : List Nat} : ∀ {l : List Nat} {e : Env} {s : List Blk}, (∀ j ∈ l, okAp opl j i = true) →
    ChA cx ops id K (l ++ i :: r) e s → ChA cx ops id K (i :: (l ++ r)) e s
  | [], _, _, _, c => c
  | j :: l, e, s, h, c => by
    refine ChA.swap hops hK (h j (by simp)) ?_
    simp only [List.cons_append, ChA] at c ⊢
    split at c
    · rename_i o ho
      obtain ⟨h0, cv, v, s', h1, h2⟩ := c
      exact ⟨h0, cv, v, s', h1, ChA.front hops hK (fun k hk => h k (by simp [hk])) h2⟩
    · exact c.elim
end
section
variable {c : Cx} {k : List It} {e : Env} {s : List Blk}
theorem chA_of_dxg {all : List Oper} {id : Nat} : ∀ {r : List Oper} {m n : Nat} {cs : List AV} {e : Env} {s : List Blk}, (∀ (j : Nat), r[j]? = all[m + j]?) → all.length = m + r.length → dxg c all (cka id) k n r cs e s → ChA c all.toArray id (fun e s => AWp c k e s) (List.range' m r.length) e s
  | [], m, n, cs, e, s, _, _, h => by
    rw [dxg] at h
    exact h
  | o :: r, m, n, cs, e, s, hr, hlen, h => by
    obtain ⟨h0, cv, v, n', cs', s', h1, h2⟩ := dxg_step h
    have hat : all.toArray[m]? = some o := by have := hr 0; simpa using this.symm
    have hix : rix all (o :: r) = m := by unfold rix; omega
    rw [hix] at h0
    simp only [List.length_cons, List.range'_succ, ChA, hat]
    exact ⟨h0, cv, v, s', h1, chA_of_dxg (fun j => by have := hr (j + 1); simpa [Nat.add_assoc, Nat.add_comm 1 j] using this) (by simp at hlen; omega) h2⟩
/-- A STATEMENT WHOSE ORDER IS OPEN, with an append into a new block or into the block 'bid'. -/
theorem adrawA (bid : Nat) (cs : List AV) {id : Nat} {ops : List Oper} (hm : c.P.follows .mixedOrders = true) (hok : drawOkG (okAp ops) ops = true) {N : Nat} (hN : c.fn.ntmps = N) (hdst : ops.all (fun o => dOk N o.dst) = true) (n : Nat)
    (h : dxg c ops (cka bid) k n ops cs e s) : AWp c (.code (.region id ops.toArray true) :: k) e s := by
  intro a w hsim
  have hch := chA_of_dxg (m := 0) (by intro j; simp) (by simp) h
  rw [← List.range_eq_range'] at hch
  refine wp_region_any hm ?_
  have hsim' : Sim c e s a { w with drawn := w.drawn + 1 } := by
    obtain ⟨hh, ρ, hmm, hl, he, hdf, hsz, hX⟩ := hsim
    have sm : Same w { w with drawn := w.drawn + 1 } := Same.drew w
    exact ⟨hh, ρ, hmm.same sm, hl.trans (Later.same sm), he, hdf, hsz, c.hx.later hmm (Later.same sm) hX⟩
  have hd : ∀ o ∈ ops, dOk c.fn.ntmps o.dst = true := fun o ho => by rw [hN]; exact (List.all_eq_true.1 hdst) o ho
  refine any_of_gen (okp := okAp ops) (ChA c ops.toArray bid (fun e s => AWp c k e s)) hok (fun e s x => x) (fun l i r e s hj x => ChA.front rfl AWp.K hj x)
    (fun i o r e s a w Kc ho x hs hK => ?_)
    ops.length (Array.replicate ops.length false) (List.range ops.length) e s a _ (by simp) ?_ (by simp) ?_ hch hsim'
  · have ho' : ops.toArray[i]? = some o := by simpa using ho
    simp only [ChA, ho'] at x
    obtain ⟨_, cv, v, s', h1, h2⟩ := x
    exact does_wp hs (hd o (List.mem_of_getElem? ho)) h1 fun a w hs' => hK _ _ a w h2 hs'
  · symm
    rw [List.filter_eq_self]
    intro i hi
    simp at hi
    simp [hi]
  · intro i hi j hj
    exfalso
    by_cases h1 : i < ops.length
    · simp [h1] at hi
    · unfold waits at hj
      have : ops[i]? = none := by simp; omega
      simp [this] at hj
end
end Go.Av
/- MayOf (begun). Own work of this seat. -/
set_option maxRecDepth 100000
set_option linter.unusedSimpArgs false
set_option linter.unusedVariables false
namespace Go.Proofs.YtkomcdohejibmaaGreatDoor
open Go Go.Av Go.RowKit

/-- a group of deeds: whose, in which block -/
structure Gr where
  key : List UInt8
  at' : Nat
  ds : List De
def gM (gs : List Gr) : List (AV × AV) := gs.map fun g => (.str g.key, .sl (g.at' + 1) 0 g.ds.length g.ds.length)
structure GOk (l : List De) (n : Nat) (gs : List Gr) (S : List Blk) : Prop where
  blk : ∀ g ∈ gs, S[g.at']? = some (.arr 7 (g.ds.map deA))
  sub : ∀ g ∈ gs, ∀ d ∈ g.ds, d ∈ l
  len : ∀ g ∈ gs, g.ds.length ≤ n
  ne : gs.Pairwise fun x y => x.at' ≠ y.at'
theorem gM_find (k : List UInt8) : ∀ (gs : List Gr) (n : Nat), mfind .string (.str k) (gM gs) n = some none ∨ ∃ i g, mfind .string (.str k) (gM gs) n = some (some (n + i, .sl (g.at' + 1) 0 g.ds.length g.ds.length)) ∧ gs[i]? = some g ∧ g.key = k
  | [], n => .inl rfl
  | g :: r, n => by
    simp only [gM, List.map_cons, mfind, keyEq]
    cases hb : k == g.key with
    | true =>
      refine .inr ⟨0, g, by simp, by simp, ?_⟩
      have : k = g.key := by simpa using hb
      exact this.symm
    | false =>
      rcases gM_find k r (n + 1) with h | ⟨i, g', h1, h2, h3⟩
      · exact .inl h
      · refine .inr ⟨i + 1, g', ?_, by simpa using h2, h3⟩
        simp only
        rw [show n + (i + 1) = n + 1 + i by omega]
        exact h1
end Go.Proofs.YtkomcdohejibmaaGreatDoor
/- MayOf's first loop (begun). Own work of this seat. -/
set_option maxRecDepth 100000
set_option linter.unusedSimpArgs false
set_option linter.unusedVariables false
namespace Go.Proofs.YtkomcdohejibmaaGreatDoor
open Go Go.Av Go.RowKit

theorem GOk.lt {l : List De} {n : Nat} {gs : List Gr} {S : List Blk} (h : GOk l n gs S) {g : Gr} (hg : g ∈ gs) : g.at' < S.length := (List.getElem?_eq_some_iff.1 (h.blk g hg)).1
theorem GOk.weak {l : List De} {n : Nat} {gs : List Gr} {S : List Blk} (h : GOk l n gs S) (x : Blk) : GOk l (n + 1) gs (S ++ [x]) :=
  ⟨fun g hg => by rw [List.getElem?_append_left (h.lt hg)]; exact h.blk g hg, h.sub, fun g hg => Nat.le_succ_of_le (h.len g hg), h.ne⟩
theorem GOk.push {l : List De} {n : Nat} {gs : List Gr} {S : List Blk} (h : GOk l n gs S) (x : Blk) (k : List UInt8) {d : De} (hd : d ∈ l) : GOk l (n + 1) (gs ++ [⟨k, S.length + 1, [d]⟩]) (S ++ [x] ++ [.arr 7 [deA d]]) := by
  refine ⟨fun g hg => ?_, fun g hg => ?_, fun g hg => ?_, ?_⟩
  · rcases List.mem_append.1 hg with hg | hg
    · rw [List.getElem?_append_left (by have := h.lt hg; simp; omega), List.getElem?_append_left (h.lt hg)]; exact h.blk g hg
    · rw [List.mem_singleton.1 hg]; simp
  · rcases List.mem_append.1 hg with hg | hg
    · exact h.sub g hg
    · rw [List.mem_singleton.1 hg]; intro y hy; rw [List.mem_singleton.1 hy]; exact hd
  · rcases List.mem_append.1 hg with hg | hg
    · exact Nat.le_succ_of_le (h.len g hg)
    · rw [List.mem_singleton.1 hg]; simp
  · rw [List.pairwise_append]
    exact ⟨h.ne, List.pairwise_singleton .., fun a ha b hb => by rw [List.mem_singleton.1 hb]; have := h.lt ha; simp only; omega⟩
theorem GOk.put {l : List De} {n : Nat} {gs : List Gr} {S : List Blk} (h : GOk l n gs S) (x : Blk) {i : Nat} {g : Gr} (hi : gs[i]? = some g) {d : De} (hd : d ∈ l) :
    GOk l (n + 1) (gs.set i ⟨g.key, g.at', g.ds ++ [d]⟩) ((S ++ [x]).set g.at' (.arr 7 ((g.ds ++ [d]).map deA))) := by
  obtain ⟨hil, hgi⟩ := List.getElem?_eq_some_iff.1 hi
  have hgm : g ∈ gs := List.mem_of_getElem? hi
  have key : ∀ y ∈ gs.set i ⟨g.key, g.at', g.ds ++ [d]⟩, y = ⟨g.key, g.at', g.ds ++ [d]⟩ ∨ (y ∈ gs ∧ y.at' ≠ g.at') := by
    intro y hy
    obtain ⟨j, hj, rfl⟩ := List.getElem_of_mem hy
    rw [List.length_set] at hj
    by_cases hij : j = i
    · subst hij; left; simp
    · right
      rw [List.getElem_set_ne (Ne.symm hij)]
      refine ⟨List.getElem_mem _, ?_⟩
      rcases Nat.lt_or_gt_of_ne hij with hlt | hlt
      · have hx := List.pairwise_iff_getElem.1 h.ne j i hj hil hlt
        rw [hgi] at hx
        exact hx
      · have hx := List.pairwise_iff_getElem.1 h.ne i j hil hj hlt
        rw [hgi] at hx
        exact Ne.symm hx
  refine ⟨fun y hy => ?_, fun y hy => ?_, fun y hy => ?_, ?_⟩
  · rcases key y hy with rfl | ⟨h1, h2⟩
    · simp only
      rw [List.getElem?_set_self (by have := h.lt hgm; simp; omega)]
    · rw [List.getElem?_set_ne (Ne.symm h2), List.getElem?_append_left (h.lt h1)]
      exact h.blk y h1
  · rcases key y hy with rfl | ⟨h1, _⟩
    · intro z hz
      rcases List.mem_append.1 hz with hz | hz
      · exact h.sub g hgm z hz
      · rw [List.mem_singleton.1 hz]; exact hd
    · exact h.sub y h1
  · rcases key y hy with rfl | ⟨h1, _⟩
    · have := h.len g hgm; simp; omega
    · exact Nat.le_succ_of_le (h.len y h1)
  · rw [List.pairwise_iff_getElem]
    intro a b ha hb hab
    rw [List.length_set] at ha hb
    have hat : ∀ (t : Nat) (ht : t < gs.length), ((gs.set i ⟨g.key, g.at', g.ds ++ [d]⟩)[t]'(by simpa using ht)).at' = gs[t].at' := by
      intro t ht
      by_cases hti : t = i
      · subst hti; simp [hgi]
      · rw [List.getElem_set_ne (Ne.symm hti)]
    rw [hat a ha, hat b hb]
    exact List.pairwise_iff_getElem.1 h.ne a b ha hb hab
theorem gM_push (gs : List Gr) (g : Gr) : gM gs ++ [(.str g.key, .sl (g.at' + 1) 0 g.ds.length g.ds.length)] = gM (gs ++ [g]) := by simp [gM]
theorem gM_set (gs : List Gr) (i : Nat) (g : Gr) : (gM gs).set i (.str g.key, .sl (g.at' + 1) 0 g.ds.length g.ds.length) = gM (gs.set i g) := by
  unfold gM; rw [List.map_set]
end Go.Proofs.YtkomcdohejibmaaGreatDoor
/- Groups are frozen. Own work of this seat. -/
set_option maxRecDepth 100000
set_option linter.unusedSimpArgs false
set_option linter.unusedVariables false
namespace Go.Proofs.YtkomcdohejibmaaGreatDoor
open Go Go.Av Go.RowKit

def gF (gs : List Gr) : List (AV × AV) := gs.map fun g => (.str g.key, .fz 7 (g.ds.map deA))
theorem gF_frz (id : Nat) (l : List AV) (gs : List Gr) : (gF gs).map (fun x => (x.1, frz id 7 l x.2)) = gF gs := by
  unfold gF
  rw [List.map_map]
  rfl
theorem gM_frz (at' : Nat) (l : List AV) (gs : List Gr) (h : ∀ g ∈ gs, g.at' ≠ at') : (gM gs).map (fun x => (x.1, frz (at' + 1) 7 l x.2)) = gM gs := by
  unfold gM
  rw [List.map_map]
  apply List.map_congr_left
  intro g hg
  have h1 : (g.at' + 1 == at' + 1) = false := by have := h g hg; simp; omega
  simp only [Function.comp, frz, frz1, h1, Bool.false_and, cond_false]
theorem freeze_all {c : Cx} (hc : c.sto.length ≤ 1) (E0 : Env) (hE : ∀ id l, frzE (id + 1) 7 l E0 = E0) (hw : wkl 1 E0 E0) : ∀ (gs done : List Gr) (S : List Blk), (∀ g ∈ gs, S[g.at']? = some (.arr 7 (g.ds.map deA))) → gs.Pairwise (fun x y => x.at' ≠ y.at') →
    Shift c E0 (.mp (gF done ++ gM gs) :: S) E0 [.mp (gF (done ++ gs))]
  | [], done, S, _, _ => by
    rw [show gM [] = [] from rfl, List.append_nil, List.append_nil]
    refine Shift.low 1 hc (by simp) ?_ hw
    simp only [List.take_succ_cons, List.take_zero, List.all_cons, List.all_nil, Bool.and_true]
    show (gF done).all _ = true
    rw [gF, List.all_map, List.all_eq_true]
    intro x hx
    rfl
  | g :: r, done, S, hb, hn => by
    have h0 := hb g (by simp)
    rw [List.pairwise_cons] at hn
    have hs : (Blk.mp (gF done ++ gM (g :: r)) :: S).getD (g.at' + 1) .dead = .arr 7 (g.ds.map deA) := by
      rw [List.getD_cons_succ, List.getD_eq_getElem?_getD, h0]; rfl
    have sh := Shift.frz (c := c) (en := E0) (g.at' + 1) hs (deA_frz _)
    rw [hE] at sh
    have e1 : ((Blk.mp (gF done ++ gM (g :: r)) :: S).set (g.at' + 1) .dead).map (frzB (g.at' + 1) 7 (g.ds.map deA)) = .mp (gF (done ++ [g]) ++ gM r) :: (S.set g.at' .dead).map (frzB (g.at' + 1) 7 (g.ds.map deA)) := by
      rw [List.set_cons_succ, List.map_cons]
      congr 1
      simp only [frzB, List.map_append, gF_frz]
      congr 1
      have e2 : gM (g :: r) = (.str g.key, .sl (g.at' + 1) 0 g.ds.length g.ds.length) :: gM r := rfl
      have e3 : gF (done ++ [g]) = gF done ++ [(.str g.key, .fz 7 (g.ds.map deA))] := by simp [gF]
      rw [e2, e3, List.map_cons, gM_frz _ _ _ (fun y hy => Ne.symm (hn.1 y hy)), List.append_assoc]
      congr 1
      simp only [frz, frz1, beq_self_eq_true, List.length_map, Nat.zero_add, decide_true, Nat.le_refl, Bool.and_self, cond_true, List.drop_zero, take_map, List.cons_append, List.nil_append]
    rw [e1] at sh
    have ih := freeze_all hc E0 hE hw r (done ++ [g]) ((S.set g.at' .dead).map (frzB (g.at' + 1) 7 (g.ds.map deA))) (fun y hy => by
      rw [List.getElem?_map, List.getElem?_set_ne (hn.1 y hy), hb y (by simp [hy])]
      simp only [Option.map_some, frzB, frz_deM]) hn.2
    rw [List.append_assoc] at ih
    exact Shift.trans sh ih
end Go.Proofs.YtkomcdohejibmaaGreatDoor
