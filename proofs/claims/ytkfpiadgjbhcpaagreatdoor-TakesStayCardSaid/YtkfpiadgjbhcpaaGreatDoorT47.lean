/- Statements whose order is open and which store into several blocks of one's own. Written by mkos.py after AvPu. Own work of this seat. -/
import Derived.Test.YtkfpiadgjbhcpaaGreatDoorT18
import Derived.Test.YtkfpiadgjbhcpaaGreatDoorT46
import Derived.Test.YtkfpiadgjbhcpaaGreatDoorT21
import Derived.Test.YtkfpiadgjbhcpaaGreatDoorT35
import Derived.WalkKit
set_option linter.unusedSimpArgs false
set_option linter.unusedVariables false
set_option linter.unusedSectionVars false
namespace Go.Av
open Go Go.RowKit
variable [Tr]

/-- an operation that stores into the block 'd' -/
def stoD (d : Nat) (e : Env) (o : Oper) : Prop := match o.guard, o.op with
  | none, .store _ x _ => match ev e x with
    | .ptr i _ _ _ => i = d
    | _ => False
  | _, _ => False
/-- what is asked of each operation: those listed store into their blocks; what reads looks at none of those that it may pass -/
def sck (ids lk : List (Nat × Nat)) (i : Nat) (e : Env) (s : List Blk) (o : Oper) : Prop :=
  (match ids.lookup i with
    | some d => stoD d e o
    | none => True) ∧ (bif reader o.op && !blind o.op then ids.all (fun p => lk.contains (i, p.1) || opOk s.length p.2 e o.op) = true else True)

/-- a store changes its block alone, and looks at no other -/
theorem sto_does {c : Cx} {ops : Array Oper} {s s1 : List Blk} {o : Oper} {cv v : AV} {e : Env} {d : Nat} (ho : stoD d e o) (h : Does c ops s o cv e v s1) :
    v = .raw undef ∧ ∃ b, s1 = s.set d b ∧ ∀ s2 cv2, s2.getD d .dead = s.getD d .dead → Does c ops s2 o cv2 e v (s2.set d b) := by
  unfold stoD at ho
  split at ho
  · rename_i t x u hg hop
    split at ho
    · rename_i i n j off hx
      subst ho
      unfold Does at h ⊢
      rw [hg] at h ⊢
      simp only at h ⊢
      unfold DoesOp at h ⊢
      rw [hop] at h ⊢
      simp only [xop, hx, xstore] at h ⊢
      cases hb : s.getD i .dead with
      | arr es l =>
        rw [hb] at h
        simp only [xstoreB] at h
        obtain ⟨h1, h2, h3, h4⟩ := h
        refine ⟨h3, _, h4, fun s2 cv2 hs => ?_⟩
        rw [hs]
        simp only [xstoreB]
        exact ⟨h1, h2, h3, trivial⟩
      | mp es => rw [hb] at h; exact h.elim
      | it a b c => rw [hb] at h; exact h.elim
      | dead => rw [hb] at h; exact h.elim
    · exact ho.elim
  · exact ho.elim
theorem stoD_agree {d : Nat} {e e' : Env} {o : Oper} (h : ∀ x ∈ o.op.operands, ev e x = ev e' x) (hs : stoD d e o) : stoD d e' o := by
  unfold stoD at hs ⊢
  cases hg : o.guard with
  | some x => rw [hg] at hs; exact hs.elim
  | none =>
    rw [hg] at hs
    cases ho : o.op <;> rw [ho] at hs <;> simp only at hs ⊢
    rw [← h _ (by rw [ho]; simp [Op.operands])]
    exact hs
theorem sck_agree {ids lk : List (Nat × Nat)} {i : Nat} {e e' : Env} {s s' : List Blk} {o : Oper} (h : ∀ x ∈ o.op.operands, ev e x = ev e' x) (hs : s.length = s'.length) (hp : sck ids lk i e s o) : sck ids lk i e' s' o := by
  obtain ⟨h1, h2⟩ := hp
  refine ⟨?_, ?_⟩
  · cases hl : ids.lookup i with
    | none => trivial
    | some d =>
      rw [hl] at h1
      simp only at h1 ⊢
      exact stoD_agree h h1
  · cases hb : (reader o.op && !blind o.op) with
    | false => trivial
    | true =>
      rw [hb] at h2
      simp only [cond_true] at h2 ⊢
      rw [List.all_eq_true] at h2 ⊢
      intro p hp
      rw [← opOk_agree h, ← hs]
      exact h2 p hp
theorem sck_ok {ids lk : List (Nat × Nat)} {i : Nat} {e : Env} {s : List Blk} {o : Oper} (hp : sck ids lk i e s o) (hr : reader o.op = true) (hb : blind o.op = false) {j d : Nat} (hj : ids.lookup j = some d) (hlk : lk.contains (i, j) = false) : opOk s.length d e o.op = true := by
  have h2 := hp.2
  rw [hr, hb] at h2
  simp only [Bool.not_false, Bool.and_self, cond_true, List.all_eq_true] at h2
  have : ∀ {l : List (Nat × Nat)}, l.lookup j = some d → (j, d) ∈ l := by
    intro l
    induction l with
    | nil => intro h; simp at h
    | cons p r ih =>
      intro h
      rw [List.lookup_cons] at h
      split at h
      · rename_i hq
        have hq : j = p.1 := by simpa using hq
        simp only [Option.some.injEq] at h
        subst hq; subst h
        exact List.mem_cons_self
      · exact List.mem_cons_of_mem _ (ih h)
  have h3 := h2 _ (this hj)
  rw [hlk, Bool.false_or] at h3
  exact h3
theorem sck_put {ids lk : List (Nat × Nat)} {i d : Nat} {e : Env} {s : List Blk} {o : Oper} (hp : sck ids lk i e s o) (hl : ids.lookup i = some d) : stoD d e o := by
  have := hp.1
  rw [hl] at this
  exact this

def ChO (c : Cx) (ops : Array Oper) (ids lk : List (Nat × Nat)) (K : Env → List Blk → Prop) : List Nat → Env → List Blk → Prop
  | [], e, s => K e s
  | i :: r, e, s => match ops[i]? with
    | some o => sck ids lk i e s o ∧ ∃ cv v s', Does c ops s o cv e v s' ∧ ChO c ops ids lk K r (put e o.dst v) s'
    | none => False

/-- may i pass the earlier j? -/
def okSo (ops : List Oper) (ids lk : List (Nat × Nat)) (j i : Nat) : Bool := match ops[j]?, ops[i]? with
  | some oj, some oi => oj.apart ops.toArray oi && (together oj oi || (match ids.lookup j, ids.lookup i with
    | some a, some b => a != b
    | some _, none => reader oi.op && !lk.contains (i, j)
    | none, some _ => reader oj.op && !lk.contains (j, i)
    | none, none => false))
  | _, _ => false

section
variable {cx : Cx} {ops : Array Oper} {K : Env → List Blk → Prop} {ids lk : List (Nat × Nat)}
theorem ChO.congr (hK : ∀ e e' s, Eqv e e' → K e s → K e' s) : ∀ {l : List Nat} {e e' : Env} {s : List Blk}, Eqv e e' → ChO cx ops ids lk K l e s → ChO cx ops ids lk K l e' s
  | [], e, e', s, h, c => hK e e' s h c
  | i :: r, e, e', s, h, c => by
    unfold ChO at c ⊢
    split at c
    · rename_i o ho
      obtain ⟨h0, cv, v, s', h1, h2⟩ := c
      exact ⟨sck_agree (fun x _ => ev_agree fun t _ => h t) rfl h0, cv, v, s', h1.agree fun t _ => h t, ChO.congr hK (h.put _ _) h2⟩
    · exact c.elim
theorem ChO.swap {opl : List Oper} (hops : ops = opl.toArray) (hK : ∀ e e' s, Eqv e e' → K e s → K e' s) {i j : Nat} {r : List Nat} (hok : okSo opl ids lk j i = true) {e : Env} {s : List Blk} (c : ChO cx ops ids lk K (j :: i :: r) e s) :
    ChO cx ops ids lk K (i :: j :: r) e s := by
  unfold okSo at hok
  split at hok
  rotate_left
  · cases hok
  rename_i oj oi hj' hi'
  have hj : ops[j]? = some oj := by rw [hops]; simpa using hj'
  have hi : ops[i]? = some oi := by rw [hops]; simpa using hi'
  simp only [Bool.and_eq_true, Bool.or_eq_true] at hok
  obtain ⟨ha, hok⟩ := hok
  rw [← hops] at ha
  obtain ⟨a1, a2, a3⟩ := Oper.apart_spec ha
  simp only [ChO, hj, hi] at c ⊢
  obtain ⟨pj, cv, v, s1, h1, pi, cu, u, s2, h2, h3⟩ := c
  have gi : ∀ (e : Env) (v : AV), Agree ops oi (put e oj.dst v) e := fun e v t ht => by
    rw [get_put, if_neg]; intro h; exact a1 t h ht
  have gj : ∀ (e : Env) (v : AV), Agree ops oj e (put e oi.dst v) := fun e v t ht => by
    rw [get_put, if_neg]; intro h; exact a3 t h ht
  have h2' : Does cx ops s1 oi cu e u s2 := h2.agree (gi e v)
  have h1' : ∀ {z z'}, Does cx ops z oj cv e v z' → Does cx ops z oj cv (put e oi.dst u) v z' := fun hd => hd.agree (gj e u)
  have h3' := ChO.congr hK (put_swap a2) h3
  have pi' : ∀ s', s1.length = s'.length → sck ids lk i e s' oi := fun s' hs => sck_agree (agree_ops (gi e v)) hs pi
  have pj' : ∀ s', s.length = s'.length → sck ids lk j (put e oi.dst u) s' oj := fun s' hs => sck_agree (agree_ops (gj e u)) hs pj
  rcases hok with hok | hok
  · simp only [together, Bool.or_eq_true, Bool.and_eq_true] at hok
    have blind_free : ∀ {o : Oper} {k : Nat} {e : Env} {s s' : List Blk}, blind o.op = true → sck ids lk k e s o → sck ids lk k e s' o := fun hb hp => ⟨hp.1, by simp [hb]⟩
    rcases hok with (⟨c1, c2⟩ | c1) | c1
    · have e1 := h1.calm c1
      subst e1
      have e2 := h2.calm c2
      subst e2
      exact ⟨pi' _ rfl, cu, u, _, h2', pj' _ rfl, cv, v, _, h1' h1, h3'⟩
    · have e1 := h1.calm (blind_calm c1)
      subst e1
      exact ⟨pi' _ rfl, cu, u, _, h2', blind_free c1 (pj' _ rfl), cv, v, _, h1' (h1.blind c1), h3'⟩
    · have e2 := h2.calm (blind_calm c1)
      subst e2
      exact ⟨blind_free c1 (pi' _ rfl), cu, u, _, h2'.blind c1, pj' _ rfl, cv, v, _, h1' h1, h3'⟩
  split at hok
  · rename_i a b hla hlb
    have hab : a ≠ b := by simpa using hok
    obtain ⟨hv, bj, rfl, hdj⟩ := sto_does (sck_put pj hla) h1
    obtain ⟨hu, bi, rfl, hdi⟩ := sto_does (sck_put (pi' _ rfl) hlb) h2'
    have n1 : (s.set b bi).getD a .dead = s.getD a .dead := by simp only [List.getD, List.getElem?_set_ne (Ne.symm hab)]
    have n2 : s.getD b .dead = (s.set a bj).getD b .dead := by simp only [List.getD, List.getElem?_set_ne hab]
    refine ⟨pi' _ (by simp), cu, u, _, hdi s cu n2, pj' _ (by simp), cv, v, _, h1' (hdj _ cv n1), ?_⟩
    rw [List.set_comm _ _ (Ne.symm hab)]
    exact h3'
  · rename_i a hla hlb
    simp only [Bool.and_eq_true, Bool.not_eq_true'] at hok
    obtain ⟨hok, hlk⟩ := hok
    obtain ⟨hv, bj, rfl, hdj⟩ := sto_does (sck_put pj hla) h1
    have ok0 : blind oi.op = false → opOk s.length a e oi.op = true := fun hb => sck_ok (pi' s (by simp)) hok hb hla hlk
    obtain ⟨e1, ds⟩ := does_reader hok ok0 ((Agr.set (s := s) (id := a) bj).symm) h2'
    subst e1
    exact ⟨pi' _ (by simp), cu, u, _, ds, pj' _ rfl, cv, v, _, h1' h1, h3'⟩
  · rename_i b hla hlb
    simp only [Bool.and_eq_true, Bool.not_eq_true'] at hok
    obtain ⟨hok, hlk⟩ := hok
    have ok0 : blind oj.op = false → opOk s.length b e oj.op = true := fun hb => sck_ok pj hok hb hlb hlk
    obtain ⟨rfl, _⟩ := does_reader hok ok0 (Agr.set (id := b) .dead) h1
    obtain ⟨hu, bi, rfl, hdi⟩ := sto_does (sck_put (pi' _ rfl) hlb) h2'
    have hs := (does_reader hok ok0 (Agr.set (id := b) bi) h1).2
    exact ⟨pi' _ rfl, cu, u, _, h2', pj' _ (by simp), cv, v, _, h1' hs, h3'⟩
  · cases hok
theorem ChO.front {opl : List Oper} (hops : ops = opl.toArray) (hK : ∀ e e' s, Eqv e e' → K e s → K e' s) {i : Nat} {r : List Nat} : ∀ {l : List Nat} {e : Env} {s : List Blk}, (∀ j ∈ l, okSo opl ids lk j i = true) →
    ChO cx ops ids lk K (l ++ i :: r) e s → ChO cx ops ids lk K (i :: (l ++ r)) e s
  | [], _, _, _, c => c
  | j :: l, e, s, h, c => by
    refine ChO.swap hops hK (h j (by simp)) ?_
    simp only [List.cons_append, ChO] at c ⊢
    split at c
    · rename_i o ho
      obtain ⟨h0, cv, v, s', h1, h2⟩ := c
      exact ⟨h0, cv, v, s', h1, ChO.front hops hK (fun k hk => h k (by simp [hk])) h2⟩
    · exact c.elim
end

section
variable {c : Cx} {k : List It} {e : Env} {s : List Blk}
end
end Go.Av
set_option maxRecDepth 100000
namespace Go.Proofs.YtkfpiadgjbhcpaaGreatDoor
open Go Go.Av Go.RowKit

def dg (n : Int) : UInt8 := UInt8.ofNat (48 + n).toNat
def two (n : Int) : List UInt8 := [dg (n / 10), dg (n % 10)]
theorem two_len (n : Int) : (two n).length = 2 := rfl
theorem two_pc (n : Int) (h1 : 0 ≤ n) (h2 : n ≤ 99) : Pc Tryz.prog 116 [.int .i64 n] (· = .str (two n)) := by
  refine pc_intro (ct_intro Tryz.func116 rfl Tryz.ntmps116 hB116 (by simp) fun h ρ w => goB (N := 13) Tryz.ntmps116 300 ?_)
  simp only [go_sem]
  repeat refine And.intro (by first | omega | rfl | (simp; done) | (simp; omega)) ?_
  exact aret [2] rfl ⟨rfl, rfl⟩
theorem codeD_pc : Pc Tryz.prog 63 [.int .i64 4, .int .i64 1800] (· = .str [48, 48, 58, 48, 49, 58, 48, 48, 59, 48, 50]) := by
  refine pc_intro (ct_intro Tryz.func63 rfl Tryz.ntmps63 hB63 (by simp) fun h ρ w => goB (N := 57) Tryz.ntmps63 300 ?_)
  simp only [go_sem]
  repeat refine And.intro (by first | omega | rfl | (simp; done) | (simp; omega)) ?_
  refine pcall1 (counted_pc 4 (by decide)) rfl (N := 57) Tryz.ntmps63 rfl (goB (N := 57) Tryz.ntmps63 300 ?_)
  simp only [go_sem, cntR]
  repeat refine And.intro (by first | omega | rfl | (simp; done) | (simp; omega)) ?_
  refine adraw [.str (two 0), .str (two 1), .str (two 0), .str (two 2)] mixed (by decide) (N := 57) Tryz.ntmps63 (by decide) 100 ?_
  simp only [go_sem, two_len]
  repeat refine And.intro (by first | omega | rfl | exact (two_pc 0 (by decide) (by decide)).at | exact (two_pc 1 (by decide) (by decide)).at | exact (two_pc 2 (by decide) (by decide)).at | (simp; done) | (simp; omega)) ?_
  refine goB (N := 57) Tryz.ntmps63 300 ?_
  simp only [go_sem]
  exact aret [4] rfl ⟨by simp [resV, Av.get, Av.put]; decide, rfl⟩
theorem codeX_pc : Pc Tryz.prog 47 [.int .i64 4, .int .i64 1800] (· = .tup [.str [48, 48, 58, 48, 49, 58, 48, 48, 59, 48, 50], .int .i64 0]) := by
  refine pc_intro (ct_intro Tryz.func47 rfl Tryz.ntmps47 hB47 (by simp) fun h ρ w => goB (N := 22) Tryz.ntmps47 300 ?_)
  simp only [go_sem]
  refine pcall1 (isRate_pc 4 (by decide)) rfl (N := 22) Tryz.ntmps47 rfl (goB (N := 22) Tryz.ntmps47 300 ?_)
  simp only [go_sem]
  refine pcall1 (frames_pc 4 (by decide)) rfl (N := 22) Tryz.ntmps47 rfl (goB (N := 22) Tryz.ntmps47 300 ?_)
  simp only [go_sem, dayR]
  refine pcall1 (codeD_pc) rfl (N := 22) Tryz.ntmps47 rfl (goB (N := 22) Tryz.ntmps47 300 ?_)
  simp only [go_sem]
  exact aret [4, 5] rfl ⟨rfl, rfl⟩
theorem takes_pc : Pc Tryz.prog 14 [] (· = .bool true) := by
  refine pc_intro (ct_intro Tryz.func14 rfl Tryz.ntmps14 hB14 (by simp) fun h ρ w => goB (N := 13) Tryz.ntmps14 300 ?_)
  simp only [go_sem]
  refine pcall1 (codeX_pc) rfl (N := 13) Tryz.ntmps14 rfl (goB (N := 13) Tryz.ntmps14 300 ?_)
  simp only [go_sem]
  exact aret [0] rfl ⟨rfl, rfl⟩



structure Ev where
  roll : List UInt8
  inn : Int
  out : Int
deriving DecidableEq
/-- events of right clips -/
structure EvOk (rn : List UInt8) (e : Ev) : Prop where
  roll : e.roll = rn
  lt : e.inn < e.out
theorem clpA_get (l : List Clp) (i : Nat) (h : i < l.length) : List.getD (l.map clpA) i .any = .agg [.int .i64 l[i].take, .int .i64 l[i].inn, .int .i64 l[i].out] := by simp [List.getD, h, clpA]
def sumE : List Ev → Int
  | [] => 0
  | e :: r => (e.out - e.inn) + sumE r
/-- right events of one roll -/
structure EvsOk (r : Rl) (es : List Ev) : Prop where
  roll : ∀ e ∈ es, e.roll = r.name
  lt : ∀ e ∈ es, e.inn < e.out
  hold : ∀ e ∈ es, holdsB r e.inn e.out = true
  bd : ∀ e ∈ es, 0 ≤ e.inn ∧ e.out ≤ dayR r.rate
  len : es.length ≤ 999
  sum : sumE es ≤ dayR r.rate
end Go.Proofs.YtkfpiadgjbhcpaaGreatDoor
namespace Go.Av

section
variable {α : Type}

/-- pairs that rise in both lists, of equal lines -/
def Rise (a b : List α) : Nat → Nat → List (Nat × Nat) → Prop
  | i, j, [] => i ≤ a.length ∧ j ≤ b.length
  | i, j, p :: r => i ≤ p.1 ∧ j ≤ p.2 ∧ p.1 < a.length ∧ p.2 < b.length ∧ a[p.1]? = b[p.2]? ∧ Rise a b (p.1 + 1) (p.2 + 1) r

theorem Rise.less {a b : List α} {i j i' j' : Nat} (hi : i' ≤ i) (hj : j' ≤ j) : ∀ {ps : List (Nat × Nat)}, Rise a b i j ps → Rise a b i' j' ps
  | [], h => ⟨Nat.le_trans hi h.1, Nat.le_trans hj h.2⟩
  | p :: r, h => ⟨Nat.le_trans hi h.1, Nat.le_trans hj h.2.1, h.2.2⟩

def swpP (p : Nat × Nat) : Nat × Nat := (p.2, p.1)

theorem Rise.swpP {a b : List α} : ∀ {ps : List (Nat × Nat)} {i j : Nat}, Rise a b i j ps → Rise b a j i (ps.map swpP)
  | [], _, _, h => ⟨h.2, h.1⟩
  | p :: r, _, _, h => ⟨h.2.1, h.1, h.2.2.2.1, h.2.2.1, h.2.2.2.2.1.symm, Rise.swpP h.2.2.2.2.2⟩

/-- an edit: where, how many lines go, which come -/
structure Ed (α : Type) where
  at' : Nat
  drop : Nat
  add : List α

theorem take_add_one {l : List α} {n : Nat} {x : α} (h : l[n]? = some x) : l.take (n + 1) = l.take n ++ [x] := by
  rw [List.take_add_one, h]; rfl
end

section
variable {α : Type} [DecidableEq α]

def lcs : List α → List α → Nat
  | [], _ => 0
  | _ :: _, [] => 0
  | x :: a, y :: b => if x = y then lcs a b + 1 else max (lcs a (y :: b)) (lcs (x :: a) b)
termination_by a b => a.length + b.length

@[simp] theorem lcs_nil (a : List α) : lcs a [] = 0 := by cases a <;> simp [lcs]
@[simp] theorem nil_lcs (b : List α) : lcs [] b = 0 := by simp [lcs]

theorem lcs_le_left : ∀ (a b : List α), lcs a b ≤ a.length
  | [], _ => by simp
  | _ :: _, [] => by simp
  | x :: a, y :: b => by
    have h1 := lcs_le_left a b
    have h2 := lcs_le_left a (y :: b)
    have h3 := lcs_le_left (x :: a) b
    rw [lcs]
    simp only [List.length_cons] at *
    split <;> omega
termination_by a b => a.length + b.length

mutual
theorem lcs_cons_right (a : List α) (y : α) (b : List α) : lcs a b ≤ lcs a (y :: b) ∧ lcs a (y :: b) ≤ lcs a b + 1 :=
  match a with
  | [] => by simp
  | x :: a => by
    rw [lcs]
    split
    · have h := lcs_cons_left x a b
      omega
    · have h := lcs_cons_right a y b
      have h' := lcs_cons_left x a b
      omega
termination_by a.length + b.length + 1
theorem lcs_cons_left (x : α) (a b : List α) : lcs a b ≤ lcs (x :: a) b ∧ lcs (x :: a) b ≤ lcs a b + 1 :=
  match b with
  | [] => by simp
  | y :: b => by
    rw [lcs]
    split
    · have h := lcs_cons_right a y b
      omega
    · have h := lcs_cons_left x a b
      have h' := lcs_cons_right a y b
      omega
termination_by a.length + b.length + 1
end

/-- the first place of x -/
def lix (x : α) : List α → Option Nat
  | [] => none
  | y :: b => if y = x then some 0 else (lix x b).map (· + 1)

theorem lcs_none {x : α} {a : List α} : ∀ {b : List α}, lix x b = none → lcs (x :: a) b = lcs a b
  | [], _ => by simp
  | y :: b, h => by
    simp only [lix] at h
    split at h
    · simp at h
    · rename_i hne
      have hb : lix x b = none := by simpa using h
      rw [lcs, if_neg (Ne.symm hne), lcs_none hb]
      have := (lcs_cons_right a y b).1
      omega

theorem lcs_some {x : α} {a : List α} : ∀ {b : List α} {k : Nat}, lix x b = some k → lcs (x :: a) b = lcs a b ∨ lcs (x :: a) b = lcs a (b.drop (k + 1)) + 1
  | [], _, h => by simp [lix] at h
  | y :: b, k, h => by
    simp only [lix] at h
    split at h
    · rename_i he
      simp at h
      subst h he
      right
      rw [lcs, if_pos rfl]; rfl
    · rename_i hne
      simp only [Option.map_eq_some_iff] at h
      obtain ⟨k', hk, rfl⟩ := h
      have ih := lcs_some (a := a) hk
      rw [lcs, if_neg (Ne.symm hne)]
      have h1 := (lcs_cons_right a y b).1
      have e : (y :: b).drop (k' + 1 + 1) = b.drop (k' + 1) := rfl
      rw [e]
      omega

theorem lcs_pos {x : α} {a : List α} : ∀ {b : List α} {k : Nat}, lix x b = some k → 0 < lcs (x :: a) b
  | [], _, h => by simp [lix] at h
  | y :: b, k, h => by
    simp only [lix] at h
    rw [lcs]
    split
    · omega
    · rename_i hne
      rw [if_neg (Ne.symm hne)] at h
      simp only [Option.map_eq_some_iff] at h
      obtain ⟨k', hk, rfl⟩ := h
      have := lcs_pos (a := a) hk
      omega

theorem idx_lt {x : α} : ∀ {b : List α} {k : Nat}, lix x b = some k → k < b.length ∧ b[k]? = some x
  | [], _, h => by simp [lix] at h
  | y :: b, k, h => by
    simp only [lix] at h
    split at h
    · rename_i he
      simp at h
      subst h he
      simp
    · simp only [Option.map_eq_some_iff] at h
      obtain ⟨k', hk, rfl⟩ := h
      have := idx_lt hk
      simpa using this

/-- the pairs of places that are kept -/
def keptL : List α → List α → Nat → Nat → List (Nat × Nat)
  | [], _, _, _ => []
  | x :: a, b, i, j => match lix x b with
    | none => keptL a b (i + 1) j
    | some k => if lcs a (b.drop (k + 1)) + 1 = lcs (x :: a) b then (i, j + k) :: keptL a (b.drop (k + 1)) (i + 1) (j + k + 1) else keptL a b (i + 1) j

theorem keptL_zero : ∀ {a b : List α} {i j : Nat}, lcs a b = 0 → keptL a b i j = []
  | [], _, _, _, _ => rfl
  | x :: a, b, i, j, h => by
    rw [keptL]
    split
    · rename_i hn
      rw [lcs_none hn] at h
      exact keptL_zero h
    · rename_i k hk
      have := lcs_pos (a := a) hk
      omega

theorem keptL_rise (A B : List α) : ∀ (a b : List α) (i j : Nat), A.drop i = a → B.drop j = b → i ≤ A.length → j ≤ B.length → Rise A B i j (keptL a b i j)
  | [], b, i, j, _, _, hi, hj => ⟨hi, hj⟩
  | x :: a, b, i, j, ha, hb, hi, hj => by
    have ha' : A.drop (i + 1) = a := by rw [← List.drop_drop, ha]; rfl
    have hil : i < A.length := by
      rcases Nat.lt_or_ge i A.length with h | h
      · exact h
      · rw [List.drop_eq_nil_of_le h] at ha; simp at ha
    have hx : A[i]? = some x := by
      have := congrArg (·[0]?) ha
      simpa using this
    rw [keptL]
    split
    · exact (keptL_rise A B a b (i + 1) j ha' hb hil hj).less (by omega) (Nat.le_refl _)
    · rename_i k hk
      have hkl := idx_lt hk
      have hbl : b.length = B.length - j := by rw [← hb]; simp
      split
      · refine ⟨Nat.le_refl _, by simp, hil, by simp; omega, ?_, ?_⟩
        · show A[i]? = B[j + k]?
          rw [hx, ← hkl.2, ← hb, List.getElem?_drop]
        · exact keptL_rise A B a _ (i + 1) (j + k + 1) ha' (by rw [← hb, List.drop_drop]; congr 1) hil (by omega)
      · exact (keptL_rise A B a b (i + 1) j ha' hb hil hj).less (by omega) (Nat.le_refl _)

end
end Go.Av
namespace Go.Proofs.YtkfpiadgjbhcpaaGreatDoor
open Go Go.Av Go.RowKit
set_option maxRecDepth 100000
set_option linter.unusedSimpArgs false
set_option linter.unusedVariables false


theorem strs_get {l : List (List UInt8)} {i : Nat} (h : i < l.length) : (strs l).getD i .any = .str l[i] := by simp [List.getD, h]
theorem strs_len (l : List (List UInt8)) : (strs l).length = l.length := by simp

theorem large_pc (l : List (List UInt8)) : Pc Tryz.prog 107 [.fz 1 (strs l)] (· = .bool (decide (3000 < l.length))) := by
  refine pc_intro (ct_intro Tryz.func107 rfl Tryz.ntmps107 hB107 (by simp) fun h ρ w => go (N := 6) Tryz.ntmps107 200 ?_)
  simp only [go_sem, strs_len]
  refine aret [2] rfl ⟨?_, rfl⟩
  simp [resV, Av.get]
  omega

/-- slices.Index at []string -/
def idxI (x : List UInt8) (l : List (List UInt8)) : Int := match lix x l with
  | some k => k
  | none => -1

theorem idx_step {x : List UInt8} : ∀ {l : List (List UInt8)} {i : Nat} (hi : i < l.length), (∀ j, (hj : j < i) → l[j]'(by omega) ≠ x) → l[i] = x → lix x l = some i
  | y :: l, 0, hi, h, he => by simp at he; simp [lix, he]
  | y :: l, i + 1, hi, h, he => by
    have h0 := h 0 (by omega)
    simp at h0
    have := idx_step (l := l) (i := i) (by simpa using hi) (fun j hj => by have := h (j + 1) (by omega); simpa using this) (by simpa using he)
    simp [lix, h0, this]
theorem idx_no {x : List UInt8} : ∀ {l : List (List UInt8)}, (∀ j, (hj : j < l.length) → l[j] ≠ x) → lix x l = none
  | [], _ => rfl
  | y :: l, h => by
    have h0 := h 0 (by simp)
    simp at h0
    have := idx_no (l := l) (fun j hj => by have := h (j + 1) (by simpa using hj); simpa using this)
    simp [lix, h0, this]

theorem index_pc (l : List (List UInt8)) (x : List UInt8) (hl : l.length ≤ 1000000) : Pc Tryz.prog 200 [.fz 1 (strs l), .str x] (· = .int .i64 (idxI x l)) := by
  refine pc_intro (ct_intro Tryz.func200 rfl Tryz.ntmps200 hB200 (by simp) fun h ρ w => go (N := 19) Tryz.ntmps200 200 ?_)
  simp only [go_sem, strs_len]
  refine aloop (ι := Nat) (fun i => l.length - i)
    (fun i => [(8, .int .i64 i), (7, .int .i64 l.length), (0, .fz 1 (strs l)), (1, .str x)])
    (fun _ => []) (fun i => i ≤ l.length ∧ ∀ j, j < i → ∀ hj : j < l.length, l[j] ≠ x) 0 ⟨by omega, by simp⟩ ?_ ?_
  · refine Shift.weak ?_
    simp only [wk, go_sem]
  · rintro i ⟨g1, g2⟩ J hJ
    refine go (N := 19) Tryz.ntmps200 200 ?_
    by_cases hi : (i : Int) < l.length
    · have hia : i < l.length := by omega
      by_cases he : l[i] = x
      · have hne : (x == l[i]) = true := by simpa using he.symm
        simp only [go_sem, hi, strs_len, strs_get hia, hne]
        refine ⟨by omega, hia, ?_⟩
        refine aret [4] rfl ⟨?_, rfl⟩
        simp [resV, Av.get, idxI, idx_step hia (fun j hj => g2 j hj (by omega)) he]
      · have hne : (x == l[i]) = false := by simpa using fun h => he h.symm
        simp only [go_sem, hi, strs_len, strs_get hia, hne]
        have e1 : (i : Int) + 1 = ((i + 1 : Nat) : Int) := by omega
        refine ⟨by omega, hia, by omega, by omega, ?_⟩
        rw [e1]
        refine ainv (hJ (i + 1) ⟨by omega, fun j hj hjl => ?_⟩ (by omega)) (Shift.weak ?_)
        · rcases Nat.lt_or_ge j i with h | h
          · exact g2 j h hjl
          · have : j = i := by omega
            subst this; exact he
        · simp only [wk, go_sem]
    · simp only [go_sem, hi]
      refine aret [4] rfl ⟨?_, rfl⟩
      simp [resV, Av.get, idxI, idx_no (fun j hj => g2 j (by omega) hj)]

theorem isNaNs_pc (x : List UInt8) : Pc Tryz.prog 274 [.str x] (· = .bool false) := by
  refine pc_intro (ct_intro Tryz.func274 rfl Tryz.ntmps274 hB274 (by simp) fun h ρ w => go (N := 6) Tryz.ntmps274 200 ?_)
  simp only [go_sem]
  refine aret [2] rfl ⟨?_, rfl⟩
  simp [resV, Av.get]

def cmpB (x y : List UInt8) : Int := if bytesLess x y = true then -1 else if x = y then 0 else 1

theorem cmpS_pc (x y : List UInt8) : Pc Tryz.prog 223 [.str x, .str y] (· = .int .i64 (cmpB x y)) := by
  refine pc_intro (ct_intro Tryz.func223 rfl Tryz.ntmps223 hB223 (by simp) fun h ρ w => go (N := 20) Tryz.ntmps223 200 ?_)
  simp only [go_sem]
  refine pcall1 (isNaNs_pc x) rfl (N := 20) Tryz.ntmps223 rfl (go (N := 20) Tryz.ntmps223 300 ?_)
  simp only [go_sem]
  refine pcall1 (isNaNs_pc y) rfl (N := 20) Tryz.ntmps223 rfl (go (N := 20) Tryz.ntmps223 300 ?_)
  simp only [go_sem]
  refine ⟨fun h1 => ?_, fun h1 => ⟨fun h2 => ?_, fun h2 => ?_⟩⟩
  · refine aret [4] rfl ⟨?_, rfl⟩
    simp [resV, Av.get, cmpB, h1]
  · refine aret [4] rfl ⟨?_, rfl⟩
    simp [resV, Av.get, cmpB, h2]
  · refine aret [4] rfl ⟨?_, rfl⟩
    have : x = y := by rcases h2 with h | h; rw [h1] at h; cases h; exact h
    simp [resV, Av.get, cmpB, h1, this]
    subst this
    simp [h1]

def cmpL : List (List UInt8) → List (List UInt8) → Int
  | [], [] => 0
  | [], _ :: _ => -1
  | _ :: _, [] => 1
  | x :: a, y :: b => if cmpB x y = 0 then cmpL a b else cmpB x y

theorem drop_cons {α : Type} {l : List α} {i : Nat} (h : i < l.length) : l.drop i = l[i] :: l.drop (i + 1) := List.drop_eq_getElem_cons h

theorem compare_pc (a b : List (List UInt8)) (ha : a.length ≤ 1000000) (hb : b.length ≤ 1000000) : Pc Tryz.prog 173 [.fz 1 (strs a), .fz 1 (strs b)] (· = .int .i64 (cmpL a b)) := by
  refine pc_intro (ct_intro Tryz.func173 rfl Tryz.ntmps173 hB173 (by simp) fun h ρ w => go (N := 36) Tryz.ntmps173 200 ?_)
  simp only [go_sem, strs_len]
  refine aloop (ι := Nat) (fun i => a.length - i)
    (fun i => [(11, .int .i64 i), (10, .int .i64 a.length), (9, .fz 1 (strs a)), (0, .fz 1 (strs a)), (1, .fz 1 (strs b))])
    (fun _ => []) (fun i => i ≤ a.length ∧ i ≤ b.length ∧ cmpL (a.drop i) (b.drop i) = cmpL a b) 0 ⟨by omega, by omega, rfl⟩ ?_ ?_
  · refine Shift.weak ?_
    simp only [wk, go_sem]
  · rintro i ⟨g1, g2, g3⟩ J hJ
    refine go (N := 36) Tryz.ntmps173 200 ?_
    by_cases hi : (i : Int) < a.length
    · have hia : i < a.length := by omega
      rw [drop_cons hia] at g3
      by_cases hib : i < b.length
      · have hge : decide ((i : Int) ≥ b.length) = false := by simp; omega
        have hlt : (i : Int) < b.length := by omega
        rw [drop_cons hib] at g3
        simp only [go_sem, hi, hge, hlt, strs_len, strs_get hia, strs_get hib]
        refine ⟨by omega, hia, by omega, hib, ?_⟩
        refine pcall1 (cmpS_pc _ _) rfl (N := 36) Tryz.ntmps173 rfl (go (N := 36) Tryz.ntmps173 300 ?_)
        by_cases hc : cmpB a[i] b[i] = 0
        · have hc' : (cmpB a[i] b[i] != 0) = false := by simpa using hc
          have e1 : (i : Int) + 1 = ((i + 1 : Nat) : Int) := by omega
          simp only [go_sem, hc']
          refine ⟨by omega, by omega, ?_⟩
          rw [e1]
          refine ainv (hJ (i + 1) ⟨by omega, by omega, ?_⟩ (by omega)) (Shift.weak ?_)
          · rw [← g3, cmpL, if_pos hc]
          · simp only [wk, go_sem]
        · have hc' : (cmpB a[i] b[i] != 0) = true := by simpa using hc
          simp only [go_sem, hc']
          refine aret [4] rfl ⟨?_, rfl⟩
          rw [cmpL, if_neg hc] at g3
          simp [resV, Av.get, g3]
      · have hge : decide ((i : Int) ≥ b.length) = true := by simp; omega
        simp only [go_sem, hi, hge, strs_len, strs_get hia]
        refine ⟨by omega, hia, ?_⟩
        refine aret [4] rfl ⟨?_, rfl⟩
        rw [List.drop_eq_nil_of_le (by omega : b.length ≤ i), cmpL] at g3
        simp [resV, Av.get, g3]
    · have e : i = a.length := by omega
      subst e
      simp only [List.drop_length] at g3
      simp only [go_sem, hi, strs_len]
      refine ⟨fun h1 => ?_, fun h1 => ?_⟩
      · refine aret [4] rfl ⟨?_, rfl⟩
        have hlb : a.length < b.length := by omega
        rw [drop_cons hlb, cmpL] at g3
        simp [resV, Av.get, ← g3]
      · refine aret [4] rfl ⟨?_, rfl⟩
        rw [List.drop_eq_nil_of_le (by omega : b.length ≤ a.length), cmpL] at g3
        simp [resV, Av.get, ← g3]
end Go.Proofs.YtkfpiadgjbhcpaaGreatDoor
