/- The least number of joins, told anew. Own work of this seat. -/
import Derived.Test.YtkfpiadgjbhcpaaGreatDoorE46
import Derived.Test.YtkfpiadgjbhcpaaGreatDoorE22
import Derived.Test.YtkfpiadgjbhcpaaGreatDoorE18
import Derived.Test.YtkfpiadgjbhcpaaGreatDoorE37
set_option maxRecDepth 100000
set_option linter.unusedSimpArgs false
set_option linter.unusedVariables false
namespace Go.Proofs.YtkfpiadgjbhcpaaGreatDoor
open Go Go.Av Go.RowKit

def fewU (l : List Tk) (no : List UInt8) (ks : List Nat) : Option Pp' → Nat → Int := fun lp k => fewN lp ((ks.drop k).map fun (k : Nat) => partsU l no k l.length)
theorem fewN_low : ∀ (r : List (List Pp')) (last : Option Pp'), r.length ≤ 1000000 → 0 ≤ fewN last r ∧ fewN last r ≤ 1073741824
  | [], _, _ => by simp [fewN]
  | ps :: r, last, hl => by
    simp only [List.length_cons] at hl
    obtain ⟨h1, h2, h3⟩ := foldl_min (fun p => joinN last p + fewN (some p) r) ps 1073741824
    simp only [fewN]
    refine ⟨?_, h2⟩
    rcases h1 with h1 | ⟨x, hx, h1⟩
    · rw [h1]; omega
    · rw [h1]; have := fewN_low r (some x) (by omega); have := joinN_le last x; omega

end Go.Proofs.YtkfpiadgjbhcpaaGreatDoor
set_option linter.unusedSectionVars false
namespace Go.Av
open Go Go.RowKit
variable [Tr]

/-- an operation that stores into the block 'd' -/
def stoD (d : Nat) (e : Env) (o : Oper) : Prop := match o.guard, o.op with
  | none, .store _ x _ => match ev e x with
    | .ptr i _ _ _ => i = d
    | _ => False
  | _, _ => False
/-- what is asked of each operation: those listed store into their blocks; what reads looks at none of those that it may pass -/
def sck (ids lk : List (Nat × Nat)) (i : Nat) (e : Env) (s : List Blk) (o : Oper) : Prop :=
  (match ids.lookup i with
    | some d => stoD d e o
    | none => True) ∧ (bif reader o.op && !blind o.op then ids.all (fun p => lk.contains (i, p.1) || opOk s.length p.2 e o.op) = true else True)

/-- a store changes its block alone, and looks at no other -/
theorem sto_does {c : Cx} {ops : Array Oper} {s s1 : List Blk} {o : Oper} {cv v : AV} {e : Env} {d : Nat} (ho : stoD d e o) (h : Does c ops s o cv e v s1) :
    v = .raw undef ∧ ∃ b, s1 = s.set d b ∧ ∀ s2 cv2, s2.getD d .dead = s.getD d .dead → Does c ops s2 o cv2 e v (s2.set d b) := by
  unfold stoD at ho
  split at ho
  · rename_i t x u hg hop
    split at ho
    · rename_i i n j off hx
      subst ho
      unfold Does at h ⊢
      rw [hg] at h ⊢
      simp only at h ⊢
      unfold DoesOp at h ⊢
      rw [hop] at h ⊢
      simp only [xop, hx, xstore] at h ⊢
      cases hb : s.getD i .dead with
      | arr es l =>
        rw [hb] at h
        simp only [xstoreB] at h
        obtain ⟨h1, h2, h3, h4⟩ := h
        refine ⟨h3, _, h4, fun s2 cv2 hs => ?_⟩
        rw [hs]
        simp only [xstoreB]
        exact ⟨h1, h2, h3, trivial⟩
      | mp es => rw [hb] at h; exact h.elim
      | it a b c => rw [hb] at h; exact h.elim
      | dead => rw [hb] at h; exact h.elim
    · exact ho.elim
  · exact ho.elim
theorem stoD_agree {d : Nat} {e e' : Env} {o : Oper} (h : ∀ x ∈ o.op.operands, ev e x = ev e' x) (hs : stoD d e o) : stoD d e' o := by
  unfold stoD at hs ⊢
  cases hg : o.guard with
  | some x => rw [hg] at hs; exact hs.elim
  | none =>
    rw [hg] at hs
    cases ho : o.op <;> rw [ho] at hs <;> simp only at hs ⊢
    rw [← h _ (by rw [ho]; simp [Op.operands])]
    exact hs
theorem sck_agree {ids lk : List (Nat × Nat)} {i : Nat} {e e' : Env} {s s' : List Blk} {o : Oper} (h : ∀ x ∈ o.op.operands, ev e x = ev e' x) (hs : s.length = s'.length) (hp : sck ids lk i e s o) : sck ids lk i e' s' o := by
  obtain ⟨h1, h2⟩ := hp
  refine ⟨?_, ?_⟩
  · cases hl : ids.lookup i with
    | none => trivial
    | some d =>
      rw [hl] at h1
      simp only at h1 ⊢
      exact stoD_agree h h1
  · cases hb : (reader o.op && !blind o.op) with
    | false => trivial
    | true =>
      rw [hb] at h2
      simp only [cond_true] at h2 ⊢
      rw [List.all_eq_true] at h2 ⊢
      intro p hp
      rw [← opOk_agree h, ← hs]
      exact h2 p hp
theorem sck_ok {ids lk : List (Nat × Nat)} {i : Nat} {e : Env} {s : List Blk} {o : Oper} (hp : sck ids lk i e s o) (hr : reader o.op = true) (hb : blind o.op = false) {j d : Nat} (hj : ids.lookup j = some d) (hlk : lk.contains (i, j) = false) : opOk s.length d e o.op = true := by
  have h2 := hp.2
  rw [hr, hb] at h2
  simp only [Bool.not_false, Bool.and_self, cond_true, List.all_eq_true] at h2
  have : ∀ {l : List (Nat × Nat)}, l.lookup j = some d → (j, d) ∈ l := by
    intro l
    induction l with
    | nil => intro h; simp at h
    | cons p r ih =>
      intro h
      rw [List.lookup_cons] at h
      split at h
      · rename_i hq
        have hq : j = p.1 := by simpa using hq
        simp only [Option.some.injEq] at h
        subst hq; subst h
        exact List.mem_cons_self
      · exact List.mem_cons_of_mem _ (ih h)
  have h3 := h2 _ (this hj)
  rw [hlk, Bool.false_or] at h3
  exact h3
theorem sck_put {ids lk : List (Nat × Nat)} {i d : Nat} {e : Env} {s : List Blk} {o : Oper} (hp : sck ids lk i e s o) (hl : ids.lookup i = some d) : stoD d e o := by
  have := hp.1
  rw [hl] at this
  exact this

def ChO (c : Cx) (ops : Array Oper) (ids lk : List (Nat × Nat)) (K : Env → List Blk → Prop) : List Nat → Env → List Blk → Prop
  | [], e, s => K e s
  | i :: r, e, s => match ops[i]? with
    | some o => sck ids lk i e s o ∧ ∃ cv v s', Does c ops s o cv e v s' ∧ ChO c ops ids lk K r (put e o.dst v) s'
    | none => False

/-- may i pass the earlier j? -/
def okSo (ops : List Oper) (ids lk : List (Nat × Nat)) (j i : Nat) : Bool := match ops[j]?, ops[i]? with
  | some oj, some oi => oj.apart ops.toArray oi && (together oj oi || (match ids.lookup j, ids.lookup i with
    | some a, some b => a != b
    | some _, none => reader oi.op && !lk.contains (i, j)
    | none, some _ => reader oj.op && !lk.contains (j, i)
    | none, none => false))
  | _, _ => false

section
variable {cx : Cx} {ops : Array Oper} {K : Env → List Blk → Prop} {ids lk : List (Nat × Nat)}
theorem ChO.congr (hK : ∀ e e' s, Eqv e e' → K e s → K e' s) : ∀ {l : List Nat} {e e' : Env} {s : List Blk}, Eqv e e' → ChO cx ops ids lk K l e s → ChO cx ops ids lk K l e' s
  | [], e, e', s, h, c => hK e e' s h c
  | i :: r, e, e', s, h, c => by
    unfold ChO at c ⊢
    split at c
    · rename_i o ho
      obtain ⟨h0, cv, v, s', h1, h2⟩ := c
      exact ⟨sck_agree (fun x _ => ev_agree fun t _ => h t) rfl h0, cv, v, s', h1.agree fun t _ => h t, ChO.congr hK (h.put _ _) h2⟩
    · exact c.elim
theorem ChO.swap {opl : List Oper} (hops : ops = opl.toArray) (hK : ∀ e e' s, Eqv e e' → K e s → K e' s) {i j : Nat} {r : List Nat} (hok : okSo opl ids lk j i = true) {e : Env} {s : List Blk} (c : ChO cx ops ids lk K (j :: i :: r) e s) :
    ChO cx ops ids lk K (i :: j :: r) e s := by
  unfold okSo at hok
  split at hok
  rotate_left
  · cases hok
  rename_i oj oi hj' hi'
  have hj : ops[j]? = some oj := by rw [hops]; simpa using hj'
  have hi : ops[i]? = some oi := by rw [hops]; simpa using hi'
  simp only [Bool.and_eq_true, Bool.or_eq_true] at hok
  obtain ⟨ha, hok⟩ := hok
  rw [← hops] at ha
  obtain ⟨a1, a2, a3⟩ := Oper.apart_spec ha
  simp only [ChO, hj, hi] at c ⊢
  obtain ⟨pj, cv, v, s1, h1, pi, cu, u, s2, h2, h3⟩ := c
  have gi : ∀ (e : Env) (v : AV), Agree ops oi (put e oj.dst v) e := fun e v t ht => by
    rw [get_put, if_neg]; intro h; exact a1 t h ht
  have gj : ∀ (e : Env) (v : AV), Agree ops oj e (put e oi.dst v) := fun e v t ht => by
    rw [get_put, if_neg]; intro h; exact a3 t h ht
  have h2' : Does cx ops s1 oi cu e u s2 := h2.agree (gi e v)
  have h1' : ∀ {z z'}, Does cx ops z oj cv e v z' → Does cx ops z oj cv (put e oi.dst u) v z' := fun hd => hd.agree (gj e u)
  have h3' := ChO.congr hK (put_swap a2) h3
  have pi' : ∀ s', s1.length = s'.length → sck ids lk i e s' oi := fun s' hs => sck_agree (agree_ops (gi e v)) hs pi
  have pj' : ∀ s', s.length = s'.length → sck ids lk j (put e oi.dst u) s' oj := fun s' hs => sck_agree (agree_ops (gj e u)) hs pj
  rcases hok with hok | hok
  · simp only [together, Bool.or_eq_true, Bool.and_eq_true] at hok
    have blind_free : ∀ {o : Oper} {k : Nat} {e : Env} {s s' : List Blk}, blind o.op = true → sck ids lk k e s o → sck ids lk k e s' o := fun hb hp => ⟨hp.1, by simp [hb]⟩
    rcases hok with (⟨c1, c2⟩ | c1) | c1
    · have e1 := h1.calm c1
      subst e1
      have e2 := h2.calm c2
      subst e2
      exact ⟨pi' _ rfl, cu, u, _, h2', pj' _ rfl, cv, v, _, h1' h1, h3'⟩
    · have e1 := h1.calm (blind_calm c1)
      subst e1
      exact ⟨pi' _ rfl, cu, u, _, h2', blind_free c1 (pj' _ rfl), cv, v, _, h1' (h1.blind c1), h3'⟩
    · have e2 := h2.calm (blind_calm c1)
      subst e2
      exact ⟨blind_free c1 (pi' _ rfl), cu, u, _, h2'.blind c1, pj' _ rfl, cv, v, _, h1' h1, h3'⟩
  split at hok
  · rename_i a b hla hlb
    have hab : a ≠ b := by simpa using hok
    obtain ⟨hv, bj, rfl, hdj⟩ := sto_does (sck_put pj hla) h1
    obtain ⟨hu, bi, rfl, hdi⟩ := sto_does (sck_put (pi' _ rfl) hlb) h2'
    have n1 : (s.set b bi).getD a .dead = s.getD a .dead := by simp only [List.getD, List.getElem?_set_ne (Ne.symm hab)]
    have n2 : s.getD b .dead = (s.set a bj).getD b .dead := by simp only [List.getD, List.getElem?_set_ne hab]
    refine ⟨pi' _ (by simp), cu, u, _, hdi s cu n2, pj' _ (by simp), cv, v, _, h1' (hdj _ cv n1), ?_⟩
    rw [List.set_comm _ _ (Ne.symm hab)]
    exact h3'
  · rename_i a hla hlb
    simp only [Bool.and_eq_true, Bool.not_eq_true'] at hok
    obtain ⟨hok, hlk⟩ := hok
    obtain ⟨hv, bj, rfl, hdj⟩ := sto_does (sck_put pj hla) h1
    have ok0 : blind oi.op = false → opOk s.length a e oi.op = true := fun hb => sck_ok (pi' s (by simp)) hok hb hla hlk
    obtain ⟨e1, ds⟩ := does_reader hok ok0 ((Agr.set (s := s) (id := a) bj).symm) h2'
    subst e1
    exact ⟨pi' _ (by simp), cu, u, _, ds, pj' _ rfl, cv, v, _, h1' h1, h3'⟩
  · rename_i b hla hlb
    simp only [Bool.and_eq_true, Bool.not_eq_true'] at hok
    obtain ⟨hok, hlk⟩ := hok
    have ok0 : blind oj.op = false → opOk s.length b e oj.op = true := fun hb => sck_ok pj hok hb hlb hlk
    obtain ⟨rfl, _⟩ := does_reader hok ok0 (Agr.set (id := b) .dead) h1
    obtain ⟨hu, bi, rfl, hdi⟩ := sto_does (sck_put (pi' _ rfl) hlb) h2'
    have hs := (does_reader hok ok0 (Agr.set (id := b) bi) h1).2
    exact ⟨pi' _ rfl, cu, u, _, h2', pj' _ (by simp), cv, v, _, h1' hs, h3'⟩
  · cases hok
theorem ChO.front {opl : List Oper} (hops : ops = opl.toArray) (hK : ∀ e e' s, Eqv e e' → K e s → K e' s) {i : Nat} {r : List Nat} : ∀ {l : List Nat} {e : Env} {s : List Blk}, (∀ j ∈ l, okSo opl ids lk j i = true) →
    ChO cx ops ids lk K (l ++ i :: r) e s → ChO cx ops ids lk K (i :: (l ++ r)) e s
  | [], _, _, _, c => c
  | j :: l, e, s, h, c => by
    refine ChO.swap hops hK (h j (by simp)) ?_
    simp only [List.cons_append, ChO] at c ⊢
    split at c
    · rename_i o ho
      obtain ⟨h0, cv, v, s', h1, h2⟩ := c
      exact ⟨h0, cv, v, s', h1, ChO.front hops hK (fun k hk => h k (by simp [hk])) h2⟩
    · exact c.elim
end

section
variable {c : Cx} {k : List It} {e : Env} {s : List Blk}
end
end Go.Av
namespace Go.Proofs.YtkfpiadgjbhcpaaGreatDoor
open Go Go.Av Go.RowKit

/-- where part v of a run begins -/
def atR (r : List Pp') (v : Nat) : Int := match r[v]? with
  | some p => p.cv.inn
  | none => (clipR r).out
theorem clip_cons (a b : Pp') (t : List Pp') : clipR (a :: b :: t) = ⟨a.take, a.cv.inn, (clipR (b :: t)).out⟩ := by
  obtain ⟨q, hq⟩ : ∃ q, (b :: t).getLast? = some q := by
    cases h : (b :: t).getLast? with
    | none => simp at h
    | some q => exact ⟨q, rfl⟩
  have h2 : (a :: b :: t).getLast? = some q := by rw [List.getLast?_cons_cons]; exact hq
  simp [clipR, hq, h2]
theorem run_ok : ∀ r : List Pp', fols r → (∀ p ∈ r, p.cv.inn < p.cv.out) → ∀ v, (h : v < r.length) → r[v].cv.inn < (clipR r).out ∧ r[v].take = (clipR r).take ∧ r[v].cv.out = atR r (v + 1)
  | [], _, _, v, h => absurd h (by simp)
  | [a], _, hlt, v, h => by
    have : v = 0 := by simp at h; omega
    subst this
    have := hlt a (by simp)
    rw [clip_one]
    exact ⟨this, by simp, by simp [atR, clip_one]⟩
  | a :: b :: t, hf, hlt, v, h => by
    have ih := run_ok (b :: t) hf.2 (fun p hp => hlt p (by simp [hp]))
    have hfo := hf.1
    simp only [fol, Bool.and_eq_true, beq_iff_eq] at hfo
    rw [clip_cons]
    have hsh : ∀ v, atR (a :: b :: t) (v + 1) = atR (b :: t) v := fun v => by
      unfold atR
      rw [List.getElem?_cons_succ, clip_cons]
    rw [hsh]
    cases v with
    | zero =>
      obtain ⟨h1, h2, h3⟩ := ih 0 (by simp)
      have ha := hlt a (by simp)
      simp only [List.getElem_cons_zero] at h1 ⊢
      refine ⟨by omega, trivial, ?_⟩
      rw [hfo.2]; rfl
    | succ v =>
      obtain ⟨h1, h2, h3⟩ := ih v (by simpa using h)
      simp only [List.getElem_cons_succ]
      refine ⟨h1, ?_, h3⟩
      rw [h2, hfo.1]
      cases t with
      | nil => rfl
      | cons c t => rw [clip_cons]
def dg (n : Int) : UInt8 := UInt8.ofNat (48 + n).toNat
def two (n : Int) : List UInt8 := [dg (n / 10), dg (n % 10)]
theorem two_len (n : Int) : (two n).length = 2 := rfl
theorem two_pc (n : Int) (h1 : 0 ≤ n) (h2 : n ≤ 99) : Pc Tryz.prog 116 [.int .i64 n] (· = .str (two n)) := by
  refine pc_intro (ct_intro Tryz.func116 rfl Tryz.ntmps116 hB116 (by simp) fun h ρ w => goB (N := 13) Tryz.ntmps116 300 ?_)
  simp only [go_sem]
  repeat refine And.intro (by first | omega | rfl | (simp; done) | (simp; omega)) ?_
  exact aret [2] rfl ⟨rfl, rfl⟩
theorem codeD_pc : Pc Tryz.prog 63 [.int .i64 4, .int .i64 1800] (· = .str [48, 48, 58, 48, 49, 58, 48, 48, 59, 48, 50]) := by
  refine pc_intro (ct_intro Tryz.func63 rfl Tryz.ntmps63 hB63 (by simp) fun h ρ w => goB (N := 57) Tryz.ntmps63 300 ?_)
  simp only [go_sem]
  repeat refine And.intro (by first | omega | rfl | (simp; done) | (simp; omega)) ?_
  refine pcall1 (counted_pc 4 (by decide)) rfl (N := 57) Tryz.ntmps63 rfl (goB (N := 57) Tryz.ntmps63 300 ?_)
  simp only [go_sem, cntR]
  repeat refine And.intro (by first | omega | rfl | (simp; done) | (simp; omega)) ?_
  refine adraw [.str (two 0), .str (two 1), .str (two 0), .str (two 2)] mixed (by decide) (N := 57) Tryz.ntmps63 (by decide) 100 ?_
  simp only [go_sem, two_len]
  repeat refine And.intro (by first | omega | rfl | exact (two_pc 0 (by decide) (by decide)).at | exact (two_pc 1 (by decide) (by decide)).at | exact (two_pc 2 (by decide) (by decide)).at | (simp; done) | (simp; omega)) ?_
  refine goB (N := 57) Tryz.ntmps63 300 ?_
  simp only [go_sem]
  exact aret [4] rfl ⟨by simp [resV, Av.get, Av.put]; decide, rfl⟩
theorem codeX_pc : Pc Tryz.prog 47 [.int .i64 4, .int .i64 1800] (· = .tup [.str [48, 48, 58, 48, 49, 58, 48, 48, 59, 48, 50], .int .i64 0]) := by
  refine pc_intro (ct_intro Tryz.func47 rfl Tryz.ntmps47 hB47 (by simp) fun h ρ w => goB (N := 22) Tryz.ntmps47 300 ?_)
  simp only [go_sem]
  refine pcall1 (isRate_pc 4 (by decide)) rfl (N := 22) Tryz.ntmps47 rfl (goB (N := 22) Tryz.ntmps47 300 ?_)
  simp only [go_sem]
  refine pcall1 (frames_pc 4 (by decide)) rfl (N := 22) Tryz.ntmps47 rfl (goB (N := 22) Tryz.ntmps47 300 ?_)
  simp only [go_sem, dayR]
  refine pcall1 (codeD_pc) rfl (N := 22) Tryz.ntmps47 rfl (goB (N := 22) Tryz.ntmps47 300 ?_)
  simp only [go_sem]
  exact aret [4, 5] rfl ⟨rfl, rfl⟩
theorem takes_pc : Pc Tryz.prog 14 [] (· = .bool true) := by
  refine pc_intro (ct_intro Tryz.func14 rfl Tryz.ntmps14 hB14 (by simp) fun h ρ w => goB (N := 13) Tryz.ntmps14 300 ?_)
  simp only [go_sem]
  refine pcall1 (codeX_pc) rfl (N := 13) Tryz.ntmps14 rfl (goB (N := 13) Tryz.ntmps14 300 ?_)
  simp only [go_sem]
  exact aret [0] rfl ⟨rfl, rfl⟩
/-- the number that is shown -/
def shown (r n : Int) : Int := if r = 4 then n + 18 * (n / 17982) + (if 1800 ≤ n % 17982 then 2 + 2 * ((n % 17982 - 1800) / 1798) else 0) else n
def codeL (r n : Int) : List UInt8 :=
  two (shown r n / cntR r / 3600) ++ [58] ++ two (shown r n / cntR r / 60 % 60) ++ [58] ++ two (shown r n / cntR r % 60) ++ [if r = 4 then 59 else 58] ++ two (shown r n % cntR r)
theorem code_pc1 (n : Int) (h3 : 0 ≤ n) (h4 : n < 2073600) : Pc Tryz.prog 63 [.int .i64 1, .int .i64 n] (· = .str (codeL 1 n)) := by
  refine pc_intro (ct_intro Tryz.func63 rfl Tryz.ntmps63 hB63 (by simp) fun h ρ w => goB (N := 57) Tryz.ntmps63 300 ?_)
  simp only [go_sem]
  refine pcall1 (counted_pc _ (by decide)) rfl (N := 57) Tryz.ntmps63 rfl (goB (N := 57) Tryz.ntmps63 300 ?_)
  simp only [go_sem, cntR]
  refine ⟨by omega, by omega, by omega, ?_⟩
  refine adraw [.str (two (n / 24 / 3600)), .str (two (n / 24 / 60 % 60)), .str (two (n / 24 % 60)), .str (two (n % 24))] mixed (by decide) (N := 57) Tryz.ntmps63 (by decide) 100 ?_
  simp only [go_sem, two_len]
  repeat refine And.intro (by first | omega | rfl | exact (two_pc _ (by omega) (by omega)).at | (simp; done) | (simp; omega)) ?_
  refine goB (N := 57) Tryz.ntmps63 300 ?_
  simp only [go_sem]
  exact aret [4] rfl ⟨by simp [resV, Go.Av.get, codeL, shown, cntR], rfl⟩
theorem code_pc2 (n : Int) (h3 : 0 ≤ n) (h4 : n < 2160000) : Pc Tryz.prog 63 [.int .i64 2, .int .i64 n] (· = .str (codeL 2 n)) := by
  refine pc_intro (ct_intro Tryz.func63 rfl Tryz.ntmps63 hB63 (by simp) fun h ρ w => goB (N := 57) Tryz.ntmps63 300 ?_)
  simp only [go_sem]
  refine pcall1 (counted_pc _ (by decide)) rfl (N := 57) Tryz.ntmps63 rfl (goB (N := 57) Tryz.ntmps63 300 ?_)
  simp only [go_sem, cntR]
  refine ⟨by omega, by omega, by omega, ?_⟩
  refine adraw [.str (two (n / 25 / 3600)), .str (two (n / 25 / 60 % 60)), .str (two (n / 25 % 60)), .str (two (n % 25))] mixed (by decide) (N := 57) Tryz.ntmps63 (by decide) 100 ?_
  simp only [go_sem, two_len]
  repeat refine And.intro (by first | omega | rfl | exact (two_pc _ (by omega) (by omega)).at | (simp; done) | (simp; omega)) ?_
  refine goB (N := 57) Tryz.ntmps63 300 ?_
  simp only [go_sem]
  exact aret [4] rfl ⟨by simp [resV, Go.Av.get, codeL, shown, cntR], rfl⟩
theorem code_pc3 (n : Int) (h3 : 0 ≤ n) (h4 : n < 2592000) : Pc Tryz.prog 63 [.int .i64 3, .int .i64 n] (· = .str (codeL 3 n)) := by
  refine pc_intro (ct_intro Tryz.func63 rfl Tryz.ntmps63 hB63 (by simp) fun h ρ w => goB (N := 57) Tryz.ntmps63 300 ?_)
  simp only [go_sem]
  refine pcall1 (counted_pc _ (by decide)) rfl (N := 57) Tryz.ntmps63 rfl (goB (N := 57) Tryz.ntmps63 300 ?_)
  simp only [go_sem, cntR]
  refine ⟨by omega, by omega, by omega, ?_⟩
  refine adraw [.str (two (n / 30 / 3600)), .str (two (n / 30 / 60 % 60)), .str (two (n / 30 % 60)), .str (two (n % 30))] mixed (by decide) (N := 57) Tryz.ntmps63 (by decide) 100 ?_
  simp only [go_sem, two_len]
  repeat refine And.intro (by first | omega | rfl | exact (two_pc _ (by omega) (by omega)).at | (simp; done) | (simp; omega)) ?_
  refine goB (N := 57) Tryz.ntmps63 300 ?_
  simp only [go_sem]
  exact aret [4] rfl ⟨by simp [resV, Go.Av.get, codeL, shown, cntR], rfl⟩
theorem code_pc4 (n : Int) (h3 : 0 ≤ n) (h4 : n < 2589408) : Pc Tryz.prog 63 [.int .i64 4, .int .i64 n] (· = .str (codeL 4 n)) := by
  refine pc_intro (ct_intro Tryz.func63 rfl Tryz.ntmps63 hB63 (by simp) fun h ρ w => goB (N := 57) Tryz.ntmps63 300 ?_)
  by_cases hc : 1800 ≤ n % 17982
  · simp only [go_sem, hc]
    repeat refine And.intro (by first | omega | rfl | (simp; done) | (simp; omega)) ?_
    refine pcall1 (counted_pc _ (by decide)) rfl (N := 57) Tryz.ntmps63 rfl (goB (N := 57) Tryz.ntmps63 300 ?_)
    simp only [go_sem, cntR]
    refine ⟨by omega, by omega, by omega, ?_⟩
    refine adraw [.str (two ((n + 18 * (n / 17982) + (2 + 2 * ((n % 17982 - 1800) / 1798))) / 30 / 3600)), .str (two ((n + 18 * (n / 17982) + (2 + 2 * ((n % 17982 - 1800) / 1798))) / 30 / 60 % 60)), .str (two ((n + 18 * (n / 17982) + (2 + 2 * ((n % 17982 - 1800) / 1798))) / 30 % 60)), .str (two ((n + 18 * (n / 17982) + (2 + 2 * ((n % 17982 - 1800) / 1798))) % 30))] mixed (by decide) (N := 57) Tryz.ntmps63 (by decide) 100 ?_
    simp only [go_sem, two_len]
    repeat refine And.intro (by first | omega | rfl | exact (two_pc _ (by omega) (by omega)).at | (simp; done) | (simp; omega)) ?_
    refine goB (N := 57) Tryz.ntmps63 300 ?_
    simp only [go_sem]
    exact aret [4] rfl ⟨by simp [resV, Go.Av.get, codeL, shown, cntR, *], rfl⟩
  · simp only [go_sem, hc]
    repeat refine And.intro (by first | omega | rfl | (simp; done) | (simp; omega)) ?_
    refine pcall1 (counted_pc _ (by decide)) rfl (N := 57) Tryz.ntmps63 rfl (goB (N := 57) Tryz.ntmps63 300 ?_)
    simp only [go_sem, cntR]
    refine ⟨by omega, by omega, by omega, ?_⟩
    refine adraw [.str (two ((n + 18 * (n / 17982)) / 30 / 3600)), .str (two ((n + 18 * (n / 17982)) / 30 / 60 % 60)), .str (two ((n + 18 * (n / 17982)) / 30 % 60)), .str (two ((n + 18 * (n / 17982)) % 30))] mixed (by decide) (N := 57) Tryz.ntmps63 (by decide) 100 ?_
    simp only [go_sem, two_len]
    repeat refine And.intro (by first | omega | rfl | exact (two_pc _ (by omega) (by omega)).at | (simp; done) | (simp; omega)) ?_
    refine goB (N := 57) Tryz.ntmps63 300 ?_
    simp only [go_sem]
    exact aret [4] rfl ⟨by simp [resV, Go.Av.get, codeL, shown, cntR, *], rfl⟩

end Go.Proofs.YtkfpiadgjbhcpaaGreatDoor
