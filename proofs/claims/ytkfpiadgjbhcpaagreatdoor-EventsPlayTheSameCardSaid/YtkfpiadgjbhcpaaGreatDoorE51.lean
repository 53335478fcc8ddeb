/- Statements whose order is open and whose last operation waits for all others: it may be whatever operation. Own work of this seat. -/
import Derived.Test.YtkfpiadgjbhcpaaGreatDoorE35
import Derived.Test.YtkfpiadgjbhcpaaGreatDoorE15
import Derived.Test.YtkfpiadgjbhcpaaGreatDoorE14
import Derived.Test.YtkfpiadgjbhcpaaGreatDoorE50
import Derived.Test.YtkfpiadgjbhcpaaGreatDoorE22
set_option linter.unusedSimpArgs false
set_option linter.unusedVariables false
set_option linter.unusedSectionVars false
namespace Go.Av
open Go Go.RowKit
variable [Tr]

def iniO : List Oper → List Oper
  | [] => []
  | [_] => []
  | a :: b :: r => a :: iniO (b :: r)
def lasO : List Oper → Option Oper
  | [] => none
  | [a] => some a
  | _ :: b :: r => lasO (b :: r)
theorem ini_las : ∀ {l : List Oper} {o : Oper}, lasO l = some o → l = iniO l ++ [o]
  | [], _, h => by cases h
  | [a], o, h => by simp only [lasO, Option.some.injEq] at h; subst h; rfl
  | a :: b :: r, o, h => by
    have := ini_las (l := b :: r) (o := o) h
    rw [iniO, List.cons_append, ← this]
def okLast (ops : List Oper) (j i : Nat) : Bool := bif i + 1 == ops.length then false else match ops[i]?, ops[j]? with
  | some oi, some oj => oj.apart ops.toArray oi && together oj oi
  | _, _ => false

section
variable {c : Cx} {k : List It} {e : Env} {s : List Blk}
/-- whatever order is drawn, whatever is carried from operation to operation -/
theorem any_of_act {ops : List Oper} {okp : Nat → Nat → Bool} (Ch : List Nat → Act → World → Prop) (hok : drawOkG okp ops = true) (hnil : ∀ a w, Ch [] a w → WQ c k .normal a w)
    (hfr : ∀ l i r a w, (∀ j ∈ l, okp j i = true) → Ch (l ++ i :: r) a w → Ch (i :: (l ++ r)) a w)
    (hst : ∀ i o r a w (Kc : Act → World → Prop), ops[i]? = some o → Ch (i :: r) a w → (∀ a w, Ch r a w → Kc a w) →
      if Region.wanted o (yielded ops.toArray a.tmps) then o.wp c.P a w Kc (WQ c k) else Kc (a.put o.dst undef) w) : ∀ (fuel : Nat) (listed : Array Bool) (l : List Nat) (a : Act) (w : World), listed.size = ops.length →
    l = (List.range ops.length).filter (fun i => !listed.getD i true) → l.length = fuel → (∀ i, listed.getD i true = true → ∀ j ∈ waits ops i, listed.getD j true = true) →
    Ch l a w → wpAny c.P .any ops.toArray (WQ c k) fuel listed a w := by
  have hready : ∀ (listed : Array Bool) (i : Nat), i ∈ Region.ready .any ops.toArray listed ↔ i < ops.length ∧ listed.getD i true = false ∧ ∀ j ∈ waits ops i, listed.getD j false = true := by
    intro listed i
    unfold Region.ready
    simp only [List.mem_filter, List.mem_range, List.size_toArray, Bool.and_eq_true, Bool.not_eq_true']
    refine and_congr_right fun hi => and_congr_right fun _ => ?_
    have : ops[i]? = some ops[i] := by simp [hi]
    simp only [List.getElem?_toArray, this, Option.map_some, Option.getD_some, waits]
    rw [Array.all_eq_true_iff_forall_mem]
    constructor
    · intro h j hj
      simp only [List.mem_map, List.mem_filter, Array.mem_toList_iff] at hj
      obtain ⟨ed, ⟨h1, h2⟩, rfl⟩ := hj
      have := h ed h1
      simpa [h2] using this
    · intro h ed hed
      by_cases hb : Region.binds .any ed = true
      · have := h ed.on (by simp only [List.mem_map, List.mem_filter, Array.mem_toList_iff]; exact ⟨ed, ⟨hed, hb⟩, rfl⟩)
        simp [this]
      · simp [hb]
  have hback : ∀ i, i < ops.length → ∀ j ∈ waits ops i, j < i := by
    intro i hi j hj
    have := (List.all_eq_true.1 hok) i (by simpa using hi)
    simp only [Bool.and_eq_true] at this
    simpa using (List.all_eq_true.1 this.1) j hj
  intro fuel
  induction fuel with
  | zero =>
    intro listed l a w hsz hl hlen hcl hch
    have hnil : l = [] := List.eq_nil_of_length_eq_zero hlen
    subst hnil
    refine ⟨?_, hnil a w hch⟩
    apply List.eq_nil_iff_forall_not_mem.2
    intro i hi
    obtain ⟨h1, h2, _⟩ := (hready listed i).1 hi
    have : i ∈ (List.range ops.length).filter (fun i => !listed.getD i true) := List.mem_filter.2 ⟨by simpa using h1, by simp [h2]⟩
    rw [← hl] at this
    cases this
  | succ fuel ih =>
    intro listed l a w hsz hl hlen hcl hch
    have hmem : ∀ i, i ∈ l ↔ i < ops.length ∧ listed.getD i true = false := by
      intro i; rw [hl]; simp [List.mem_filter]
    refine ⟨fun hr => ?_, fun i hi => ?_⟩
    · exfalso
      cases hq : l with
      | nil => rw [hq] at hlen; simp at hlen
      | cons i r =>
        have hil : i ∈ l := by rw [hq]; simp
        obtain ⟨h1, h2⟩ := (hmem i).1 hil
        have : i ∈ Region.ready .any ops.toArray listed := by
          refine (hready listed i).2 ⟨h1, h2, fun j hj => ?_⟩
          have hlt := hback i h1 j hj
          have hjn : j ∉ l := by
            intro hjl
            have hs : l.Pairwise (· < ·) := by rw [hl]; exact List.Pairwise.filter _ List.pairwise_lt_range
            rw [hq] at hs hjl
            rcases List.mem_cons.1 hjl with rfl | hjr
            · omega
            · have := (List.pairwise_cons.1 hs).1 j hjr; omega
          have hjlt : j < listed.size := by omega
          have := fun hf => hjn ((hmem j).2 ⟨by omega, hf⟩)
          cases hv : listed.getD j true with
          | true => simpa [Array.getD, hjlt] using hv
          | false => exact (this hv).elim
        rw [hr] at this
        cases this
    · obtain ⟨h1, h2, h3⟩ := (hready listed i).1 hi
      have hil : i ∈ l := (hmem i).2 ⟨h1, h2⟩
      obtain ⟨l1, l2, hsplit⟩ := List.append_of_mem hil
      have ho : ops.toArray[i]? = some ops[i] := by simp [h1]
      have hs : l.Pairwise (· < ·) := by rw [hl]; exact List.Pairwise.filter _ List.pairwise_lt_range
      have hapart : ∀ j ∈ l1, okp j i = true := by
        intro j hj
        have hjl : j ∈ l := by rw [hsplit]; simp [hj]
        obtain ⟨hj1, hj2⟩ := (hmem j).1 hjl
        have hji : j < i := by
          rw [hsplit] at hs
          exact (List.pairwise_append.1 hs).2.2 j hj i (by simp)
        have := (List.all_eq_true.1 hok) i (by simpa using h1)
        simp only [Bool.and_eq_true] at this
        have := (List.all_eq_true.1 this.2) j (by simpa using hji)
        simp only [Bool.or_eq_true] at this
        rcases this with h4 | h4
        · exact h4
        · exfalso
          have hm : j ∈ anc ops ops.length i := by simpa using h4
          have hw3 : ∀ j ∈ waits ops i, listed.getD j true = true := by
            intro j hj
            have h5 := h3 j hj
            have hjlt : j < listed.size := by have := hback i h1 j hj; omega
            simpa [Array.getD, hjlt] using h5
          have := anc_listed (L := fun j => listed.getD j true = true) hcl ops.length i hw3 j hm
          rw [this] at hj2
          cases hj2
      rw [hsplit] at hch
      have hfront := hfr l1 i l2 a w hapart hch
      have hlist : ∀ j, (listed.setIfInBounds i true).getD j true = if j = i then true else listed.getD j true := by
        intro j
        by_cases hj : j = i
        · subst hj
          have : j < listed.size := by omega
          simp [this]
        · rw [if_neg hj]
          simp [Array.getElem?_setIfInBounds_ne (Ne.symm hj)]
      have hnext : l1 ++ l2 = (List.range ops.length).filter (fun j => !(listed.setIfInBounds i true).getD j true) := by
        have e1 : (fun j => !(listed.setIfInBounds i true).getD j true) = fun j => (!listed.getD j true) && decide (j ≠ i) := by
          funext j
          rw [hlist]
          by_cases hj : j = i <;> simp [hj]
        have e2 : (List.range ops.length).filter (fun j => (!listed.getD j true) && decide (j ≠ i)) = l.filter (fun j => decide (j ≠ i)) := by
          rw [hl, List.filter_filter]
          congr 1
          funext j
          rw [Bool.and_comm]
        rw [e1, e2, hsplit]
        have hn : l.Nodup := hs.imp (fun h => Nat.ne_of_lt h)
        rw [hsplit] at hn
        have hn1 : i ∉ l1 := fun hh => (List.nodup_append.1 hn).2.2 i hh i (by simp) rfl
        have hn2 : i ∉ l2 := (List.nodup_cons.1 (List.nodup_append.1 hn).2.1).1
        simp only [List.filter_append, List.filter_cons]
        have f1 : ∀ x : List Nat, i ∉ x → x.filter (fun j => decide (j ≠ i)) = x := by
          intro x hx
          rw [List.filter_eq_self]
          intro y hy
          simp
          intro h; subst h; exact hx hy
        rw [f1 l1 hn1, f1 l2 hn2]
        simp
      have hgo : ∀ a w, Ch (l1 ++ l2) a w → wpAny c.P .any ops.toArray (WQ c k) fuel (listed.setIfInBounds i true) a w := fun a' w' hrest =>
        ih (listed.setIfInBounds i true) (l1 ++ l2) a' w' (by simpa using hsz) hnext (by rw [hsplit] at hlen; simp at hlen ⊢; omega) (fun j hj m hm => by
          rw [hlist] at hj ⊢
          by_cases hmi : m = i
          · simp [hmi]
          · rw [if_neg hmi]
            by_cases hji : j = i
            · subst hji
              have h5 := h3 m hm
              have hmlt : m < listed.size := by have := hback j h1 m hm; omega
              simpa [Array.getD, hmlt] using h5
            · rw [if_neg hji] at hj
              exact hcl j hj m hm) hrest
      have hw := hst i ops[i] (l1 ++ l2) a w _ (by simp [h1]) hfront hgo
      unfold wpOp
      rw [ho]
      simp only
      by_cases hwant : Region.wanted ops[i] (yielded ops.toArray a.tmps) = true
      · rw [if_pos hwant] at hw ⊢
        exact .inl hw
      · rw [if_neg hwant] at hw ⊢
        exact hw



theorem chain_pre {K : Env → List Blk → Prop} {all : List Oper} : ∀ {r : List Oper} {m n : Nat} {cs : List AV} {e : Env} {s : List Blk}, (∀ (j : Nat) (o : Oper), r[j]? = some o → all[m + j]? = some o) → dxk c all K n r cs e s → Chain c all.toArray K (List.range' m r.length) e s
  | [], m, n, cs, e, s, _, h => by
    rw [dxk] at h
    exact h
  | o :: r, m, n, cs, e, s, hr, h => by
    obtain ⟨cv, v, n', cs', s', h1, h2⟩ := dxk_step h
    have h0 : all.toArray[m]? = some o := by have := hr 0 o rfl; simpa using this
    simp only [List.length_cons, List.range'_succ, Chain, h0]
    exact ⟨cv, v, s', h1, chain_pre (fun j o' hj => by have := hr (j + 1) o' (by simpa using hj); simpa [Nat.add_assoc, Nat.add_comm 1 j] using this) h2⟩

def KLast (c : Cx) (k : List It) (ops : List Oper) (last : Oper) (e : Env) (s : List Blk) : Prop := AWp c (.op ops last [] :: k) e s
theorem KLast.K {ops : List Oper} {last : Oper} : ∀ e e' s, Eqv e e' → KLast c k ops last e s → KLast c k ops last e' s := fun _ _ _ h x => AWp.eqv h x
def ChLast (c : Cx) (k : List It) (ops : List Oper) (last : Oper) (m : Nat) (l : List Nat) (a : Act) (w : World) : Prop :=
  (l = [] ∧ WQ c k .normal a w) ∨ ∃ l' e s, l = l' ++ [m] ∧ (∀ j ∈ l', j < m) ∧ Chain c ops.toArray (KLast c k ops last) l' e s ∧ Sim c e s a w

/-- A STATEMENT WHOSE ORDER IS OPEN, but for its last operation: with that one the walk goes on. -/
theorem adrawLast (cs : List AV) {id : Nat} {ops : List Oper} {last : Oper} (hlast : lasO ops = some last) (hm : c.P.follows .mixedOrders = true) (hok : drawOkG (okLast ops) ops = true) (hg : last.guard = none) {N : Nat} (hN : c.fn.ntmps = N) (hdst : ops.all (fun o => dOk N o.dst) = true) (n : Nat)
    (h : dxk c ops (KLast c k ops last) n (iniO ops) cs e s) : AWp c (.code (.region id ops.toArray true) :: k) e s := by
  intro a w hsim
  have hsp := ini_las hlast
  have hlen : ops.length = (iniO ops).length + 1 := by
    have := congrArg List.length hsp
    simpa using this
  have hch := chain_pre (m := 0) (r := iniO ops) (all := ops) (by
    intro j o hj
    rw [Nat.zero_add, hsp, List.getElem?_append_left (List.getElem?_eq_some_iff.1 hj).1]
    exact hj) h
  rw [← List.range_eq_range'] at hch
  generalize hpl : (iniO ops).length = m at *
  have hlm : ops[m]? = some last := by
    rw [hsp, List.getElem?_append_right (by omega), hpl]
    simp
  refine wp_region_any hm ?_
  have hsim' : Sim c e s a { w with drawn := w.drawn + 1 } := by
    obtain ⟨hh, ρ, hmm, hl, he, hdf, hsz, hX⟩ := hsim
    have sm : Same w { w with drawn := w.drawn + 1 } := Same.drew w
    exact ⟨hh, ρ, hmm.same sm, hl.trans (Later.same sm), he, hdf, hsz, c.hx.later hmm (Later.same sm) hX⟩
  have hd : ∀ o ∈ ops, dOk c.fn.ntmps o.dst = true := fun o ho => by rw [hN]; exact (List.all_eq_true.1 hdst) o ho
  refine any_of_act (okp := okLast ops) (ChLast c k ops last m) hok (fun a w x => ?_) (fun l i r a w hj x => ?_) (fun i o r a w Kc ho x hK => ?_)
    ops.length (Array.replicate ops.length false) (List.range ops.length) a _ (by simp) ?_ (by simp) ?_ (.inr ⟨List.range m, e, s, by rw [hlen, List.range_succ], fun j hj => by simpa using hj, hch, hsim'⟩)
  · rcases x with ⟨_, x⟩ | ⟨l', e, s, hl, _⟩
    · exact x
    · simp at hl
  · rcases x with ⟨hl, _⟩ | ⟨l', e, s, hl, hlt, hc, hs⟩
    · simp at hl
    · cases l with
      | nil => exact .inr ⟨l', e, s, by simpa using hl, hlt, hc, hs⟩
      | cons j0 l0 =>
        have him : i ≠ m := fun e => by
          have := hj j0 (by simp)
          unfold okLast at this
          have hb : (i + 1 == ops.length) = true := by rw [e, hlen]; simp
          rw [hb] at this
          cases this
        have hr : r ≠ [] := fun e => by
          subst e
          have hl3 : (j0 :: l0) ++ [i] = l' ++ [m] := by simpa using hl
          have := (List.append_inj' hl3 rfl).2
          simp at this
          exact him this
        obtain ⟨r', x', rfl⟩ : ∃ r' x', r = r' ++ [x'] := ⟨r.dropLast, r.getLast hr, (List.dropLast_concat_getLast hr).symm⟩
        have hl2 : ((j0 :: l0) ++ i :: r') ++ [x'] = l' ++ [m] := by simpa using hl
        obtain ⟨h1, h2⟩ := List.append_inj' hl2 rfl
        simp only [List.cons.injEq, and_true] at h2
        subst h2
        subst h1
        refine .inr ⟨i :: ((j0 :: l0) ++ r'), e, s, by simp, fun j hj => hlt j (by simp at hj ⊢; rcases hj with h | h | h | h <;> simp [h]), ?_, hs⟩
        cases hi : ops[i]? with
        | none =>
          have := hj j0 (by simp)
          unfold okLast at this
          have hb : (i + 1 == ops.length) = false := by rw [hlen]; simpa using him
          simp [hb, hi] at this
        | some oi =>
          refine Chain.front KLast.K (oi := oi) (by simpa using hi) (fun j hjl => ?_) hc
          have := hj j hjl
          unfold okLast at this
          have hb : (i + 1 == ops.length) = false := by rw [hlen]; simpa using him
          rw [hb, hi] at this
          simp only [cond_false] at this
          cases hq : ops[j]? with
          | none => simp [hq] at this
          | some oj =>
            rw [hq] at this
            simp only [Bool.and_eq_true] at this
            exact ⟨oj, by simpa using hq, this.1, this.2⟩
  · rcases x with ⟨hl, _⟩ | ⟨l', e, s, hl, hlt, hc, hs⟩
    · simp at hl
    · cases l' with
      | nil =>
        simp only [List.nil_append, List.cons.injEq] at hl
        obtain ⟨rfl, rfl⟩ := hl
        rw [hlm] at ho
        cases ho
        rw [if_pos (by simp [Region.wanted, hg])]
        have h1 : AWp c (.op ops last [] :: k) e s := hc
        have h2 : last.wp c.P a w (wpList c.P ops.toArray (WQ c k) []) (WQ c k) := h1 a w hs (hd last (List.mem_of_getElem? hlm))
        exact Oper.wp_mono (fun a w hh => hK a w (.inl ⟨rfl, hh⟩)) h2
      | cons i' r' =>
        simp only [List.cons_append, List.cons.injEq] at hl
        obtain ⟨rfl, rfl⟩ := hl
        have ho' : ops.toArray[i]? = some o := by simpa using ho
        simp only [Chain, ho'] at hc
        obtain ⟨cv, v, s', h1, h2⟩ := hc
        exact does_wp hs (hd o (List.mem_of_getElem? ho)) h1 fun a w hs' => hK a w (.inr ⟨r', _, _, rfl, fun j hj => hlt j (by simp [hj]), h2, hs'⟩)
  · symm
    rw [List.filter_eq_self]
    intro i hi
    simp at hi
    simp [hi]
  · intro i hi j hj
    exfalso
    by_cases h1 : i < ops.length
    · simp [h1] at hi
    · unfold waits at hj
      have : ops[i]? = none := by simp; omega
      simp [this] at hj

end
end Go.Av
namespace Go.Av
open Go Go.RowKit

section
variable {T e : TypeId} {B b : Nat} {l : List UInt8} {c : Cx} {k : List It} {en : Env} {s : List Blk}

/-- what is said of the world: a builder's text -/
@[reducible] def Cx.bld (c : Cx) (T e : TypeId) (B b : Nat) (l : List UInt8) : Cx := { c with x := BldA T e B b l, hx := bld_stb T e B b l }

theorem bld_self {c : Cx} {T e : TypeId} {B b : Nat} {l : List UInt8} (hx : c.x = BldA T e B b l) : c.bld T e B b l = c := by
  cases c
  simp only at hx
  subst hx
  rfl

/-- a loop whose rounds write to a builder -/
theorem bloop {c : Cx} {k : List It} {T e : TypeId} {B b : Nat} {C : Code} {ι : Type} (μ : ι → Nat) (E : ι → Env) (S : ι → List Blk) (L : ι → List UInt8) (H : ι → Prop) (x0 : ι) (hx : c.x = BldA T e B b (L x0)) (hH : H x0) {en : Env} {s : List Blk}
    (hs : Shift c en s (E x0) (S x0))
    (step : ∀ x, H x → (∀ y, H y → μ y < μ x → ∀ l', l' = L y → ∀ e' s', Shift (c.bld T e B b l') e' s' (E y) (S y) → AWp (c.bld T e B b l') (.inv (Hd c.P C (WQ c k)) :: k) e' s') →
      AWp (c.bld T e B b (L x)) (.code C :: .inv (Hd c.P C (WQ c k)) :: k) (E x) (S x)) :
    AWp c (.code (.loop C) :: k) en s := by
  refine AWp.shift hs (aenter ?_)
  have key : ∀ n x, μ x = n → H x → AHd (c.bld T e B b (L x)) C k (E x) (S x) := by
    intro n
    induction n using Nat.strongRecOn with
    | _ n ih =>
      rintro x rfl hx
      have h1 := step x hx (fun y hy hlt l' hl' e' s' sh => by
        subst hl'
        exact AWp.shift sh (aagain_x (c0 := c) rfl (ih _ hlt y rfl hy)))
      have e1 : WQ (c.bld T e B b (L x)) k = WQ c k := WQ_x c _ _ k
      refine around ?_
      show AWp _ (.code C :: .inv (Hd c.P C (WQ (c.bld T e B b (L x)) k)) :: k) _ _
      rw [e1]
      exact h1
  have := key _ x0 rfl hH
  rwa [bld_self hx] at this
end
end Go.Av
set_option maxRecDepth 100000
namespace Go.Proofs.YtkfpiadgjbhcpaaGreatDoor
open Go Go.Av Go.RowKit

/-- a number with at least three digits -/
def num3 (n : Int) : List UInt8 := Lib.repeatL [48] (3 - (dig3 n).length) ++ dig3 n
theorem num3_pch {S : Std} (hS : LibOk S) (n : Int) (h0 : 0 ≤ n) (h1 : n ≤ 999) : PcH Tryz.prog S 62 [.int .i64 n] (· = .str (num3 n)) := by
  have hi := itoa_pch hS n (by omega) (by omega)
  rw [itoa_dig3 h0 h1] at hi
  have hl := dig3_len n
  have hr := repeat_pc [48] (3 - (dig3 n).length) (by simp; omega) (by omega)
  have e1 : ((3 : Int) - ((dig3 n).length : Int)) = ((3 - (dig3 n).length : Nat) : Int) := by omega
  refine pch_intro (cth_intro Tryz.func62 rfl Tryz.ntmps62 hB62 (by simp) fun h ρ w hg => goB (N := 13) Tryz.ntmps62 300 ?_)
  simp only [go_sem]
  refine pcallH1 hg (hi) rfl (N := 13) Tryz.ntmps62 rfl (goB (N := 13) Tryz.ntmps62 300 ?_)
  simp only [go_sem]
  repeat refine And.intro (by first | omega | rfl | (simp; done) | (simp; omega)) ?_
  rw [if_neg (by omega), e1]
  refine pcall1 (hr) rfl (N := 13) Tryz.ntmps62 rfl (goB (N := 13) Tryz.ntmps62 300 ?_)
  simp only [go_sem, Lib.repeatL_length, List.length_cons, List.length_nil]
  repeat refine And.intro (by first | omega | rfl | (simp; done) | (simp; omega)) ?_
  exact aret [2] rfl ⟨rfl, rfl⟩
theorem code_pc (r n : Int) (h : 1 ≤ r ∧ r ≤ 4) (h3 : 0 ≤ n) (h4 : n < dayR r) : Pc Tryz.prog 63 [.int .i64 r, .int .i64 n] (· = .str (codeL r n)) := by
  obtain ⟨h1, h2⟩ := h
  obtain rfl | rfl | rfl | rfl : r = 1 ∨ r = 2 ∨ r = 3 ∨ r = 4 := by omega
  · exact code_pc1 n h3 (by simpa [dayR] using h4)
  · exact code_pc2 n h3 (by simpa [dayR] using h4)
  · exact code_pc3 n h3 (by simpa [dayR] using h4)
  · exact code_pc4 n h3 (by simpa [dayR] using h4)
theorem codeL_len (r n : Int) : (codeL r n).length = 11 := rfl
def lineE (r : Rl) (i : Nat) (at' : Int) (e : Ev) : List UInt8 := Lib.join [num3 ((i : Int) + 1), r.name, codeL r.rate e.inn, codeL r.rate (e.out - 1), codeL r.rate at', codeL r.rate (at' + (e.out - e.inn) - 1)] [32]
/-- written events, from number i on -/
def printE (r : Rl) : Nat → Int → List Ev → List UInt8
  | _, _, [] => []
  | i, a, e :: t => lineE r i a e ++ [10] ++ printE r (i + 1) (a + (e.out - e.inn)) t
theorem num3_len (n : Int) : (num3 n).length ≤ 6 := by
  have := dig3_len n
  simp only [num3, List.length_append]
  have h2 := Lib.repeatL_length [48] (3 - (dig3 n).length)
  simp only [List.length_cons, List.length_nil] at h2
  omega
theorem lineE_len (r : Rl) (hn : r.name.length < 100) (i : Nat) (a : Int) (e : Ev) : (lineE r i a e).length ≤ 700 := by
  unfold lineE
  have h1 := join_len (sep := [32]) (m := 100) (ls := [num3 ((i : Int) + 1), r.name, codeL r.rate e.inn, codeL r.rate (e.out - 1), codeL r.rate a, codeL r.rate (a + (e.out - e.inn) - 1)]) (fun x hx => by
    have := num3_len ((i : Int) + 1)
    simp only [List.mem_cons, List.not_mem_nil, or_false] at hx
    rcases hx with rfl | rfl | rfl | rfl | rfl | rfl <;> first | omega | (rw [codeL_len]; decide))
  simp only [List.length_cons, List.length_nil] at h1
  omega
theorem printE_at (r : Rl) (es : List Ev) (i : Nat) (a : Int) (h : i < es.length) : printE r i a (es.drop i) = lineE r i a es[i] ++ [10] ++ printE r (i + 1) (a + (es[i].out - es[i].inn)) (es.drop (i + 1)) := by
  rw [List.drop_eq_getElem_cons h]
  rfl
theorem bzero : ∃ i, Tryz.prog.info? 132 = some i ∧ i.zero = some (.agg #[.pointer none, .slice none 0 0]) := Option.map_eq_some_iff.1 (show (Tryz.prog.info? 132).map (·.zero) = some (some (.agg #[.pointer none, .slice none 0 0])) by kernel_rfl)
set_option maxHeartbeats 8000000 in
theorem printEvents_pch {S : Std} (hS : LibOk S) (r : Rl) (rs : List Rl) (hr : RollsOk (r :: rs)) (hn : ∀ y ∈ r :: rs, y.name ∈ RnL) (hrl : rs.length ≤ 200) (es : List Ev) (hv : EvsOk r es) :
    PcH Tryz.prog S 21 [.fz 5 ((r :: rs).map rlA), .fz 3 (es.map evA)] (· = .tup [.str (printE r 0 0 es), .int .i64 0]) := by
  obtain ⟨zi, hi, hz⟩ := bzero
  have hch := checkRolls_pc (r :: rs) hr hn
  have hro := rollOf_pc r rs hrl
  have hef := eventsFault_pc r rs hr hrl es hv
  obtain ⟨hro0, _⟩ := hr.at' 0 r rfl
  have hrate := hro0.rate
  have hnl := rnL_bd _ (hn r (by simp))
  have hdb : 0 ≤ dayR r.rate ∧ dayR r.rate ≤ 2592000 := by
    obtain h | h | h | h : r.rate = 1 ∨ r.rate = 2 ∨ r.rate = 3 ∨ r.rate = 4 := by omega
    all_goals rw [h]; decide
  have hsl := fun i => sumE_le hv.lt i
  have hsum := hv.sum
  have hel := hv.len
  simp only [List.map_cons, rlA] at hch hro hef ⊢
  obtain ⟨RS, hRS⟩ : ∃ z, z = AV.agg [.str r.name, .int .i64 r.rate, .int .i64 r.start, .int .i64 r.long, .int .i64 r.drift] :: rs.map rlA := ⟨_, rfl⟩
  simp only [← hRS] at hch hro hef ⊢
  clear hRS
  refine pch_intro (cthm_intro Tryz.func21 rfl Tryz.ntmps21 hB21 (by simp) fun h ρ w hg hm => goB (N := 81) Tryz.ntmps21 300 ?_)
  simp only [go_sem]
  refine pcall1 (hch) rfl (N := 81) Tryz.ntmps21 rfl (goB (N := 81) Tryz.ntmps21 300 ?_)
  simp only [go_sem]
  refine pcall1 hef rfl (N := 81) Tryz.ntmps21 rfl (goB (N := 81) Tryz.ntmps21 15 ?_)
  simp only [go_sem]
  refine bstart (T := 132) (t := 8) rfl rfl rfl (N := 81) Tryz.ntmps21 (by decide) hi hz 5 ?_
  intro b hb
  refine goB (N := 81) Tryz.ntmps21 300 ?_
  simp only [go_sem, List.length_map]
  refine bloop (ι := Nat × List UInt8) (fun y => es.length - y.1)
    (fun y => [(28, .int .i64 y.1), (27, .int .i64 es.length), (26, .fz 3 (es.map evA)), (9, .int .i64 (sumE (es.take y.1))), (8, .raw (.pointer (some ⟨b, 0, none⟩))), (0, .fz 5 RS)])
    (fun _ => []) (fun y => y.2) (fun y => y.1 ≤ es.length ∧ y.2.length ≤ y.1 * 701 ∧ y.2 ++ printE r y.1 (sumE (es.take y.1)) (es.drop y.1) = printE r 0 0 es) (0, []) rfl ⟨by simp, by simp, by simp [sumE]⟩ ?_ ?_
  · refine Shift.weak ?_
    simp only [wk, go_sem, List.length_map, List.take_zero, sumE]
  · rintro ⟨i, l⟩ ⟨g1, g2, g3⟩ hJ
    simp only at g1 g2 g3 hJ ⊢
    have hsi := hsl i
    by_cases gi : i < es.length
    · have di : decide ((i : Int) < (es.length : Int)) = true := by simp; omega
      have hget := evA_get es i gi
      have hp := printE_at r es i (sumE (es.take i)) gi
      rw [hp] at g3
      have hss := sumE_step es i gi
      have hsi2 := hsl (i + 1)
      rw [hss] at hsi2
      have he1 := hv.roll _ (List.getElem_mem gi)
      have he2 := hv.lt _ (List.getElem_mem gi)
      have he4 := hv.bd _ (List.getElem_mem gi)
      have hll := lineE_len r hnl i (sumE (es.take i)) es[i]
      have hnum := num3_pch hS ((i : Int) + 1) (by omega) (by omega)
      have c1 := code_pc r.rate es[i].inn hrate (by omega) (by omega)
      have c2 := code_pc r.rate (es[i].out - 1) hrate (by omega) (by omega)
      have c3 := code_pc r.rate (sumE (es.take i)) hrate (by omega) (by omega)
      have c4 := code_pc r.rate (sumE (es.take i) + (es[i].out - es[i].inn) - 1) hrate (by omega) (by omega)
      have hj := djoin_pc [num3 ((i : Int) + 1), r.name, codeL r.rate es[i].inn, codeL r.rate (es[i].out - 1), codeL r.rate (sumE (es.take i)), codeL r.rate (sumE (es.take i) + (es[i].out - es[i].inn) - 1)] [32] (by simp) (by
        have : (lineE r i (sumE (es.take i)) es[i]).length ≤ 140737488355328 := by omega
        exact this)
      have hfin := hJ (i + 1, l ++ (lineE r i (sumE (es.take i)) es[i] ++ [10])) ⟨by simp only; omega, by simp only [List.length_append, List.length_cons, List.length_nil]; omega, by
        simp only
        rw [hss, List.append_assoc]
        simpa only [List.append_assoc] using g3⟩ (by simp only; omega)
      simp only at hfin
      rw [hss] at hfin
      simp only [strs, List.map_cons, List.map_nil] at hj
      rw [show Lib.join [num3 ((i : Int) + 1), r.name, codeL r.rate es[i].inn, codeL r.rate (es[i].out - 1), codeL r.rate (sumE (es.take i)), codeL r.rate (sumE (es.take i) + (es[i].out - es[i].inn) - 1)] [32] = lineE r i (sumE (es.take i)) es[i] from rfl] at hj
      obtain ⟨LL, hLL⟩ : ∃ z, z = lineE r i (sumE (es.take i)) es[i] := ⟨_, rfl⟩
      rw [← hLL] at hj hll hfin
      obtain ⟨A, hA⟩ : ∃ z, z = sumE (es.take i) := ⟨_, rfl⟩
      rw [← hA] at c3 c4 hj hfin hsi hsi2 ⊢
      clear hJ hp g3 hss hLL
      generalize es[i] = e at *
      rw [he1] at hget
      refine goB (N := 81) Tryz.ntmps21 300 ?_
      simp only [go_sem, di, hget, List.length_map]
      repeat refine And.intro (by first | omega | rfl | (simp; done) | (simp; omega)) ?_
      refine pcall1 (hro) rfl (N := 81) Tryz.ntmps21 rfl (goB (N := 81) Tryz.ntmps21 300 ?_)
      simp only [go_sem]
      repeat refine And.intro (by first | omega | rfl | (simp; done) | (simp; omega)) ?_
      refine adrawLast [.str (num3 ((i : Int) + 1)), .str (codeL r.rate e.inn), .str (codeL r.rate (e.out - 1)), .str (codeL r.rate A), .str (codeL r.rate (A + (e.out - e.inn) - 1)), .str LL] rfl mixed (by decide) rfl (N := 81) Tryz.ntmps21 (by decide) 100 ?_
      simp only [go_sem, runR, contR, brR, step1R, resNR, stopNR, exitNR, dxk, dxkc, dbrk, ↓brR_true, ↓brR_false, ↓dbrk_true, ↓dbrk_false, iniO, KLast]
      repeat refine And.intro (by first | omega | exact PcH.at hg hnum | exact c1.at | exact c2.at | exact c3.at | exact c4.at | exact hj.at | rfl | (simp; done) | (simp; omega)) ?_
      refine goB (N := 81) Tryz.ntmps21 300 ?_
      simp only [go_sem]
      refine bwrite write_c rfl rfl (N := 81) Tryz.ntmps21 rfl (by simp only [List.length_append, List.length_cons, List.length_nil]; omega) (goB (N := 81) Tryz.ntmps21 300 ?_)
      simp only [go_sem]
      repeat refine And.intro (by first | omega | rfl | (simp; done) | (simp; omega)) ?_
      rw [show (i : Int) + 1 = ((i + 1 : Nat) : Int) by omega]
      refine hfin _ rfl _ _ ?_
      refine Shift.low 0 (by simp) (by simp) rfl ?_
      simp only [wkl, lowV, lowC, Av.get, go_sem]
    · have hie : i = es.length := by omega
      have di : decide ((i : Int) < (es.length : Int)) = false := by simp; omega
      have hl : l = printE r 0 0 es := by
        rw [hie, List.drop_length] at g3
        simpa [printE] using g3
      clear hJ
      refine goB (N := 81) Tryz.ntmps21 300 ?_
      simp only [go_sem, di]
      refine bstring string_c rfl rfl rfl hm (N := 81) Tryz.ntmps21 rfl (goB (N := 81) Tryz.ntmps21 300 ?_)
      simp only [go_sem]
      exact aret [4, 5] rfl ⟨by rw [hl]; rfl, rfl⟩
theorem idx_none' (c : UInt8) : ∀ w : List UInt8, c ∉ w → Lib.index w [c] = -1
  | [], _ => rfl
  | a :: w, h => by
    have ih := idx_none' c w fun hm => h (by simp [hm])
    have h2 : ¬ c = a := fun e => h (by simp [e])
    simp [Lib.index, ih, h2]
theorem idx_at (c : UInt8) (r : List UInt8) : ∀ w : List UInt8, c ∉ w → Lib.index (w ++ c :: r) [c] = w.length
  | [], _ => by simp [Lib.index]
  | a :: w, h => by
    have ih := idx_at c r w fun hm => h (by simp [hm])
    have h2 : ¬ c = a := fun e => h (by simp [e])
    simp [Lib.index, ih, h2]
    try omega
theorem splitL_eq (s : List UInt8) (c : UInt8) : splitL s [c] = Lib.splitK [c] 0 (Lib.count s [c]) s := by
  unfold splitL
  rw [Lib.splitB_data]
  try rfl
theorem splitL_none (c : UInt8) (w : List UInt8) (h : c ∉ w) : splitL w [c] = [w] := by
  rw [splitL_eq, Lib.count_miss (idx_none' c w h)]
  rfl
theorem splitL_cons (c : UInt8) (w r : List UInt8) (h : c ∉ w) : splitL (w ++ c :: r) [c] = w :: splitL r [c] := by
  have hi := idx_at c r w h
  rw [splitL_eq, Lib.count_hit (by simp) hi, splitL_eq]
  have hd : (w ++ c :: r).drop (w.length + [c].length) = r := by
    rw [List.drop_append]
    simp
  rw [hd, Nat.add_comm, Lib.splitK]
  have hb : ((w.length : Int) == -1) = false := by rw [beq_eq_false_iff_ne]; omega
  rw [hi, hb]
  simp
theorem splitL_join (c : UInt8) : ∀ (w : List UInt8) (ws : List (List UInt8)), (∀ x ∈ w :: ws, c ∉ x) → splitL (Lib.join (w :: ws) [c]) [c] = w :: ws
  | w, [], h => by
    rw [Lib.join_cons]
    rw [show Lib.joinTail [c] [] = [] from rfl, List.append_nil]
    exact splitL_none c w (h w (by simp))
  | w, v :: ws, h => by
    have ih := splitL_join c v ws fun x hx => h x (by simp [hx])
    rw [Lib.join_cons] at ih ⊢
    have e : Lib.joinTail [c] (v :: ws) = c :: (v ++ Lib.joinTail [c] ws) := by simp [Lib.joinTail]
    rw [e, splitL_cons c w _ (h w (by simp)), ih]
def clean (s : List UInt8) : Prop := 32 ∉ s ∧ 10 ∉ s
theorem dg_ne {x : Int} (h0 : 0 ≤ x) (h1 : x ≤ 9) : dg x ≠ 32 ∧ dg x ≠ 10 := by
  have h := dg_is h0 h1
  unfold isDg at h
  constructor <;> intro e <;> rw [e] at h <;> exact absurd h (by decide)
theorem num3_clean (n : Int) (h0 : 0 ≤ n) (h1 : n ≤ 999) : clean (num3 n) := by
  have h : (List.range 1000).all (fun k => !(num3 (k : Int)).contains 32 && !(num3 (k : Int)).contains 10) = true := by decide +kernel
  rw [List.all_eq_true] at h
  have := h n.toNat (by simp; omega)
  rw [show ((n.toNat : Nat) : Int) = n by omega] at this
  simp only [Bool.and_eq_true, Bool.not_eq_true', List.contains_eq_mem, decide_eq_false_iff_not] at this
  exact this
theorem code_clean (r n : Int) (h : 1 ≤ r ∧ r ≤ 4) (h3 : 0 ≤ n) (h4 : n < dayR r) : clean (codeL r n) := by
  obtain ⟨s0, s1⟩ := shown_lt r n h.1 h.2 h3 h4
  have hc : cntR r = 24 ∨ cntR r = 25 ∨ cntR r = 30 := by unfold cntR; split; exact .inl rfl; split; exact .inr (.inl rfl); exact .inr (.inr rfl)
  rw [codeL_eq]
  generalize shown r n = m at *
  have k : ∀ x : Int, 0 ≤ x → x ≤ 99 → (dg (x / 10) ≠ 32 ∧ dg (x / 10) ≠ 10) ∧ (dg (x % 10) ≠ 32 ∧ dg (x % 10) ≠ 10) := fun x a b => ⟨dg_ne (by omega) (by omega), dg_ne (by omega) (by omega)⟩
  have kA := k (nA m (cntR r)) (by unfold nA; rcases hc with e | e | e <;> rw [e] at s1 ⊢ <;> omega) (by unfold nA; rcases hc with e | e | e <;> rw [e] at s1 ⊢ <;> omega)
  have kB := k (nB m (cntR r)) (by unfold nB; rcases hc with e | e | e <;> rw [e] at s1 ⊢ <;> omega) (by unfold nB; rcases hc with e | e | e <;> rw [e] at s1 ⊢ <;> omega)
  have kC := k (nC m (cntR r)) (by unfold nC; rcases hc with e | e | e <;> rw [e] at s1 ⊢ <;> omega) (by unfold nC; rcases hc with e | e | e <;> rw [e] at s1 ⊢ <;> omega)
  have kD := k (nD m (cntR r)) (by unfold nD; rcases hc with e | e | e <;> rw [e] at s1 ⊢ <;> omega) (by unfold nD; rcases hc with e | e | e <;> rw [e] at s1 ⊢ <;> omega)
  obtain ⟨⟨a1, a2⟩, a3, a4⟩ := kA
  obtain ⟨⟨b1, b2⟩, b3, b4⟩ := kB
  obtain ⟨⟨c1, c2⟩, c3, c4⟩ := kC
  obtain ⟨⟨d1, d2⟩, d3, d4⟩ := kD
  have hco : (if r = 4 then (59 : UInt8) else 58) ≠ 32 ∧ (if r = 4 then (59 : UInt8) else 58) ≠ 10 := by split <;> decide
  constructor
  · intro hm
    simp only [List.mem_cons, List.not_mem_nil, or_false] at hm
    rcases hm with e | e | e | e | e | e | e | e | e | e | e
    all_goals first | exact a1 e.symm | exact a3 e.symm | exact b1 e.symm | exact b3 e.symm | exact c1 e.symm | exact c3 e.symm | exact d1 e.symm | exact d3 e.symm | exact hco.1 e.symm | exact absurd e (by decide)
  · intro hm
    simp only [List.mem_cons, List.not_mem_nil, or_false] at hm
    rcases hm with e | e | e | e | e | e | e | e | e | e | e
    all_goals first | exact a2 e.symm | exact a4 e.symm | exact b2 e.symm | exact b4 e.symm | exact c2 e.symm | exact c4 e.symm | exact d2 e.symm | exact d4 e.symm | exact hco.2 e.symm | exact absurd e (by decide)
theorem name_clean {s : List UInt8} (h : s ∈ RnL) (h2 : rnR s = true) : clean s := by
  have := (rnL_roll s h h2).1
  rw [List.all_eq_true] at this
  constructor
  · intro hm; exact absurd (this _ hm) (by decide)
  · intro hm; exact absurd (this _ hm) (by decide)
end Go.Proofs.YtkfpiadgjbhcpaaGreatDoor
