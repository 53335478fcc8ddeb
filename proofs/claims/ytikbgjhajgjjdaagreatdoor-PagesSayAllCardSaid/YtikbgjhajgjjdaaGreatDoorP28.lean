/- Statements whose order is open and whose last operation waits for all others: it may be whatever operation. Own work of this seat. -/
import Derived.Test.YtikbgjhajgjjdaaGreatDoorP20
import Derived.Test.YtikbgjhajgjjdaaGreatDoorP26
set_option linter.unusedSimpArgs false
set_option linter.unusedVariables false
namespace Go.Av
open Go Go.RowKit

def iniO : List Oper → List Oper
  | [] => []
  | [_] => []
  | a :: b :: r => a :: iniO (b :: r)
def lasO : List Oper → Option Oper
  | [] => none
  | [a] => some a
  | _ :: b :: r => lasO (b :: r)
theorem ini_las : ∀ {l : List Oper} {o : Oper}, lasO l = some o → l = iniO l ++ [o]
  | [], _, h => by cases h
  | [a], o, h => by simp only [lasO, Option.some.injEq] at h; subst h; rfl
  | a :: b :: r, o, h => by
    have := ini_las (l := b :: r) (o := o) h
    rw [iniO, List.cons_append, ← this]
def okLast (ops : List Oper) (j i : Nat) : Bool := bif i + 1 == ops.length then false else match ops[i]?, ops[j]? with
  | some oi, some oj => oj.apart ops.toArray oi && together oj oi
  | _, _ => false

section
variable {c : Cx} {k : List It} {e : Env} {s : List Blk}
/-- whatever order is drawn, whatever is carried from operation to operation -/
theorem any_of_act {ops : List Oper} {okp : Nat → Nat → Bool} (Ch : List Nat → Act → World → Prop) (hok : drawOkG okp ops = true) (hnil : ∀ a w, Ch [] a w → WQ c k .normal a w)
    (hfr : ∀ l i r a w, (∀ j ∈ l, okp j i = true) → Ch (l ++ i :: r) a w → Ch (i :: (l ++ r)) a w)
    (hst : ∀ i o r a w (Kc : Act → World → Prop), ops[i]? = some o → Ch (i :: r) a w → (∀ a w, Ch r a w → Kc a w) →
      if Region.wanted o (yielded ops.toArray a.tmps) then o.wp c.P a w Kc (WQ c k) else Kc (a.put o.dst undef) w) : ∀ (fuel : Nat) (listed : Array Bool) (l : List Nat) (a : Act) (w : World), listed.size = ops.length →
    l = (List.range ops.length).filter (fun i => !listed.getD i true) → l.length = fuel → (∀ i, listed.getD i true = true → ∀ j ∈ waits ops i, listed.getD j true = true) →
    Ch l a w → wpAny c.P .any ops.toArray (WQ c k) fuel listed a w := by
  have hready : ∀ (listed : Array Bool) (i : Nat), i ∈ Region.ready .any ops.toArray listed ↔ i < ops.length ∧ listed.getD i true = false ∧ ∀ j ∈ waits ops i, listed.getD j false = true := by
    intro listed i
    unfold Region.ready
    simp only [List.mem_filter, List.mem_range, List.size_toArray, Bool.and_eq_true, Bool.not_eq_true']
    refine and_congr_right fun hi => and_congr_right fun _ => ?_
    have : ops[i]? = some ops[i] := by simp [hi]
    simp only [List.getElem?_toArray, this, Option.map_some, Option.getD_some, waits]
    rw [Array.all_eq_true_iff_forall_mem]
    constructor
    · intro h j hj
      simp only [List.mem_map, List.mem_filter, Array.mem_toList_iff] at hj
      obtain ⟨ed, ⟨h1, h2⟩, rfl⟩ := hj
      have := h ed h1
      simpa [h2] using this
    · intro h ed hed
      by_cases hb : Region.binds .any ed = true
      · have := h ed.on (by simp only [List.mem_map, List.mem_filter, Array.mem_toList_iff]; exact ⟨ed, ⟨hed, hb⟩, rfl⟩)
        simp [this]
      · simp [hb]
  have hback : ∀ i, i < ops.length → ∀ j ∈ waits ops i, j < i := by
    intro i hi j hj
    have := (List.all_eq_true.1 hok) i (by simpa using hi)
    simp only [Bool.and_eq_true] at this
    simpa using (List.all_eq_true.1 this.1) j hj
  intro fuel
  induction fuel with
  | zero =>
    intro listed l a w hsz hl hlen hcl hch
    have hnil : l = [] := List.eq_nil_of_length_eq_zero hlen
    subst hnil
    refine ⟨?_, hnil a w hch⟩
    apply List.eq_nil_iff_forall_not_mem.2
    intro i hi
    obtain ⟨h1, h2, _⟩ := (hready listed i).1 hi
    have : i ∈ (List.range ops.length).filter (fun i => !listed.getD i true) := List.mem_filter.2 ⟨by simpa using h1, by simp [h2]⟩
    rw [← hl] at this
    cases this
  | succ fuel ih =>
    intro listed l a w hsz hl hlen hcl hch
    have hmem : ∀ i, i ∈ l ↔ i < ops.length ∧ listed.getD i true = false := by
      intro i; rw [hl]; simp [List.mem_filter]
    refine ⟨fun hr => ?_, fun i hi => ?_⟩
    · exfalso
      cases hq : l with
      | nil => rw [hq] at hlen; simp at hlen
      | cons i r =>
        have hil : i ∈ l := by rw [hq]; simp
        obtain ⟨h1, h2⟩ := (hmem i).1 hil
        have : i ∈ Region.ready .any ops.toArray listed := by
          refine (hready listed i).2 ⟨h1, h2, fun j hj => ?_⟩
          have hlt := hback i h1 j hj
          have hjn : j ∉ l := by
            intro hjl
            have hs : l.Pairwise (· < ·) := by rw [hl]; exact List.Pairwise.filter _ List.pairwise_lt_range
            rw [hq] at hs hjl
            rcases List.mem_cons.1 hjl with rfl | hjr
            · omega
            · have := (List.pairwise_cons.1 hs).1 j hjr; omega
          have hjlt : j < listed.size := by omega
          have := fun hf => hjn ((hmem j).2 ⟨by omega, hf⟩)
          cases hv : listed.getD j true with
          | true => simpa [Array.getD, hjlt] using hv
          | false => exact (this hv).elim
        rw [hr] at this
        cases this
    · obtain ⟨h1, h2, h3⟩ := (hready listed i).1 hi
      have hil : i ∈ l := (hmem i).2 ⟨h1, h2⟩
      obtain ⟨l1, l2, hsplit⟩ := List.append_of_mem hil
      have ho : ops.toArray[i]? = some ops[i] := by simp [h1]
      have hs : l.Pairwise (· < ·) := by rw [hl]; exact List.Pairwise.filter _ List.pairwise_lt_range
      have hapart : ∀ j ∈ l1, okp j i = true := by
        intro j hj
        have hjl : j ∈ l := by rw [hsplit]; simp [hj]
        obtain ⟨hj1, hj2⟩ := (hmem j).1 hjl
        have hji : j < i := by
          rw [hsplit] at hs
          exact (List.pairwise_append.1 hs).2.2 j hj i (by simp)
        have := (List.all_eq_true.1 hok) i (by simpa using h1)
        simp only [Bool.and_eq_true] at this
        have := (List.all_eq_true.1 this.2) j (by simpa using hji)
        simp only [Bool.or_eq_true] at this
        rcases this with h4 | h4
        · exact h4
        · exfalso
          have hm : j ∈ anc ops ops.length i := by simpa using h4
          have hw3 : ∀ j ∈ waits ops i, listed.getD j true = true := by
            intro j hj
            have h5 := h3 j hj
            have hjlt : j < listed.size := by have := hback i h1 j hj; omega
            simpa [Array.getD, hjlt] using h5
          have := anc_listed (L := fun j => listed.getD j true = true) hcl ops.length i hw3 j hm
          rw [this] at hj2
          cases hj2
      rw [hsplit] at hch
      have hfront := hfr l1 i l2 a w hapart hch
      have hlist : ∀ j, (listed.setIfInBounds i true).getD j true = if j = i then true else listed.getD j true := by
        intro j
        by_cases hj : j = i
        · subst hj
          have : j < listed.size := by omega
          simp [this]
        · rw [if_neg hj]
          simp [Array.getElem?_setIfInBounds_ne (Ne.symm hj)]
      have hnext : l1 ++ l2 = (List.range ops.length).filter (fun j => !(listed.setIfInBounds i true).getD j true) := by
        have e1 : (fun j => !(listed.setIfInBounds i true).getD j true) = fun j => (!listed.getD j true) && decide (j ≠ i) := by
          funext j
          rw [hlist]
          by_cases hj : j = i <;> simp [hj]
        have e2 : (List.range ops.length).filter (fun j => (!listed.getD j true) && decide (j ≠ i)) = l.filter (fun j => decide (j ≠ i)) := by
          rw [hl, List.filter_filter]
          congr 1
          funext j
          rw [Bool.and_comm]
        rw [e1, e2, hsplit]
        have hn : l.Nodup := hs.imp (fun h => Nat.ne_of_lt h)
        rw [hsplit] at hn
        have hn1 : i ∉ l1 := fun hh => (List.nodup_append.1 hn).2.2 i hh i (by simp) rfl
        have hn2 : i ∉ l2 := (List.nodup_cons.1 (List.nodup_append.1 hn).2.1).1
        simp only [List.filter_append, List.filter_cons]
        have f1 : ∀ x : List Nat, i ∉ x → x.filter (fun j => decide (j ≠ i)) = x := by
          intro x hx
          rw [List.filter_eq_self]
          intro y hy
          simp
          intro h; subst h; exact hx hy
        rw [f1 l1 hn1, f1 l2 hn2]
        simp
      have hgo : ∀ a w, Ch (l1 ++ l2) a w → wpAny c.P .any ops.toArray (WQ c k) fuel (listed.setIfInBounds i true) a w := fun a' w' hrest =>
        ih (listed.setIfInBounds i true) (l1 ++ l2) a' w' (by simpa using hsz) hnext (by rw [hsplit] at hlen; simp at hlen ⊢; omega) (fun j hj m hm => by
          rw [hlist] at hj ⊢
          by_cases hmi : m = i
          · simp [hmi]
          · rw [if_neg hmi]
            by_cases hji : j = i
            · subst hji
              have h5 := h3 m hm
              have hmlt : m < listed.size := by have := hback j h1 m hm; omega
              simpa [Array.getD, hmlt] using h5
            · rw [if_neg hji] at hj
              exact hcl j hj m hm) hrest
      have hw := hst i ops[i] (l1 ++ l2) a w _ (by simp [h1]) hfront hgo
      unfold wpOp
      rw [ho]
      simp only
      by_cases hwant : Region.wanted ops[i] (yielded ops.toArray a.tmps) = true
      · rw [if_pos hwant] at hw ⊢
        exact .inl hw
      · rw [if_neg hwant] at hw ⊢
        exact hw



theorem chain_pre {K : Env → List Blk → Prop} {all : List Oper} : ∀ {r : List Oper} {m n : Nat} {cs : List AV} {e : Env} {s : List Blk}, (∀ (j : Nat) (o : Oper), r[j]? = some o → all[m + j]? = some o) → dxk c all K n r cs e s → Chain c all.toArray K (List.range' m r.length) e s
  | [], m, n, cs, e, s, _, h => by
    rw [dxk] at h
    exact h
  | o :: r, m, n, cs, e, s, hr, h => by
    obtain ⟨cv, v, n', cs', s', h1, h2⟩ := dxk_step h
    have h0 : all.toArray[m]? = some o := by have := hr 0 o rfl; simpa using this
    simp only [List.length_cons, List.range'_succ, Chain, h0]
    exact ⟨cv, v, s', h1, chain_pre (fun j o' hj => by have := hr (j + 1) o' (by simpa using hj); simpa [Nat.add_assoc, Nat.add_comm 1 j] using this) h2⟩

def KLast (c : Cx) (k : List It) (ops : List Oper) (last : Oper) (e : Env) (s : List Blk) : Prop := AWp c (.op ops last [] :: k) e s
theorem KLast.K {ops : List Oper} {last : Oper} : ∀ e e' s, Eqv e e' → KLast c k ops last e s → KLast c k ops last e' s := fun _ _ _ h x => AWp.eqv h x
def ChLast (c : Cx) (k : List It) (ops : List Oper) (last : Oper) (m : Nat) (l : List Nat) (a : Act) (w : World) : Prop :=
  (l = [] ∧ WQ c k .normal a w) ∨ ∃ l' e s, l = l' ++ [m] ∧ (∀ j ∈ l', j < m) ∧ Chain c ops.toArray (KLast c k ops last) l' e s ∧ Sim c e s a w

/-- A STATEMENT WHOSE ORDER IS OPEN, but for its last operation: with that one the walk goes on. -/
theorem adrawLast (cs : List AV) {id : Nat} {ops : List Oper} {last : Oper} (hlast : lasO ops = some last) (hm : c.P.follows .mixedOrders = true) (hok : drawOkG (okLast ops) ops = true) (hg : last.guard = none) {N : Nat} (hN : c.fn.ntmps = N) (hdst : ops.all (fun o => dOk N o.dst) = true) (n : Nat)
    (h : dxk c ops (KLast c k ops last) n (iniO ops) cs e s) : AWp c (.code (.region id ops.toArray true) :: k) e s := by
  intro a w hsim
  have hsp := ini_las hlast
  have hlen : ops.length = (iniO ops).length + 1 := by
    have := congrArg List.length hsp
    simpa using this
  have hch := chain_pre (m := 0) (r := iniO ops) (all := ops) (by
    intro j o hj
    rw [Nat.zero_add, hsp, List.getElem?_append_left (List.getElem?_eq_some_iff.1 hj).1]
    exact hj) h
  rw [← List.range_eq_range'] at hch
  generalize hpl : (iniO ops).length = m at *
  have hlm : ops[m]? = some last := by
    rw [hsp, List.getElem?_append_right (by omega), hpl]
    simp
  refine wp_region_any hm ?_
  have hsim' : Sim c e s a { w with drawn := w.drawn + 1 } := by
    obtain ⟨hh, ρ, hmm, hl, he, hdf, hsz, hX⟩ := hsim
    have sm : Same w { w with drawn := w.drawn + 1 } := Same.drew w
    exact ⟨hh, ρ, hmm.same sm, hl.trans (Later.same sm), he, hdf, hsz, c.hx.later hmm (Later.same sm) hX⟩
  have hd : ∀ o ∈ ops, dOk c.fn.ntmps o.dst = true := fun o ho => by rw [hN]; exact (List.all_eq_true.1 hdst) o ho
  refine any_of_act (okp := okLast ops) (ChLast c k ops last m) hok (fun a w x => ?_) (fun l i r a w hj x => ?_) (fun i o r a w Kc ho x hK => ?_)
    ops.length (Array.replicate ops.length false) (List.range ops.length) a _ (by simp) ?_ (by simp) ?_ (.inr ⟨List.range m, e, s, by rw [hlen, List.range_succ], fun j hj => by simpa using hj, hch, hsim'⟩)
  · rcases x with ⟨_, x⟩ | ⟨l', e, s, hl, _⟩
    · exact x
    · simp at hl
  · rcases x with ⟨hl, _⟩ | ⟨l', e, s, hl, hlt, hc, hs⟩
    · simp at hl
    · cases l with
      | nil => exact .inr ⟨l', e, s, by simpa using hl, hlt, hc, hs⟩
      | cons j0 l0 =>
        have him : i ≠ m := fun e => by
          have := hj j0 (by simp)
          unfold okLast at this
          have hb : (i + 1 == ops.length) = true := by rw [e, hlen]; simp
          rw [hb] at this
          cases this
        have hr : r ≠ [] := fun e => by
          subst e
          have hl3 : (j0 :: l0) ++ [i] = l' ++ [m] := by simpa using hl
          have := (List.append_inj' hl3 rfl).2
          simp at this
          exact him this
        obtain ⟨r', x', rfl⟩ : ∃ r' x', r = r' ++ [x'] := ⟨r.dropLast, r.getLast hr, (List.dropLast_concat_getLast hr).symm⟩
        have hl2 : ((j0 :: l0) ++ i :: r') ++ [x'] = l' ++ [m] := by simpa using hl
        obtain ⟨h1, h2⟩ := List.append_inj' hl2 rfl
        simp only [List.cons.injEq, and_true] at h2
        subst h2
        subst h1
        refine .inr ⟨i :: ((j0 :: l0) ++ r'), e, s, by simp, fun j hj => hlt j (by simp at hj ⊢; rcases hj with h | h | h | h <;> simp [h]), ?_, hs⟩
        cases hi : ops[i]? with
        | none =>
          have := hj j0 (by simp)
          unfold okLast at this
          have hb : (i + 1 == ops.length) = false := by rw [hlen]; simpa using him
          simp [hb, hi] at this
        | some oi =>
          refine Chain.front KLast.K (oi := oi) (by simpa using hi) (fun j hjl => ?_) hc
          have := hj j hjl
          unfold okLast at this
          have hb : (i + 1 == ops.length) = false := by rw [hlen]; simpa using him
          rw [hb, hi] at this
          simp only [cond_false] at this
          cases hq : ops[j]? with
          | none => simp [hq] at this
          | some oj =>
            rw [hq] at this
            simp only [Bool.and_eq_true] at this
            exact ⟨oj, by simpa using hq, this.1, this.2⟩
  · rcases x with ⟨hl, _⟩ | ⟨l', e, s, hl, hlt, hc, hs⟩
    · simp at hl
    · cases l' with
      | nil =>
        simp only [List.nil_append, List.cons.injEq] at hl
        obtain ⟨rfl, rfl⟩ := hl
        rw [hlm] at ho
        cases ho
        rw [if_pos (by simp [Region.wanted, hg])]
        have h1 : AWp c (.op ops last [] :: k) e s := hc
        have h2 : last.wp c.P a w (wpList c.P ops.toArray (WQ c k) []) (WQ c k) := h1 a w hs (hd last (List.mem_of_getElem? hlm))
        exact Oper.wp_mono (fun a w hh => hK a w (.inl ⟨rfl, hh⟩)) h2
      | cons i' r' =>
        simp only [List.cons_append, List.cons.injEq] at hl
        obtain ⟨rfl, rfl⟩ := hl
        have ho' : ops.toArray[i]? = some o := by simpa using ho
        simp only [Chain, ho'] at hc
        obtain ⟨cv, v, s', h1, h2⟩ := hc
        exact does_wp hs (hd o (List.mem_of_getElem? ho)) h1 fun a w hs' => hK a w (.inr ⟨r', _, _, rfl, fun j hj => hlt j (by simp [hj]), h2, hs'⟩)
  · symm
    rw [List.filter_eq_self]
    intro i hi
    simp at hi
    simp [hi]
  · intro i hi j hj
    exfalso
    by_cases h1 : i < ops.length
    · simp [h1] at hi
    · unfold waits at hj
      have : ops[i]? = none := by simp; omega
      simp [this] at hj

/-- a block whose cells with nil are told as empty slices of a block that stands empty -/
theorem Shift.cellsAt (id n : Nat) {es es' : Nat} {l : List AV} (l' : List AV) (hb : s.getD id .dead = .arr es l) (hn : s.getD n .dead = .arr es' []) (hlen : l'.length = l.length) (hcl : ∀ x ∈ l', (cellsOf x).length = es) (ht : toC n (flat l) (flat l')) :
    Shift c e s e (s.set id (.arr es l')) := by
  rintro a w ⟨hh, ρ, hm, hlt, he, hdf, hsz, hX⟩
  obtain ⟨m2, l2⟩ := hm.recell (id := id) (n := n) (es' := es') (sto_get hb) hlen hcl (sto_get hn) ht
  exact ⟨hh, ρ, m2, hlt.trans l2, fun t => (he t).mono l2.hle l2.keep, hdf, hsz, c.hx.later hm l2 hX⟩
end
end Go.Av
/- Groups of paragraphs. Own work of this seat. -/
set_option maxRecDepth 100000
set_option linter.unusedSimpArgs false
set_option linter.unusedVariables false
namespace Go.Proofs.YtikbgjhajgjjdaaGreatDoor
open Go Go.Av Go.RowKit

def joins (p : Pa) : Bool := p.kind == 3 || p.kind == 4
def gstep (out : List (Nat × Nat)) (i : Nat) (p : Pa) : List (Nat × Nat) :=
  if joins p then out.set (out.length - 1) ((out.getD (out.length - 1) (0, 0)).1, i + 1) else out ++ [(i, i + 1)]
def gfold : List (Nat × Nat) → Nat → List Pa → List (Nat × Nat)
  | out, _, [] => out
  | out, i, p :: r => gfold (gstep out i p) (i + 1) r
def groupsL (ps : List Pa) : List (Nat × Nat) := gfold [] 0 ps
end Go.Proofs.YtikbgjhajgjjdaaGreatDoor
/- Words found in others. Own work of this seat. -/
set_option maxRecDepth 100000
set_option linter.unusedSimpArgs false
set_option linter.unusedVariables false
namespace Go.Proofs.YtikbgjhajgjjdaaGreatDoor
open Go Go.Av Go.RowKit
attribute [local go_sem ↓] br_true br_false dbr_true dbr_false dbri_true dbri_false dbrg_true dbrg_false
attribute [local go_sem] run cont br dbr dx dxc dgrd dyld dres dcall calm fieldPlace? allHas step1 opN grdN resN condN exitN stopN exitIt dOk xop xbin xint xarith xstr xbool xpick xnot xneg xextract xpart xpartOk xindex xfieldF fieldD xnew xbox xalloc xfieldAddr xptrAddIf xindexAddr xloadC xload putCells reElem xstoreB xstore xconv xtext xlen xlen2 xcall xfill xbuild cut rep xbuildSlice xbuildSliceD isRow elemD isU8 ev evs evp Go.Av.put Go.Av.get ofConst yldD yldV notBool_undef args0 cellsOf cond_true cond_false decide_true decide_false decide_eq_true_eq decide_eq_false_iff_not List.getElem?_cons_zero List.getElem?_cons_succ List.getElem?_nil List.getD_cons_zero List.getD_cons_succ List.getD_nil List.set_cons_zero List.set_cons_succ List.length_cons List.length_nil List.cons_append List.nil_append List.append_nil List.all_cons List.all_nil List.map_cons List.map_nil List.take_succ_cons List.take_zero List.drop_succ_cons List.drop_zero Bool.and_true Bool.true_and Bool.and_self Bool.and_false Bool.false_and one Go.Av.frozen beq_self_eq_true true_and and_true forall_const false_implies implies_true and_self Option.map_some Option.map_none Nat.zero_add Nat.add_zero Nat.zero_mul Nat.mul_one Nat.one_mul Int.toNat_zero ne_eq not_false_eq_true not_true_eq_false Bool.true_eq_false Bool.false_eq_true List.toList_toArray inr Go.Av.byteOf isByte decide_eq_decide Bool.not_true Bool.not_false Bool.not_eq_true' Bool.or_true Bool.true_or Bool.or_false Bool.false_or ge_iff_le gt_iff_lt and_assoc Bool.decide_eq_true beq_iff_eq beq_eq_false_iff_ne bne_iff_ne bne_self_eq_false if_true if_false Bool.and_eq_true Bool.or_eq_true Bool.and_eq_false_imp Bool.or_eq_false_iff Bool.not_eq_false' has Option.isSome_some Option.isSome_none Int.toNat_natCast Int.cast_ofNat_Int List.length_append xapp2 xapp xappS xappD xappB notInt srcOf srcB byteAV splice' xcut xcutS xcutF xcutB xcutN xcut0 cutL loOf hiOf evo xmake zelem xmax xcopy2 xcopyS xcopyB xnil xcut3 ixOf xclear2 xclearB List.getElem?_toArray xbin2 xnileq xempty xmkmap xmput xmputB xmputF isKey keyEq mfind xbin3 xeqs xeqop eqFs bothB leafEq xlook xlookB xlookF xbytes beq_c_n beq_n_c bne_c_n bne_n_c one_nil dxi dxic dbri rix dck reader blind opOk refOk Go.Op.operands Go.Call.operands List.contains_cons List.contains_nil dxg dxgc dbrg pck putD List.lookup_cons List.lookup_nil ts2 tb2 zl2 za2 Tryz.underlying2 ts3 tb3 zl3 za3 Tryz.underlying3 ts4 tb4 zl4 za4 Tryz.underlying4 ts5 tb5 zl5 za5 Tryz.underlying5 ts6 tb6 zl6 za6 Tryz.underlying6 ts7 tb7 za7 Tryz.underlying7 ts8 tb8 za8 Tryz.underlying8 ts9 tb9 zl9 za9 Tryz.underlying9 ts10 tb10 zl10 za10 Tryz.underlying10 ts11 tb11 zl11 za11 Tryz.underlying11 ts12 tb12 zl12 za12 Tryz.underlying12 ts13 tb13 za13 Tryz.underlying13 ts14 tb14 za14 Tryz.underlying14 ts18 tb18 za18 Tryz.underlying18 ts19 tb19 za19 Tryz.underlying19 ts21 tb21 zl21 za21 Tryz.underlying21 ts22 tb22 zl22 za22 Tryz.underlying22 ts24 tb24 za24 Tryz.underlying24 ts25 tb25 za25 Tryz.underlying25 ts26 tb26 zl26 za26 Tryz.underlying26 ts27 tb27 za27 Tryz.underlying27 ts28 tb28 za28 Tryz.underlying28 ts30 tb30 zl30 za30 Tryz.underlying30 ts31 tb31 zl31 za31 Tryz.underlying31 ts34 tb34 zl34 za34 Tryz.underlying34 ts35 tb35 zl35 za35 Tryz.underlying35 ts36 tb36 za36 Tryz.underlying36 ts37 tb37 za37 Tryz.underlying37 ts46 tb46 za46 Tryz.underlying46 ts47 tb47 za47 Tryz.underlying47 ts61 tb61 zl61 za61 Tryz.underlying61 ts62 tb62 za62 Tryz.underlying62 ts63 tb63 za63 Tryz.underlying63 ts66 tb66 zl66 za66 Tryz.underlying66 ts68 tb68 zl68 za68 Tryz.underlying68 ts74 tb74 za74 Tryz.underlying74 ts75 tb75 za75 Tryz.underlying75 ts77 tb77 zl77 za77 Tryz.underlying77 ts81 tb81 zl81 za81 Tryz.underlying81 ts82 tb82 za82 Tryz.underlying82 ts83 tb83 za83 Tryz.underlying83 ts86 tb86 zl86 za86 Tryz.underlying86 ts102 tb102 za102 Tryz.underlying102 ts103 tb103 za103 Tryz.underlying103 ts106 tb106 za106 Tryz.underlying106 ts107 tb107 za107 Tryz.underlying107 ts114 tb114 zl114 za114 Tryz.underlying114 ts117 tb117 zl117 za117 Tryz.underlying117 ts120 tb120 zl120 za120 Tryz.underlying120 ts133 tb133 zl133 za133 Tryz.underlying133 ts144 tb144 zl144 za144 Tryz.underlying144 ts151 tb151 zl151 za151 Tryz.underlying151 ts156 tb156 zl156 za156 Tryz.underlying156 ts160 tb160 Tryz.underlying160 ts169 tb169 za169 Tryz.underlying169 ts170 tb170 za170 Tryz.underlying170 ts175 tb175 Tryz.underlying175 ts180 tb180 za180 Tryz.underlying180 ts181 tb181 za181 Tryz.underlying181 ts185 tb185 za185 Tryz.underlying185 ts186 tb186 za186 Tryz.underlying186 ts187 tb187 Tryz.underlying187 ts189 tb189 Tryz.underlying189 ts190 tb190 Tryz.underlying190 ts191 tb191 za191 Tryz.underlying191 ts192 tb192 za192 Tryz.underlying192 ts196 tb196 zl196 za196 Tryz.underlying196 ts197 tb197 zl197 za197 Tryz.underlying197 ts199 tb199 zl199 za199 Tryz.underlying199 ts200 tb200 zl200 za200 Tryz.underlying200 ts201 tb201 za201 Tryz.underlying201 ts202 tb202 za202 Tryz.underlying202

theorem strs_get {l : List (List UInt8)} {i : Nat} (h : i < l.length) : List.getD (List.map AV.str l) i .any = .str l[i] := by simp [List.getD, h]

theorem eq_strs_pc (a b : List (List UInt8)) (ha : a.length < 1000000000000000) (hb : b.length < 1000000000000000) : Pc Tryz.prog 8 [.fz 1 (a.map .str), .fz 1 (b.map .str)] (· = .bool (a == b)) := by
  by_cases hl : a.length = b.length
  · have d0 : ((a.length : Int) != (b.length : Int)) = false := by simp [hl]
    refine pc_intro (ct_intro Tryz.func8 rfl Tryz.ntmps8 hB8 (by simp) fun h ρ w => go (N := 26) Tryz.ntmps8 300 ?_)
    simp only [go_sem, Nat.reduceAdd, Nat.reduceMul, Nat.reduceBEq, Nat.reduceLT, Nat.reduceLeDiff, reduceIte, reduceCtorEq, Int.reduceToNat, Int.reduceLT, Int.reduceGT, Int.reduceNeg, Int.reduceBEq, Int.reduceBNe, d0, List.length_map]
    refine aloop (ι := Nat) (fun i => a.length - i) (fun i => [(13, .int .i64 i), (12, .int .i64 a.length), (1, .fz 1 (b.map .str)), (0, .fz 1 (a.map .str))]) (fun _ => []) (fun i => i ≤ a.length ∧ a.take i = b.take i) 0 (by simp) ?_ ?_
    · refine Shift.weak ?_
      simp only [wk, go_sem, Nat.reduceAdd, Nat.reduceMul, Nat.reduceBEq, Nat.reduceLT, Nat.reduceLeDiff, reduceIte, reduceCtorEq, Int.reduceToNat, Int.reduceLT, Int.reduceGT, Int.reduceNeg, Int.reduceBEq, Int.reduceBNe]
    · rintro i ⟨g1, g2⟩ J hJ
      by_cases gi : i < a.length
      · have di : decide ((i : Int) < (a.length : Int)) = true := by simp; omega
        have gb : i < b.length := by omega
        have h1 := strs_get gi
        have h2 := strs_get gb
        by_cases he : a[i] = b[i]
        · have de : (a[i] != b[i]) = false := by simp [he]
          refine go (N := 26) Tryz.ntmps8 300 ?_
          simp only [go_sem, Nat.reduceAdd, Nat.reduceMul, Nat.reduceBEq, Nat.reduceLT, Nat.reduceLeDiff, reduceIte, reduceCtorEq, Int.reduceToNat, Int.reduceLT, Int.reduceGT, Int.reduceNeg, Int.reduceBEq, Int.reduceBNe, di]
          refine adraw [] mixed (by decide) (N := 26) Tryz.ntmps8 (by decide) 100 ?_
          simp only [go_sem, Nat.reduceAdd, Nat.reduceMul, Nat.reduceBEq, Nat.reduceLT, Nat.reduceLeDiff, reduceIte, reduceCtorEq, Int.reduceToNat, Int.reduceLT, Int.reduceGT, Int.reduceNeg, Int.reduceBEq, Int.reduceBNe, h1, h2, de, List.length_map]
          repeat refine And.intro (by first | omega | simpa using gi | simpa using gb) ?_
          refine go (N := 26) Tryz.ntmps8 300 ?_
          simp only [go_sem, Nat.reduceAdd, Nat.reduceMul, Nat.reduceBEq, Nat.reduceLT, Nat.reduceLeDiff, reduceIte, reduceCtorEq, Int.reduceToNat, Int.reduceLT, Int.reduceGT, Int.reduceNeg, Int.reduceBEq, Int.reduceBNe]
          repeat refine And.intro (by omega) ?_
          rw [show (i : Int) + 1 = ((i + 1 : Nat) : Int) by omega]
          refine ainv (hJ (i + 1) ⟨by omega, by rw [List.take_succ_eq_append_getElem gi, List.take_succ_eq_append_getElem gb, g2, he]⟩ (by omega)) (Shift.weak ?_)
          simp only [wk, go_sem, Nat.reduceAdd, Nat.reduceMul, Nat.reduceBEq, Nat.reduceLT, Nat.reduceLeDiff, reduceIte, reduceCtorEq, Int.reduceToNat, Int.reduceLT, Int.reduceGT, Int.reduceNeg, Int.reduceBEq, Int.reduceBNe]
        · have de : (a[i] != b[i]) = true := by simp [he]
          have hab : (a == b) = false := by
            rw [beq_eq_false_iff_ne]
            rintro rfl
            exact he rfl
          refine go (N := 26) Tryz.ntmps8 300 ?_
          simp only [go_sem, Nat.reduceAdd, Nat.reduceMul, Nat.reduceBEq, Nat.reduceLT, Nat.reduceLeDiff, reduceIte, reduceCtorEq, Int.reduceToNat, Int.reduceLT, Int.reduceGT, Int.reduceNeg, Int.reduceBEq, Int.reduceBNe, di]
          refine adraw [] mixed (by decide) (N := 26) Tryz.ntmps8 (by decide) 100 ?_
          simp only [go_sem, Nat.reduceAdd, Nat.reduceMul, Nat.reduceBEq, Nat.reduceLT, Nat.reduceLeDiff, reduceIte, reduceCtorEq, Int.reduceToNat, Int.reduceLT, Int.reduceGT, Int.reduceNeg, Int.reduceBEq, Int.reduceBNe, h1, h2, de, List.length_map]
          repeat refine And.intro (by first | omega | simpa using gi | simpa using gb) ?_
          refine go (N := 26) Tryz.ntmps8 300 ?_
          simp only [go_sem, Nat.reduceAdd, Nat.reduceMul, Nat.reduceBEq, Nat.reduceLT, Nat.reduceLeDiff, reduceIte, reduceCtorEq, Int.reduceToNat, Int.reduceLT, Int.reduceGT, Int.reduceNeg, Int.reduceBEq, Int.reduceBNe]
          exact aret [4] rfl ⟨by rw [hab]; rfl, rfl⟩
      · have di : decide ((i : Int) < (a.length : Int)) = false := by simp; omega
        have : a = b := by
          rw [List.take_of_length_le (by omega), List.take_of_length_le (by omega)] at g2
          exact g2
        subst this
        refine go (N := 26) Tryz.ntmps8 300 ?_
        simp only [go_sem, Nat.reduceAdd, Nat.reduceMul, Nat.reduceBEq, Nat.reduceLT, Nat.reduceLeDiff, reduceIte, reduceCtorEq, Int.reduceToNat, Int.reduceLT, Int.reduceGT, Int.reduceNeg, Int.reduceBEq, Int.reduceBNe, di]
        exact aret [4] rfl ⟨by simp [resV, Av.get], rfl⟩
  · have d0 : ((a.length : Int) != (b.length : Int)) = true := by simp; omega
    have hab : (a == b) = false := by
      rw [beq_eq_false_iff_ne]
      rintro rfl
      exact hl rfl
    refine pc_intro (ct_intro Tryz.func8 rfl Tryz.ntmps8 hB8 (by simp) fun h ρ w => go (N := 26) Tryz.ntmps8 300 ?_)
    simp only [go_sem, Nat.reduceAdd, Nat.reduceMul, Nat.reduceBEq, Nat.reduceLT, Nat.reduceLeDiff, reduceIte, reduceCtorEq, Int.reduceToNat, Int.reduceLT, Int.reduceGT, Int.reduceNeg, Int.reduceBEq, Int.reduceBNe, d0, List.length_map]
    exact aret [4] rfl ⟨by rw [hab]; rfl, rfl⟩

def fTo (ws sm : List (List UInt8)) (i : Nat) : List Nat := (List.range i).filter fun k => (ws.drop k).take sm.length == sm
def foundL (ws sm : List (List UInt8)) : List Nat := fTo ws sm (ws.length + 1 - sm.length)
end Go.Proofs.YtikbgjhajgjjdaaGreatDoor
