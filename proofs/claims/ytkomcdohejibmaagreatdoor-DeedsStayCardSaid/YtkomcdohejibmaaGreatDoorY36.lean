/- A deed that is added to right deeds; what a letter brings. Own work of this seat. -/
import Derived.Test.YtkomcdohejibmaaGreatDoorY35
set_option maxRecDepth 100000
set_option linter.unusedSimpArgs false
set_option linter.unusedVariables false
namespace Go.Proofs.YtkomcdohejibmaaGreatDoor
open Go Go.Av Go.RowKit

/-! ### numbers from sets -/
theorem no_of_sets {x : List De} (hs : Srt x) (hp : ∀ e ∈ x, 1 ≤ e.st.no) (hb : ∀ e ∈ x, ∀ k : Int, 1 ≤ k → k < e.st.no → ∃ e' ∈ x, e'.st = ⟨e.st.dept, k⟩) :
    ∀ n, ∀ i, (hi : i < x.length) → i < n → x[i].st.no = cnt (x.take i) x[i].st.dept + 1
  | 0, _, _, h => absurd h (by omega)
  | n + 1, i, hi, hin => by
    have ih := no_of_sets hs hp hb n
    have hpw := List.pairwise_iff_getElem.1 hs
    have hei := List.getElem_mem hi
    have h1 : (cnt (x.take i) x[i].st.dept : Int) + 1 ≤ x[i].st.no := by
      rcases Nat.eq_zero_or_pos (cnt (x.take i) x[i].st.dept) with hc | hc
      · rw [hc]; have := hp _ hei; simpa using this
      · obtain ⟨j, hj, h3, h4, h5⟩ := cnt_ivt x x[i].st.dept i (by omega) (cnt (x.take i) x[i].st.dept - 1) (by omega)
        have h6 := ih j hj (by omega)
        rw [h4, h5] at h6
        have h7 := hpw j i hj hi h3
        rcases h7 with h7 | h7
        · rw [h4, bl_irrefl] at h7; cases h7
        · have := h7.2
          omega
    rcases Int.lt_or_le ((cnt (x.take i) x[i].st.dept : Int) + 1) x[i].st.no with h2 | h2
    · obtain ⟨e, he, hst⟩ := hb _ hei _ (by omega) h2
      obtain ⟨j, hj, rfl⟩ := List.getElem_of_mem he
      have hlt : stLt x[j].st x[i].st := by rw [hst]; exact .inr ⟨rfl, h2⟩
      have hji : j < i := by
        rcases Nat.lt_trichotomy j i with h | h | h
        · exact h
        · subst h; exact absurd hlt (stLt_irrefl _)
        · exact absurd (stLt_trans hlt (hpw i j hi hj h)) (stLt_irrefl _)
      have h6 := ih j hj (by omega)
      have hd : x[j].st.dept = x[i].st.dept := by rw [hst]
      have hc : cnt (x.take (j + 1)) x[i].st.dept ≤ cnt (x.take i) x[i].st.dept := by
        unfold cnt
        exact List.Sublist.countP_le (List.take_sublist_take_left (by omega))
      have h7 := cnt_step x j hj x[i].st.dept
      rw [if_pos hd] at h7
      rw [hd] at h6
      have : x[j].st.no = (cnt (x.take i) x[i].st.dept : Int) + 1 := by rw [hst]
      omega
    · omega
theorem ckOk_sets {x : List De} (hs : Srt x) (hl : x.length ≤ 500) (hk : ∀ e ∈ x, keyL e.st.dept = true) (hp : ∀ e ∈ x, 1 ≤ e.st.no) (hb : ∀ e ∈ x, ∀ k : Int, 1 ≤ k → k < e.st.no → ∃ e' ∈ x, e'.st = ⟨e.st.dept, k⟩)
    (hse : ∀ e ∈ x, SeenOk (x.map (·.st)) e.st.dept e.seen) (hbo : ∀ e ∈ x, bodyL e.kind e.paper e.text e.person = 0) (hcl : ∀ e ∈ x, closedL x e = true) : CkOk x := by
  refine ⟨hl, fun i d hi => ?_, hcl⟩
  have hlt := (List.getElem?_eq_some_iff.1 hi).1
  have he := (List.getElem?_eq_some_iff.1 hi).2
  have hm : d ∈ x := List.mem_of_getElem? hi
  refine ⟨hk d hm, fun h0 p hpp => ?_, ?_, hse d hm, hbo d hm⟩
  · have hlp := (List.getElem?_eq_some_iff.1 hpp).1
    have := List.pairwise_iff_getElem.1 hs (i - 1) i hlp hlt (by omega)
    rw [(List.getElem?_eq_some_iff.1 hpp).2, he] at this
    exact this
  · have := no_of_sets hs hp hb (i + 1) i hlt (by omega)
    rw [he] at this
    exact this
theorem SeenOk.mono {ks ks' : List St} {own : List UInt8} {l : List St} (h : SeenOk ks own l) (hs : ∀ s ∈ ks, s ∈ ks') : SeenOk ks' own l := by
  intro i hi
  have h1 := h i hi
  unfold seenB at h1 ⊢
  simp only [Bool.and_eq_true, decide_eq_true_eq] at h1 ⊢
  exact ⟨h1.1, h1.2.1, hs _ h1.2.2⟩
theorem closedAt_iff {d x : De} : closedAt d x = true ↔ (knowsL d x.st = true → ∀ s ∈ x.seen, knowsL d s = true) := by
  unfold closedAt
  cases h : knowsL d x.st with
  | false => simp
  | true => simp
theorem closed_iff {l : List De} {d : De} : closedL l d = true ↔ ∀ x ∈ l, knowsL d x.st = true → ∀ s ∈ x.seen, knowsL d s = true := by
  unfold closedL
  rw [List.all_eq_true]
  exact ⟨fun h x hx => closedAt_iff.1 (h x hx), fun h x hx => closedAt_iff.2 (h x hx)⟩
theorem knows_iff {d : De} {s : St} : knowsL d s = true ↔ (d.st.dept = s.dept ∧ s.no < d.st.no) ∨ ∃ x ∈ d.seen, x.dept = s.dept ∧ s.no ≤ x.no := by
  unfold knowsL
  rw [Bool.or_eq_true, covers_iff, Bool.and_eq_true, decide_eq_true_eq, beq_iff_eq]

/-! ### the new deed -/
def addNo (v : List St) (dept : List UInt8) : Int := v.foldl (fun n s => if s.dept = dept then s.no + 1 else n) 1
def addSeen (v : List St) (dept : List UInt8) : List St := v.filter fun s => s.dept != dept
def addD (l : List De) (dept : List UInt8) (kind : Int) (paper text person : List UInt8) : De := ⟨⟨dept, addNo (vecL l) dept⟩, addSeen (vecL l) dept, kind, paper, text, person⟩
theorem addNo_none (dept : List UInt8) : ∀ (v : List St) (n : Int), (∀ s ∈ v, s.dept ≠ dept) → v.foldl (fun n s => if s.dept = dept then s.no + 1 else n) n = n
  | [], _, _ => rfl
  | a :: v, n, h => by
    rw [List.foldl_cons, if_neg (h a (by simp))]
    exact addNo_none dept v n fun s hs => h s (List.mem_cons_of_mem _ hs)
theorem addNo_some (dept : List UInt8) : ∀ (v : List St) (n : Int), v.Pairwise (fun a b => bytesLess a.dept b.dept = true) → ∀ s ∈ v, s.dept = dept → v.foldl (fun n s => if s.dept = dept then s.no + 1 else n) n = s.no + 1
  | [], _, _, s, hs, _ => by simp at hs
  | a :: v, n, hp, s, hs, e => by
    have hp' := List.pairwise_cons.1 hp
    rw [List.foldl_cons]
    by_cases ha : a.dept = dept
    · rw [if_pos ha]
      have : s = a := by
        rcases List.mem_cons.1 hs with h | h
        · exact h
        · have := hp'.1 s h
          rw [ha, e, bl_irrefl] at this
          cases this
      rw [this]
      exact addNo_none dept v _ fun t ht e2 => by
        have := hp'.1 t ht
        rw [ha, e2, bl_irrefl] at this
        cases this
    · rw [if_neg ha]
      rcases List.mem_cons.1 hs with h | h
      · rw [h] at e; exact absurd e ha
      · exact addNo_some dept v n hp'.2 s h e
structure AddOk (l : List De) (d : De) : Prop where
  pos : 1 ≤ d.st.no
  all : ∀ y ∈ l, knowsL d y.st = true
  none : ∀ y ∈ l, knowsL y d.st = false
  self : knowsL d d.st = false
  new : ∀ y ∈ l, y.st ≠ d.st
  below : ∀ k : Int, 1 ≤ k → k < d.st.no → ∃ y ∈ l, y.st = ⟨d.st.dept, k⟩
  seen : ∀ s ∈ d.seen, ∃ y ∈ l, y.st = s
  sok : SeenOk (l.map (·.st)) d.st.dept d.seen
theorem add_ok {l : List De} (h : CkOk l) (dept : List UInt8) (kind : Int) (paper text person : List UInt8) : AddOk l (addD l dept kind paper text person) := by
  have hv := vec_ok h.srt
  have hno : ∀ y ∈ l, y.st.dept = dept → y.st.no < addNo (vecL l) dept := fun y hy e => by
    obtain ⟨s, hs, e1, e2⟩ := hv.top y hy
    have := addNo_some dept (vecL l) 1 hv.srt s hs (e1.trans e)
    unfold addNo
    omega
  have hcase : addNo (vecL l) dept = 1 ∨ ∃ y ∈ l, y.st.dept = dept ∧ addNo (vecL l) dept = y.st.no + 1 := by
    by_cases hx : ∃ s ∈ vecL l, s.dept = dept
    · obtain ⟨s, hs, e⟩ := hx
      obtain ⟨y, hy, rfl⟩ := hv.mem s hs
      exact .inr ⟨y, hy, e, addNo_some dept (vecL l) 1 hv.srt _ hs e⟩
    · exact .inl (addNo_none dept (vecL l) 1 fun s hs e => hx ⟨s, hs, e⟩)
  have hseen : ∀ s ∈ addSeen (vecL l) dept, s ∈ vecL l ∧ s.dept ≠ dept := fun s hs => by
    have := List.mem_filter.1 hs
    exact ⟨this.1, by simpa using this.2⟩
  have hnone : ∀ y ∈ l, knowsL y ⟨dept, addNo (vecL l) dept⟩ = false := fun y hy => by
    cases hk : knowsL y ⟨dept, addNo (vecL l) dept⟩ with
    | false => rfl
    | true =>
      rcases knows_iff.1 hk with ⟨e1, e2⟩ | ⟨x, hx, e1, e2⟩
      · have := hno y hy e1
        simp only at e2
        omega
      · have hm := ((h.seen hy).own x hx).2.1
        obtain ⟨z, hz, rfl⟩ := List.mem_map.1 hm
        have := hno z hz e1
        simp only at e2
        omega
  refine ⟨?_, fun y hy => ?_, hnone, ?_, fun y hy e => ?_, fun k h1 h2 => ?_, fun s hs => hv.mem s (hseen s hs).1, ?_⟩
  · show 1 ≤ addNo (vecL l) dept
    rcases hcase with e | ⟨y, hy, _, e⟩
    · omega
    · have := h.pos hy; omega
  · rw [knows_iff]
    by_cases e : y.st.dept = dept
    · exact .inl ⟨e.symm, hno y hy e⟩
    · obtain ⟨s, hs, e1, e2⟩ := hv.top y hy
      exact .inr ⟨s, List.mem_filter.2 ⟨hs, by simp [e1, e]⟩, e1, e2⟩
  · cases hk : knowsL (addD l dept kind paper text person) (addD l dept kind paper text person).st with
    | false => rfl
    | true =>
      rcases knows_iff.1 hk with ⟨_, e2⟩ | ⟨x, hx, e1, e2⟩
      · omega
      · exact absurd e1 (hseen x hx).2
  · have := hno y hy (by rw [e]; rfl)
    rw [e] at this
    simp only [addD] at this
    omega
  · show ∃ y ∈ l, y.st = ⟨dept, k⟩
    change k < addNo (vecL l) dept at h2
    rcases hcase with e | ⟨y, hy, e1, e⟩
    · omega
    · obtain ⟨z, hz, e3⟩ := h.below hy h1 (by omega)
      exact ⟨z, hz, by rw [e3, e1]⟩
  · show SeenOk (l.map (·.st)) dept (addSeen (vecL l) dept)
    exact vec_seen (l := l) (fun d hd => h.key hd) (List.Pairwise.sublist List.filter_sublist hv.srt) (fun s hs => hv.mem s (hseen s hs).1) (fun s hs => (hseen s hs).2) fun d hd => List.mem_map.2 ⟨d, hd, rfl⟩
theorem add_law {l x : List De} {d : De} (h : CkOk l) (ha : AddOk l d) (hl : l.length < 500) (hk : keyL d.st.dept = true) (hb : bodyL d.kind d.paper d.text d.person = 0) (hs : Srt x) (hm : ∀ e, e ∈ x ↔ e ∈ l ∨ e = d) (hlen : x.length ≤ 500) : CkOk x := by
  have hks : ∀ s ∈ l.map (·.st), s ∈ x.map (·.st) := fun s hs => by
    obtain ⟨e, he, rfl⟩ := List.mem_map.1 hs
    exact List.mem_map.2 ⟨e, (hm e).2 (.inl he), rfl⟩
  refine ckOk_sets hs hlen (fun e he => ?_) (fun e he => ?_) (fun e he k h1 h2 => ?_) (fun e he => ?_) (fun e he => ?_) (fun e he => ?_)
  · rcases (hm e).1 he with he | rfl
    · exact h.key he
    · exact hk
  · rcases (hm e).1 he with he | rfl
    · exact h.pos he
    · exact ha.pos
  · rcases (hm e).1 he with he | rfl
    · obtain ⟨y, hy, e1⟩ := h.below he h1 (by omega)
      exact ⟨y, (hm y).2 (.inl hy), e1⟩
    · obtain ⟨y, hy, e1⟩ := ha.below k h1 h2
      exact ⟨y, (hm y).2 (.inl hy), e1⟩
  · rcases (hm e).1 he with he | rfl
    · exact (h.seen he).mono hks
    · exact ha.sok.mono hks
  · rcases (hm e).1 he with he | rfl
    · exact h.body he
    · exact hb
  · rw [closed_iff]
    intro y hy hky s hsy
    rcases (hm e).1 he with he | rfl
    · rcases (hm y).1 hy with hy | rfl
      · exact closed_iff.1 (h.closed e he) y hy hky s hsy
      · rw [ha.none e he] at hky; cases hky
    · rcases (hm y).1 hy with hy | rfl
      · have hms := ((h.seen hy).own s hsy).2.1
        obtain ⟨z, hz, rfl⟩ := List.mem_map.1 hms
        exact ha.all z hz
      · rw [ha.self] at hky; cases hky

/-! ### parts of right deeds -/
theorem last_mem {l : List De} {d : De} : d ∈ lastL l ↔ d ∈ l ∧ ∀ x ∈ l, knowsL x d.st = false := by
  unfold lastL lastP
  rw [List.mem_filter]
  simp
theorem heads_last {l : List De} (h : ∀ x ∈ l, ∀ s, rknowsL x s = knowsL x s) : headsL l = lastL l := by
  unfold headsL lastL
  apply List.filter_congr
  intro d hd
  unfold headP lastP
  congr 1
  rw [Bool.eq_iff_iff, List.any_eq_true, List.any_eq_true]
  exact ⟨fun ⟨x, hx, e⟩ => ⟨x, hx, by rw [← h x hx]; exact e⟩, fun ⟨x, hx, e⟩ => ⟨x, hx, by rw [h x hx]; exact e⟩⟩
theorem rvers_vers {l : List De} (h : CkOk l) (paper : List UInt8) : (rversL l paper) = lastL (l.filter (verP paper)) := heads_last fun x hx s => rk_eq (h.seen (List.mem_filter.1 hx).1) s
theorem deedOf_mem {l : List De} (h : Srt l) {d : De} (hd : d ∈ l) : deedOfL l d.st = some d := by
  unfold deedOfL
  cases hf : l.find? fun x => stB x.st d.st with
  | none =>
    rw [List.find?_eq_none] at hf
    have := hf d hd
    rw [stB_iff] at this
    exact absurd rfl this
  | some x =>
    have h1 := List.find?_some hf
    rw [stB_iff] at h1
    rw [srt_inj h (List.mem_of_find?_eq_some hf) hd h1]
theorem isPut_mem {l : List De} (h : Srt l) {d : De} (hd : d ∈ l) : isPutL l d.st = putP d := by
  unfold isPutL
  rw [deedOf_mem h hd]
  rfl
theorem there_isPut {l : List De} (h : CkOk l) (paper : List UInt8) : (versL l paper).any (isPutL l) = thereL l paper := by
  unfold versL thereL
  rw [rvers_vers h, List.any_map, Bool.eq_iff_iff, List.any_eq_true, List.any_eq_true]
  have e : ∀ d ∈ lastL (l.filter (verP paper)), isPutL l d.st = putP d := fun d hd => isPut_mem h.srt (List.mem_filter.1 (last_mem.1 hd).1).1
  exact ⟨fun ⟨x, hx, h1⟩ => ⟨x, hx, by rw [← e x hx]; exact h1⟩, fun ⟨x, hx, h1⟩ => ⟨x, hx, by rw [Function.comp, e x hx]; exact h1⟩⟩
end Go.Proofs.YtkomcdohejibmaaGreatDoor
