/- Groups of paragraphs as lists: plain law. Own work of this seat. -/
import Derived.Test.YtikbgjhajgjjdaaGreatDoorP35
set_option maxRecDepth 100000
set_option linter.unusedSimpArgs false
set_option linter.unusedVariables false
namespace Go.Proofs.YtikbgjhajgjjdaaGreatDoor
open Go Go.Av Go.RowKit

def chunksFrom (cur : List Pa) : List Pa → List (List Pa)
  | [] => [cur]
  | p :: r => if joins p then chunksFrom (cur ++ [p]) r else cur :: chunksFrom [p] r
def chunks : List Pa → List (List Pa)
  | [] => []
  | p :: r => chunksFrom [p] r

theorem cut_one {ps : List Pa} {i : Nat} (h : i < ps.length) : cutP ps (i, i + 1) = [ps[i]] := by
  rw [cutP, List.take_succ_eq_append_getElem h, List.drop_append_of_le_length (by simp; omega)]
  simp
theorem cut_more {ps : List Pa} {a i : Nat} (ha : a ≤ i) (h : i < ps.length) : cutP ps (a, i + 1) = cutP ps (a, i) ++ [ps[i]] := by
  simp only [cutP]
  rw [List.take_succ_eq_append_getElem h, List.drop_append_of_le_length (by simp; omega)]
theorem gfold_cut (ps : List Pa) : ∀ (rest : List Pa) (i a : Nat) (init : List (Nat × Nat)), a ≤ i → ps.drop i = rest →
    (gfold (init ++ [(a, i)]) i rest).map (cutP ps) = init.map (cutP ps) ++ chunksFrom (cutP ps (a, i)) rest
  | [], i, a, init, ha, hr => by simp [gfold, chunksFrom]
  | p :: r, i, a, init, ha, hr => by
    have hi : i < ps.length := by
      rcases Nat.lt_or_ge i ps.length with h | h
      · exact h
      · rw [List.drop_of_length_le h] at hr; cases hr
    have hd := List.drop_eq_getElem_cons hi
    rw [hr] at hd
    simp only [List.cons.injEq] at hd
    obtain ⟨hp, hr'⟩ := hd
    cases hj : joins p with
    | true =>
      have hg : gstep (init ++ [(a, i)]) i p = init ++ [(a, i + 1)] := by
        simp [gstep, hj, List.set_append, List.getD]
      rw [gfold, hg, gfold_cut ps r (i + 1) a init (by omega) hr'.symm, chunksFrom, if_pos hj, cut_more ha hi, hp]
    | false =>
      have hg : gstep (init ++ [(a, i)]) i p = (init ++ [(a, i)]) ++ [(i, i + 1)] := by simp [gstep, hj]
      rw [gfold, hg, gfold_cut ps r (i + 1) i (init ++ [(a, i)]) (by omega) hr'.symm, chunksFrom, hj, cut_one hi, hp]
      simp
theorem groups_cut (ps : List Pa) (h0 : ∀ p, ps.head? = some p → joins p = false) : (groupsL ps).map (cutP ps) = chunks ps := by
  cases ps with
  | nil => rfl
  | cons p r =>
    have hj := h0 p rfl
    have hg : gstep [] 0 p = [] ++ [(0, 1)] := by simp [gstep, hj]
    rw [groupsL, gfold, hg, gfold_cut (p :: r) r 1 0 [] (by omega) rfl]
    rfl

def hdP (c : List Pa) : Pa := c.head?.getD pNo
def ownC (name : List UInt8) (ws : List (List UInt8)) (c : List Pa) (nxt : Option (List Pa)) : Bool :=
  isCue (hdP c) name || (((hdP c).kind == 2 && (match nxt with | some d => isCue (hdP d) name | none => false)) ||
    ((hdP c).kind != 2 && (decide (0 < ws.length) && decide (0 < (foundL (wordsL (hdP c).text) ws).length))))
def partC (name : List UInt8) (ws : List (List UInt8)) : List (List Pa) → List Pa
  | [] => []
  | c :: r => (if ownC name ws c r.head? then c else []) ++ partC name ws r
theorem hd_cut {ps : List Pa} {g : Nat × Nat} (h : g.1 < g.2 ∧ g.2 ≤ ps.length) : hdP (cutP ps g) = ps.getD g.1 pNo := by
  have h1 : g.1 < ps.length := by omega
  simp [hdP, cutP, List.head?_drop, List.getElem?_take, h.1, List.getD]
theorem own_cut {ps : List Pa} {gs : List (Nat × Nat)} (hgo : ∀ g ∈ gs, g.1 < g.2 ∧ g.2 ≤ ps.length) (name : List UInt8) (ws : List (List UInt8)) {k : Nat} (hk : k < gs.length) :
    ownB ps name ws gs k = ownC name ws (cutP ps gs[k]) ((gs.map (cutP ps)).drop (k + 1)).head? := by
  have h1 : headP ps gs k = hdP (cutP ps gs[k]) := by
    rw [hd_cut (hgo _ (List.getElem_mem hk)), headP]
    simp [List.getD, hk]
  unfold ownB ownC
  rw [h1, List.head?_drop, List.getElem?_map]
  by_cases hk1 : k + 1 < gs.length
  · have h2 : headP ps gs (k + 1) = hdP (cutP ps gs[k + 1]) := by
      rw [hd_cut (hgo _ (List.getElem_mem hk1)), headP]
      simp [List.getD, hk1]
    rw [h2, List.getElem?_eq_getElem hk1]
    simp [hk1]
  · rw [List.getElem?_eq_none (by omega)]
    simp [hk1]
theorem part_from {ps : List Pa} {gs : List (Nat × Nat)} (hgo : ∀ g ∈ gs, g.1 < g.2 ∧ g.2 ≤ ps.length) (name : List UInt8) (ws : List (List UInt8)) : ∀ (d k : Nat), k + d = gs.length →
    partTo ps name ws gs gs.length = partTo ps name ws gs k ++ partC name ws ((gs.map (cutP ps)).drop k)
  | 0, k, h => by
    have : k = gs.length := by omega
    subst this
    rw [List.drop_of_length_le (by simp)]
    simp [partC]
  | d + 1, k, h => by
    have hk : k < gs.length := by omega
    have hk' : k < (gs.map (cutP ps)).length := by simpa using hk
    rw [part_from hgo name ws d (k + 1) (by omega), List.drop_eq_getElem_cons hk', partC, partTo, own_cut hgo name ws hk]
    simp [List.getD, hk]
theorem part_chunks (ps : List Pa) (name : List UInt8) (h0 : ∀ p, ps.head? = some p → joins p = false) : partL ps name = partC name (wordsL name) (chunks ps) := by
  rw [partL, part_from (groups_ok ps) name (wordsL name) (groupsL ps).length 0 (by omega), groups_cut ps h0]
  simp [partTo]

def keepC (name : List UInt8) (ws : List (List UInt8)) : List (List Pa) → List (List Pa)
  | [] => []
  | c :: r => if ownC name ws c r.head? then c :: keepC name ws r else keepC name ws r
theorem partC_flat (name : List UInt8) (ws : List (List UInt8)) : ∀ cs, partC name ws cs = (keepC name ws cs).flatten
  | [] => rfl
  | c :: r => by
    rw [partC, keepC, partC_flat name ws r]
    split <;> simp
/-- a chunk: it begins with what does not join, all else joins -/
def WfC : List Pa → Prop
  | [] => False
  | p :: r => joins p = false ∧ ∀ q ∈ r, joins q = true
theorem chunksFrom_wf : ∀ (ps cur : List Pa), WfC cur → ∀ c ∈ chunksFrom cur ps, WfC c
  | [], cur, h, c, hc => by
    simp only [chunksFrom, List.mem_singleton] at hc
    subst hc; exact h
  | p :: r, cur, h, c, hc => by
    rw [chunksFrom] at hc
    split at hc
    · rename_i hj
      refine chunksFrom_wf r (cur ++ [p]) ?_ c hc
      cases cur with
      | nil => exact h.elim
      | cons a t => exact ⟨h.1, fun q hq => by
          rcases List.mem_append.1 hq with hq | hq
          · exact h.2 q hq
          · rw [List.mem_singleton.1 hq]; exact hj⟩
    · rename_i hj
      rcases List.mem_cons.1 hc with rfl | hc
      · exact h
      · exact chunksFrom_wf r [p] ⟨by simpa using hj, by simp⟩ c hc
theorem chunks_wf (ps : List Pa) (h0 : ∀ p, ps.head? = some p → joins p = false) : ∀ c ∈ chunks ps, WfC c := by
  cases ps with
  | nil => intro c hc; simp [chunks] at hc
  | cons p r => exact chunksFrom_wf r [p] ⟨h0 p rfl, by simp⟩
theorem keep_sub (name : List UInt8) (ws : List (List UInt8)) : ∀ cs, ∀ c ∈ keepC name ws cs, c ∈ cs
  | [], c, h => by simp [keepC] at h
  | d :: r, c, h => by
    rw [keepC] at h
    split at h
    · rcases List.mem_cons.1 h with rfl | h
      · simp
      · exact List.mem_cons_of_mem _ (keep_sub name ws r c h)
    · exact List.mem_cons_of_mem _ (keep_sub name ws r c h)
end Go.Proofs.YtikbgjhajgjjdaaGreatDoor
/- Parts run: plain law. Own work of this seat. -/
set_option maxRecDepth 100000
set_option linter.unusedSimpArgs false
set_option linter.unusedVariables false
namespace Go.Proofs.YtikbgjhajgjjdaaGreatDoor
open Go Go.Av Go.RowKit

theorem runL_split : ∀ (a b : List Pa) (l e : Int), runL l (a ++ b) = some e → ∃ m, runL l a = some m ∧ runL m b = some e
  | [], b, l, e, h => ⟨l, rfl, h⟩
  | p :: a, b, l, e, h => by
    simp only [List.cons_append, runL] at h
    split at h
    · rename_i hc
      obtain ⟨m, h1, h2⟩ := runL_split a b _ e h
      exact ⟨m, by simp only [runL, if_pos hc]; exact h1, h2⟩
    · cases h
def Free (c : List Pa) : Prop := ∀ l, l ≠ 2 → l ≠ 3 → ∃ e, runL l c = some e ∧ e ≠ 2 ∧ e ≠ 3
theorem join_no {q : Pa} (h : joins q = false) : q.kind ≠ 3 ∧ q.kind ≠ 4 := by
  simpa [joins] using h
theorem follow_no {q : Pa} {m : Int} (h : joins q = false) (hf : followsL q.kind m = true) : m ≠ 2 ∧ m ≠ 3 := by
  obtain ⟨h3, h4⟩ := join_no h
  simpa [followsL, h3, h4] using hf
theorem free_of {c : List Pa} (hw : WfC c) {l m : Int} (h : runL l c = some m) (h2 : m ≠ 2) (h3 : m ≠ 3) : Free c := by
  cases c with
  | nil => exact hw.elim
  | cons p t =>
    intro l' a b
    simp only [runL] at h ⊢
    split at h
    · rename_i hc
      simp only [Bool.and_eq_true] at hc
      obtain ⟨k3, k4⟩ := join_no hw.1
      rw [if_pos (by simp [hc.1, follows_free k3 k4 a b])]
      exact ⟨m, h, h2, h3⟩
    · cases h
theorem free_all : ∀ (cs : List (List Pa)) (l e : Int), (∀ c ∈ cs, WfC c) → runL l cs.flatten = some e → e ≠ 2 → e ≠ 3 → ∀ c ∈ cs, Free c
  | [], _, _, _, _, _, _, c, hc => by simp at hc
  | d :: r, l, e, hw, h, h2, h3, c, hc => by
    rw [List.flatten_cons] at h
    obtain ⟨m, h4, h5⟩ := runL_split _ _ _ _ h
    have hm : m ≠ 2 ∧ m ≠ 3 := by
      cases r with
      | nil =>
        simp only [List.flatten_nil, runL, Option.some.injEq] at h5
        subst h5; exact ⟨h2, h3⟩
      | cons f r =>
        have hf := hw f (by simp)
        cases f with
        | nil => exact hf.elim
        | cons q t =>
          rw [List.flatten_cons, List.cons_append] at h5
          simp only [runL] at h5
          split at h5
          · rename_i hc
            simp only [Bool.and_eq_true] at hc
            exact follow_no hf.1 hc.2
          · cases h5
    rcases List.mem_cons.1 hc with rfl | hc
    · exact free_of (hw c (by simp)) h4 hm.1 hm.2
    · exact free_all r m e (fun x hx => hw x (by simp [hx])) h5 h2 h3 c hc
theorem free_run : ∀ (cs : List (List Pa)) (l : Int), (∀ c ∈ cs, Free c) → l ≠ 2 → l ≠ 3 → ∃ e, runL l cs.flatten = some e ∧ e ≠ 2 ∧ e ≠ 3
  | [], l, _, a, b => ⟨l, rfl, a, b⟩
  | c :: r, l, h, a, b => by
    obtain ⟨m, h1, h2, h3⟩ := h c (by simp) l a b
    obtain ⟨e, h4, h5⟩ := free_run r m (fun x hx => h x (by simp [hx])) h2 h3
    exact ⟨e, by rw [List.flatten_cons, runL_append _ _ _ _ h1]; exact h4, h5⟩
theorem chunksFrom_all : ∀ (ps cur : List Pa), (chunksFrom cur ps).flatten = cur ++ ps
  | [], cur => by simp [chunksFrom]
  | p :: r, cur => by
    rw [chunksFrom]
    split
    · rw [chunksFrom_all r (cur ++ [p])]; simp
    · rw [List.flatten_cons, chunksFrom_all r [p]]; simp
theorem chunks_all (ps : List Pa) : (chunks ps).flatten = ps := by
  cases ps with
  | nil => rfl
  | cons p r => exact chunksFrom_all r [p]
/-- a part of right paragraphs is right -/
theorem part_run {ps : List Pa} {e : Int} (name : List UInt8) (h : runL 0 ps = some e) (h2 : e ≠ 2) (h3 : e ≠ 3) : ∃ e', runL 0 (partL ps name) = some e' ∧ e' ≠ 2 ∧ e' ≠ 3 := by
  have h0 := run_head h
  have hw := chunks_wf ps h0
  have hf := free_all (chunks ps) 0 e hw (by rw [chunks_all]; exact h) h2 h3
  rw [part_chunks ps name h0, partC_flat]
  exact free_run _ 0 (fun c hc => hf c (keep_sub name _ _ c hc)) (by decide) (by decide)

end Go.Proofs.YtikbgjhajgjjdaaGreatDoor
