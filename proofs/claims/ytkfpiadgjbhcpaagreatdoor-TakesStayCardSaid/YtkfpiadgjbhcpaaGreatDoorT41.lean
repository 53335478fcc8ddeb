/- take.covering. Own work of this seat. -/
import Derived.Test.YtkfpiadgjbhcpaaGreatDoorT40
import Derived.Test.YtkfpiadgjbhcpaaGreatDoorT21
set_option maxRecDepth 100000
set_option linter.unusedSimpArgs false
set_option linter.unusedVariables false
namespace Go.Proofs.YtkfpiadgjbhcpaaGreatDoor
open Go Go.Av Go.RowKit

/-- a group of parts: of which paragraph, in which block -/
structure Gq where
  key : Int
  at' : Nat
  ps : List Pp'
def grE (g : Gq) : AV × AV := (.int .i64 g.key, .sl g.at' 0 g.ps.length g.ps.length)
def mapE (gs : List Gq) : List (AV × AV) := gs.map grE
def partsG (gs : List Gq) (p : Int) : List Pp' := match gs.find? (fun g => g.key == p) with
  | some g => g.ps
  | none => []
theorem lowC_succ {n : Nat} {v : AV} (h : lowC n v = true) : lowC (n + 1) v = true := by
  cases v <;> simp only [lowC, decide_eq_true_eq] at h ⊢ <;> first | omega | exact h
theorem lowV_succ {n : Nat} {v : AV} (h : lowV n v = true) : lowV (n + 1) v = true := by
  cases v with
  | agg r => simp only [lowV, List.all_eq_true] at h ⊢; exact fun x hx => lowC_succ (h x hx)
  | fn f r => simp only [lowV, List.all_eq_true] at h ⊢; exact fun x hx => lowC_succ (h x hx)
  | _ => simp only [lowV] at h ⊢; exact lowC_succ h
theorem lowB_succ {n : Nat} {b : Blk} (h : lowB n b = true) : lowB (n + 1) b = true := by
  cases b with
  | arr e l => simp only [lowB, List.all_eq_true] at h ⊢; exact fun x hx => lowC_succ (h x hx)
  | mp es => simp only [lowB, List.all_eq_true] at h ⊢; exact fun x hx => lowV_succ (h x hx)
  | it m n' s => simp only [lowB, decide_eq_true_eq] at h ⊢; omega
  | dead => rfl
theorem low_more {T : List Blk} {y : Blk} (h : T.all (lowB T.length) = true) (hy : lowB (T.length + 1) y = true) : (T ++ [y]).all (lowB (T ++ [y]).length) = true := by
  rw [List.length_append, List.length_singleton, List.all_append, List.all_cons, List.all_nil, hy, Bool.and_true, Bool.and_true]
  rw [List.all_eq_true] at h ⊢
  exact fun b hb => lowB_succ (h b hb)
theorem low_set {T : List Blk} {i : Nat} {y : Blk} (h : T.all (lowB T.length) = true) (hy : lowB T.length y = true) : (T.set i y).all (lowB (T.set i y).length) = true := by
  rw [List.length_set]
  rw [List.all_eq_true] at h ⊢
  intro b hb
  rcases List.mem_or_eq_of_mem_set hb with hb | rfl
  · exact h b hb
  · exact hy
def refsL (n : Nat) : List AV := (List.range n).map fun i => AV.mp (i + 1 + 1)
theorem gd_app {T : List Blk} {k : Nat} {b : Blk} (h : T[k]? = some b) (y : Blk) : (T ++ [y]).getD k .dead = b := by
  rw [List.getD_eq_getElem?_getD, List.getElem?_append_left (List.getElem?_eq_some_iff.1 h).1, h]; rfl
theorem gd_end (T : List Blk) (y d : Blk) : (T ++ [y]).getD T.length d = y := by simp [List.getD]
theorem st_end (T : List Blk) (x y : Blk) : (T ++ [x]).set T.length y = T ++ [y] := by simp
theorem gd_of {T : List Blk} {k : Nat} {b : Blk} (h : T[k]? = some b) : T.getD k .dead = b := by
  rw [List.getD_eq_getElem?_getD, h]; rfl
theorem gd_set {T : List Blk} {k j : Nat} {b : Blk} (h : T[k]? = some b) (hj : j ≠ k) (y : Blk) : (T.set j y)[k]? = some b := by
  rw [List.getElem?_set_ne hj]; exact h
/-- the table while covers are gathered; the groups of each scene -/
structure CovI (xs : List Sc) (G : Nat → List Gq) (T : List Blk) : Prop where
  h0 : T[0]? = some (.mp (scMF 0 xs))
  h1 : T[1]? = some (.arr 1 (refsL xs.length))
  maps : ∀ i, i < xs.length → T[i + 1 + 1]? = some (.mp (mapE (G i)))
  blk : ∀ i, i < xs.length → ∀ g ∈ G i, T[g.at']? = some (.arr 5 (g.ps.map ppA))
  rng : ∀ i, i < xs.length → ∀ g ∈ G i, xs.length + 2 ≤ g.at'
  inj : ∀ i, i < xs.length → ∀ j, j < xs.length → ∀ g ∈ G i, ∀ g' ∈ G j, g.at' = g'.at' → i = j ∧ g.key = g'.key
  uniq : ∀ i, i < xs.length → (G i).Pairwise fun a b => a.key ≠ b.key
  low : T.all (lowB T.length) = true
theorem CovI.lt {xs : List Sc} {G : Nat → List Gq} {T : List Blk} (h : CovI xs G T) {i : Nat} (hi : i < xs.length) {g : Gq} (hg : g ∈ G i) : g.at' < T.length := (List.getElem?_eq_some_iff.1 (h.blk i hi g hg)).1
theorem CovI.big {xs : List Sc} {G : Nat → List Gq} {T : List Blk} (h : CovI xs G T) : xs.length + 2 ≤ T.length := by
  cases hx : xs.length with
  | zero => have := (List.getElem?_eq_some_iff.1 h.h1).1; omega
  | succ n => have := (List.getElem?_eq_some_iff.1 (h.maps n (by omega))).1; omega
theorem CovI.more {xs : List Sc} {G : Nat → List Gq} {T : List Blk} (h : CovI xs G T) {y : Blk} (hy : lowB (T.length + 1) y = true) : CovI xs G (T ++ [y]) := by
  have ap : ∀ {k : Nat} {b : Blk}, T[k]? = some b → (T ++ [y])[k]? = some b := fun e => by rw [List.getElem?_append_left (List.getElem?_eq_some_iff.1 e).1]; exact e
  exact ⟨ap h.h0, ap h.h1, fun i hi => ap (h.maps i hi), fun i hi g hg => ap (h.blk i hi g hg), h.rng, h.inj, h.uniq, low_more h.low hy⟩
def updG (G : Nat → List Gq) (i : Nat) (gs : List Gq) : Nat → List Gq := fun j => if j = i then gs else G j
theorem low_mapE {n : Nat} {gs : List Gq} (h : ∀ g ∈ gs, g.at' < n) : lowB n (.mp (mapE gs)) = true := by
  show (mapE gs).all _ = true
  rw [List.all_eq_true]
  intro x hx
  obtain ⟨g, hg, rfl⟩ := List.mem_map.1 hx
  simp only [grE, lowV, lowC, decide_eq_true_eq]
  exact h g hg
/-- a new group -/
theorem CovI.push {xs : List Sc} {G : Nat → List Gq} {T : List Blk} (h : CovI xs G T) {i : Nat} (hi : i < xs.length) (key : Int) (p : Pp') (hn : ∀ g ∈ G i, g.key ≠ key) :
    CovI xs (updG G i (G i ++ [⟨key, T.length, [p]⟩])) ((T ++ [Blk.arr 5 [ppA p]]).set (i + 1 + 1) (Blk.mp (mapE (G i) ++ [(AV.int .i64 key, AV.sl T.length 0 1 1)]))) := by
  have hb := h.big
  have hm : mapE (G i) ++ [(AV.int .i64 key, AV.sl T.length 0 1 1)] = mapE (G i ++ [⟨key, T.length, [p]⟩]) := by simp [mapE, grE]
  rw [hm]
  have h' := h.more (y := .arr 5 [ppA p]) (low_all (pp_frz [p]))
  have hmem : ∀ j, ∀ g ∈ updG G i (G i ++ [⟨key, T.length, [p]⟩]) j, g ∈ G j ∨ (j = i ∧ g = ⟨key, T.length, [p]⟩) := by
    intro j g hg
    unfold updG at hg
    split at hg
    · rename_i e
      subst e
      rcases List.mem_append.1 hg with hg | hg
      · exact .inl hg
      · exact .inr ⟨rfl, List.mem_singleton.1 hg⟩
    · exact .inl hg
  refine ⟨gd_set h'.h0 (by omega) _, gd_set h'.h1 (by omega) _, fun j hj => ?_, fun j hj g hg => ?_, fun j hj g hg => ?_, fun a ha b hb' g hg g' hg' e => ?_, fun j hj => ?_, ?_⟩
  · by_cases e : j = i
    · subst e
      rw [List.getElem?_set_self (by simp; omega)]
      simp [updG]
    · rw [List.getElem?_set_ne (by omega)]
      have : updG G i (G i ++ [⟨key, T.length, [p]⟩]) j = G j := by simp [updG, e]
      rw [this]
      exact h'.maps j hj
  · rcases hmem j g hg with hg | ⟨rfl, rfl⟩
    · have := h.rng j hj g hg
      exact gd_set (h'.blk j hj g hg) (by omega) _
    · simp only
      rw [List.getElem?_set_ne (by omega)]
      simp
  · rcases hmem j g hg with hg | ⟨rfl, rfl⟩
    · exact h.rng j hj g hg
    · simp only; omega
  · rcases hmem a g hg with z1 | ⟨z1, z2⟩
    · rcases hmem b g' hg' with z3 | ⟨z3, z4⟩
      · exact h.inj a ha b hb' g z1 g' z3 e
      · have := h.lt ha z1; rw [z4] at e; simp only at e; omega
    · rcases hmem b g' hg' with z3 | ⟨z3, z4⟩
      · have := h.lt hb' z3; rw [z2] at e; simp only at e; omega
      · rw [z1, z2, z3, z4]; exact ⟨rfl, rfl⟩
  · unfold updG
    split
    · rename_i e
      subst e
      rw [List.pairwise_append]
      exact ⟨h.uniq j hj, List.pairwise_singleton .., fun a ha b hb => by rw [List.mem_singleton.1 hb]; exact hn a ha⟩
    · exact h.uniq j hj
  · refine low_set h'.low (low_mapE fun g hg => ?_)
    rw [List.length_append, List.length_singleton]
    rcases List.mem_append.1 hg with hg | hg
    · have := h.lt hi hg; omega
    · rw [List.mem_singleton.1 hg]; simp only; omega
/-- a part more in a group -/
theorem CovI.put {xs : List Sc} {G : Nat → List Gq} {T : List Blk} (h : CovI xs G T) {i : Nat} (hi : i < xs.length) {m : Nat} {g : Gq} (hm : (G i)[m]? = some g) (p : Pp') :
    CovI xs (updG G i ((G i).set m ⟨g.key, g.at', g.ps ++ [p]⟩)) ((T.set g.at' (.arr 5 ((g.ps ++ [p]).map ppA))).set (i + 1 + 1) (.mp ((mapE (G i)).set m (.int .i64 g.key, .sl g.at' 0 (g.ps.length + 1) (g.ps.length + 1))))) := by
  have hb := h.big
  have hgm := List.mem_of_getElem? hm
  obtain ⟨hml, hmg⟩ := List.getElem?_eq_some_iff.1 hm
  have hmm : (mapE (G i)).set m (.int .i64 g.key, .sl g.at' 0 (g.ps.length + 1) (g.ps.length + 1)) = mapE ((G i).set m ⟨g.key, g.at', g.ps ++ [p]⟩) := by
    unfold mapE
    rw [List.map_set]
    simp [grE]
  rw [hmm]
  have hgr := h.rng i hi g hgm
  have hgl := h.lt hi hgm
  have keyq : ∀ y ∈ (G i).set m ⟨g.key, g.at', g.ps ++ [p]⟩, y = ⟨g.key, g.at', g.ps ++ [p]⟩ ∨ (y ∈ G i ∧ y.key ≠ g.key) := by
    intro y hy
    obtain ⟨j, hj, rfl⟩ := List.getElem_of_mem hy
    rw [List.length_set] at hj
    by_cases hij : j = m
    · subst hij; left; simp
    · right
      rw [List.getElem_set_ne (Ne.symm hij)]
      refine ⟨List.getElem_mem _, ?_⟩
      rcases Nat.lt_or_gt_of_ne hij with hlt | hlt
      · have hx := List.pairwise_iff_getElem.1 (h.uniq i hi) j m hj hml hlt
        rw [hmg] at hx
        exact hx
      · have hx := List.pairwise_iff_getElem.1 (h.uniq i hi) m j hml hj hlt
        rw [hmg] at hx
        exact Ne.symm hx
  have hmem : ∀ j, ∀ y ∈ updG G i ((G i).set m ⟨g.key, g.at', g.ps ++ [p]⟩) j, (y ∈ G j ∧ (j = i → y.key ≠ g.key)) ∨ (j = i ∧ y = ⟨g.key, g.at', g.ps ++ [p]⟩) := by
    intro j y hy
    unfold updG at hy
    split at hy
    · rename_i e
      subst e
      rcases keyq y hy with rfl | ⟨h1, h2⟩
      · exact .inr ⟨rfl, rfl⟩
      · exact .inl ⟨h1, fun _ => h2⟩
    · rename_i e
      exact .inl ⟨hy, fun h => absurd h e⟩
  refine ⟨gd_set (gd_set h.h0 (by omega) _) (by omega) _, gd_set (gd_set h.h1 (by omega) _) (by omega) _, fun j hj => ?_, fun j hj y hy => ?_, fun j hj y hy => ?_, fun a ha b hb' y hy y' hy' e => ?_, fun j hj => ?_, ?_⟩
  · by_cases e : j = i
    · subst e
      rw [List.getElem?_set_self (by simp; omega)]
      simp [updG]
    · rw [List.getElem?_set_ne (by omega)]
      have : updG G i ((G i).set m ⟨g.key, g.at', g.ps ++ [p]⟩) j = G j := by simp [updG, e]
      rw [this]
      exact gd_set (h.maps j hj) (by omega) _
  · rcases hmem j y hy with ⟨hy, hk⟩ | ⟨rfl, rfl⟩
    · have hr := h.rng j hj y hy
      refine gd_set (gd_set (h.blk j hj y hy) (fun e => ?_) _) (by omega) _
      obtain ⟨e1, e2⟩ := h.inj i hi j hj g hgm y hy e
      exact hk e1.symm e2.symm
    · simp only
      rw [List.getElem?_set_ne (by omega), List.getElem?_set_self hgl]
  · rcases hmem j y hy with ⟨hy, _⟩ | ⟨rfl, rfl⟩
    · exact h.rng j hj y hy
    · exact hgr
  · rcases hmem a y hy with ⟨z1, hk⟩ | ⟨z1, z2⟩
    · rcases hmem b y' hy' with ⟨z3, hk'⟩ | ⟨z3, z4⟩
      · exact h.inj a ha b hb' y z1 y' z3 e
      · rw [z4] at e ⊢
        rw [z3]
        exact h.inj a ha i hi y z1 g hgm e
    · rcases hmem b y' hy' with ⟨z3, hk'⟩ | ⟨z3, z4⟩
      · rw [z2] at e ⊢
        rw [z1]
        exact h.inj i hi b hb' g hgm y' z3 e
      · rw [z1, z2, z3, z4]
        exact ⟨rfl, rfl⟩
  · unfold updG
    split
    · rename_i e
      subst e
      rw [List.pairwise_iff_getElem]
      intro a b ha hb'' hab
      rw [List.length_set] at ha hb''
      have hat : ∀ (t : Nat) (ht : t < (G j).length), (((G j).set m ⟨g.key, g.at', g.ps ++ [p]⟩)[t]'(by simpa using ht)).key = (G j)[t].key := by
        intro t ht
        by_cases hti : t = m
        · subst hti; simp [hmg]
        · rw [List.getElem_set_ne (Ne.symm hti)]
      rw [hat a ha, hat b hb'']
      exact List.pairwise_iff_getElem.1 (h.uniq j hj) a b ha hb'' hab
    · exact h.uniq j hj
  · refine low_set (low_set h.low (low_all (pp_frz _))) (low_mapE fun y hy => ?_)
    rw [List.length_set]
    rcases keyq y hy with rfl | ⟨h1, _⟩
    · exact hgl
    · exact h.lt hi h1
theorem mapE_find (key : Int) : ∀ (gs : List Gq) (n : Nat), (mfind (.int .i64) (.int .i64 key) (mapE gs) n = some none ∧ ∀ g ∈ gs, g.key ≠ key) ∨
    ∃ i g, mfind (.int .i64) (.int .i64 key) (mapE gs) n = some (some (n + i, .sl g.at' 0 g.ps.length g.ps.length)) ∧ gs[i]? = some g ∧ g.key = key
  | [], n => .inl ⟨rfl, by simp⟩
  | g :: r, n => by
    simp only [mapE, List.map_cons, grE, mfind, keyEq]
    by_cases hb : key = g.key
    · refine .inr ⟨0, g, ?_, rfl, hb.symm⟩
      simp [hb]
    · have hb' : (key == g.key) = false := by simpa using hb
      rcases mapE_find key r (n + 1) with ⟨h, hn⟩ | ⟨i, g', h1, h2, h3⟩
      · left
        refine ⟨by simpa [hb', mapE] using h, fun y hy => ?_⟩
        rcases List.mem_cons.1 hy with rfl | hy
        · exact fun e => hb e.symm
        · exact hn y hy
      · right
        refine ⟨i + 1, g', ?_, by simpa using h2, h3⟩
        simp only [hb']
        rw [show n + (i + 1) = n + 1 + i by omega]
        simpa [mapE] using h1
theorem updG_mem {G : Nat → List Gq} {i j : Nat} {gs : List Gq} {g : Gq} (h : g ∈ updG G i gs j) : (j = i ∧ g ∈ gs) ∨ g ∈ G j := by
  unfold updG at h
  split at h
  · rename_i e; exact .inl ⟨e, h⟩
  · exact .inr h
theorem partsG_none {key : Int} {gs : List Gq} (h : ∀ g ∈ gs, g.key ≠ key) : partsG gs key = [] := by
  unfold partsG
  rw [List.find?_eq_none.2 (fun g hg => by simpa using h g hg)]
theorem partsG_push (key : Int) (a : Nat) (ps : List Pp') (p : Int) : ∀ {gs : List Gq}, (∀ g ∈ gs, g.key ≠ key) → partsG (gs ++ [⟨key, a, ps⟩]) p = if p = key then ps else partsG gs p
  | [], _ => by
    unfold partsG
    by_cases h : p = key
    · subst h; simp
    · have : (key == p) = false := by simpa using Ne.symm h
      simp [h, this]
  | g :: r, hn => by
    have ih := partsG_push key a ps p (gs := r) (fun y hy => hn y (by simp [hy]))
    have hg := hn g (by simp)
    unfold partsG at ih ⊢
    simp only [List.cons_append, List.find?_cons]
    cases hb : g.key == p with
    | true =>
      have : g.key = p := by simpa using hb
      rw [if_neg (by rw [← this]; exact hg)]
    | false => exact ih
theorem partsG_at : ∀ {gs : List Gq} {m : Nat} {g : Gq}, gs.Pairwise (fun a b => a.key ≠ b.key) → gs[m]? = some g → partsG gs g.key = g.ps
  | [], m, g, _, h => by simp at h
  | y :: r, 0, g, hu, h => by
    simp at h
    subst h
    simp [partsG]
  | y :: r, m + 1, g, hu, h => by
    rw [List.pairwise_cons] at hu
    have hm : r[m]? = some g := by simpa using h
    have hb : (y.key == g.key) = false := by simpa using hu.1 g (List.mem_of_getElem? hm)
    have ih := partsG_at hu.2 hm
    unfold partsG at ih ⊢
    simp only [List.find?_cons, hb]
    exact ih
theorem partsG_put (a : Nat) (ps : List Pp') (p : Int) : ∀ {gs : List Gq} {m : Nat} {g : Gq}, gs.Pairwise (fun a b => a.key ≠ b.key) → gs[m]? = some g → partsG (gs.set m ⟨g.key, a, ps⟩) p = if p = g.key then ps else partsG gs p
  | [], m, g, _, h => by simp at h
  | y :: r, 0, g, hu, h => by
    simp at h
    subst h
    unfold partsG
    simp only [List.set_cons_zero, List.find?_cons]
    cases hb : y.key == p with
    | true =>
      have : p = y.key := by simpa using (by simpa using hb : y.key = p).symm
      simp [this]
    | false =>
      have : ¬ p = y.key := by simpa using (fun e => by rw [e] at hb; simp at hb : ¬ p = y.key)
      simp [this]
  | y :: r, m + 1, g, hu, h => by
    rw [List.pairwise_cons] at hu
    have hm : r[m]? = some g := by simpa using h
    have hyg := hu.1 g (List.mem_of_getElem? hm)
    have ih := partsG_put a ps p hu.2 hm
    unfold partsG at ih ⊢
    simp only [List.set_cons_succ, List.find?_cons]
    cases hb : y.key == p with
    | true =>
      have : y.key = p := by simpa using hb
      rw [if_neg (by rw [← this]; exact hyg)]
    | false => exact ih
/-- the parts of a paragraph by the first takes -/
def partsT (no : List UInt8) (p : Int) (j : Nat) (t : Tk) (c : Nat) : List Pp' := if t.scene == no then ((t.covers.take c).filter fun x => x.para == p).map fun x => ⟨j, x⟩ else []
def partsN (l : List Tk) (no : List UInt8) (p : Int) : Nat → List Pp'
  | 0 => []
  | j + 1 => partsN l no p j ++ (match l[j]? with
    | some t => partsT no p j t t.covers.length
    | none => [])
theorem partsT_zero (no : List UInt8) (p : Int) (j : Nat) (t : Tk) : partsT no p j t 0 = [] := by simp [partsT]
theorem partsT_succ (no : List UInt8) (p : Int) (j : Nat) (t : Tk) (c : Nat) (h : c < t.covers.length) : partsT no p j t (c + 1) = partsT no p j t c ++ (if t.scene == no && t.covers[c].para == p then [⟨j, t.covers[c]⟩] else []) := by
  unfold partsT
  cases h1 : t.scene == no with
  | false => simp
  | true =>
    simp only [if_true, Bool.true_and]
    rw [List.take_add_one, List.getElem?_eq_getElem h, List.filter_append, List.map_append]
    congr 1
    simp only [Option.toList]
    cases h2 : t.covers[c].para == p <;> simp [h2]
def initT (xs : List Sc) (y : Nat) : List Blk := .mp (scMF 0 xs) :: .arr 1 (refsL y ++ List.replicate (xs.length - y) (.raw (.map none))) :: List.replicate y (.mp [])
theorem refs_len (n : Nat) : (refsL n).length = n := by simp [refsL]
theorem refs_succ (n : Nat) : refsL (n + 1) = refsL n ++ [.mp (n + 1 + 1)] := by simp [refsL, List.range_succ]
theorem initT_step (n y : Nat) (hy : y < n) : (refsL y ++ List.replicate (n - y) (AV.raw (.map none))).set y (.mp (y + 1 + 1)) = refsL (y + 1) ++ List.replicate (n - (y + 1)) (.raw (.map none)) := by
  rw [show n - y = (n - (y + 1)) + 1 by omega, List.replicate_succ, List.set_append, if_neg (by rw [refs_len]; omega), refs_len, Nat.sub_self, List.set_cons_zero, refs_succ]
  simp
theorem initT_get (n y : Nat) (hy : y < n) : List.getD (refsL y ++ List.replicate (n - y) (AV.raw (.map none))) y .any = .raw (.map none) := by
  rw [show n - y = (n - (y + 1)) + 1 by omega, List.replicate_succ, List.getD_eq_getElem?_getD, List.getElem?_append_right (by rw [refs_len]; omega), refs_len, Nat.sub_self]
  rfl
theorem refs_get (n i : Nat) (h : i < n) : List.getD (refsL n) i .any = .mp (i + 1 + 1) := by simp [refsL, List.getD, h]

set_option maxHeartbeats 8000000 in
theorem covering_ct0 (x : Sr) (r : Rl) (rs : List Rl) (l : List Tk) (hf : FilmOk x r rs l) : Ct Tryz.prog 40 [srA x, .fz 9 (l.map tkA)] [] (fun v s => ∃ G, v = .sl 1 0 x.scenes.length x.scenes.length ∧ CovI x.scenes G s ∧ ∀ i (h : i < x.scenes.length) p, partsG (G i) p = partsN l x.scenes[i].no p l.length) := by
  have hx := hf.story
  have hlen := hx.len
  have hll := hf.len
  have hok := hf.ok
  have htb := hf.takes
  have h3 := scenesOf_ct0 x hx
  simp only [srA] at h3 ⊢
  refine ct_intro Tryz.func40 rfl Tryz.ntmps40 hB40 (by simp) fun h ρ w => goB (N := 65) Tryz.ntmps40 300 ?_
  simp only [go_sem]
  refine acall (h3) (N := 65) Tryz.ntmps40 rfl ?_
  rintro _ _ ⟨rfl, rfl⟩
  refine goB (N := 65) Tryz.ntmps40 300 ?_
  simp only [go_sem, List.length_map]
  repeat refine And.intro (by first | omega | (simp; done) | (simp; omega) | kernel_rfl | exact .inl rfl | exact .inl trivial) ?_
  refine aloop (ι := Nat) (fun y => x.scenes.length - y)
    (fun y => [(21, .int .i64 y), (20, .int .i64 x.scenes.length), (6, .sl 1 0 x.scenes.length x.scenes.length), (5, .mp 0), (1, .fz 9 (l.map tkA))])
    (fun y => initT x.scenes y) (fun y => y ≤ x.scenes.length) 0 (by simp) ?_ ?_
  · refine Shift.weakS ?_ ?_
    · simp only [wk, go_sem, List.length_map]
    · simp [initT, refsL]
  intro y g1 J hJ
  by_cases gy : y < x.scenes.length
  · have dy : decide ((y : Int) < (x.scenes.length : Int)) = true := by simp; omega
    simp only [initT]
    refine goB (N := 65) Tryz.ntmps40 300 ?_
    simp only [go_sem, dy, List.length_replicate, List.length_append, refs_len, initT_get x.scenes.length y gy, initT_step x.scenes.length y gy]
    repeat refine And.intro (by first | omega | (simp; done) | (simp; omega) | kernel_rfl | exact .inl rfl | exact .inl trivial) ?_
    rw [show (y : Int) + 1 = ((y + 1 : Nat) : Int) by omega]
    refine ainv (hJ (y + 1) (by omega) (by omega)) (Shift.weakS ?_ ?_)
    · simp only [wk, go_sem]
    · simp only [initT, List.replicate_succ', List.cons_append]
  have dy : decide ((y : Int) < (x.scenes.length : Int)) = false := by simp; omega
  have : y = x.scenes.length := by omega
  subst this
  clear hJ
  have hT0 : CovI x.scenes (fun _ => []) (initT x.scenes x.scenes.length) := by
    refine ⟨rfl, ?_, fun i hi => ?_, by simp, by simp, by simp, by simp, ?_⟩
    · simp [initT]
    · simp [initT, mapE, hi]
    · have hr : ∀ n, n ≤ x.scenes.length → (flat (refsL n)).all (lowC (x.scenes.length + 2)) = true := by
        intro n
        induction n with
        | zero => intro _; rfl
        | succ n ih =>
          intro hn
          rw [refs_succ, flat_append, List.all_append, ih (by omega)]
          simp [flat, cellsOf, lowC]
          omega
      simp only [initT, Nat.sub_self, List.replicate_zero, List.append_nil, List.length_cons, List.length_replicate, List.all_cons, low_scM, Bool.true_and]
      rw [Bool.and_eq_true]
      refine ⟨hr _ (Nat.le_refl _), ?_⟩
      rw [List.all_eq_true]
      intro b hb
      rw [(List.mem_replicate.1 hb).2]
      rfl
  refine goB (N := 65) Tryz.ntmps40 300 ?_
  simp only [go_sem, dy, List.length_map]
  refine aloop (ι := Nat × (Nat → List Gq) × List Blk) (fun y => l.length - y.1)
    (fun y => [(31, .int .i64 y.1), (30, .int .i64 l.length), (29, .fz 9 (l.map tkA)), (6, .sl 1 0 x.scenes.length x.scenes.length), (5, .mp 0)])
    (fun y => y.2.2) (fun y => y.1 ≤ l.length ∧ CovI x.scenes y.2.1 y.2.2 ∧ (∀ i, i < x.scenes.length → ∀ g ∈ y.2.1 i, g.ps.length ≤ 1000 * y.1) ∧ ∀ i (h : i < x.scenes.length) p, partsG (y.2.1 i) p = partsN l x.scenes[i].no p y.1) (0, fun _ => [], initT x.scenes x.scenes.length) ⟨by simp, hT0, by simp, fun i h p => rfl⟩ ?_ ?_
  · refine Shift.weakS ?_ rfl
    simp only [wk, go_sem, List.length_map]
  rintro ⟨j, G, T⟩ ⟨g1, g2, g4, g3⟩ J hJ
  simp only at g1 g2 g3 g4 hJ ⊢
  by_cases gj : j < l.length
  · have dj : decide ((j : Int) < (l.length : Int)) = true := by simp; omega
    have hget := tkA_get l j gj
    have hjt : l[j]? = some l[j] := List.getElem?_eq_getElem gj
    have hti := hok.at' j _ hjt
    have hb := htb _ (List.getElem_mem gj)
    obtain ⟨i, hi, his⟩ := (sceneIx_bd x l[j].scene).resolve_left (by have := hti.scene; omega)
    obtain ⟨s1, s2⟩ := scenes_at hx hi his
    have m0 := scMF_find x.scenes 0 0 i hi s1 s2
    rw [Nat.zero_add] at m0
    have hG0 := fun p => g3 i hi p
    have hpn : ∀ i (h : i < x.scenes.length) p, partsN l x.scenes[i].no p (j + 1) = partsN l x.scenes[i].no p j ++ partsT x.scenes[i].no p j l[j] l[j].covers.length := fun i h p => by simp only [partsN, hjt]
    have hsame : ∀ i' (h : i' < x.scenes.length), (l[j].scene == x.scenes[i'].no) = decide (i' = i) := fun i' h => by
      by_cases e : i' = i
      · subst e; simp [s1]
      · have : l[j].scene ≠ x.scenes[i'].no := fun e2 => e (hx.inj h hi (by rw [← e2, s1]))
        simp [this, e]
    have hcl := hb.len
    generalize htt : l[j] = t at *
    clear htt
    have g2' := g2.more (y := .arr 9 [tkA t]) (low_all (tk_frz [t]))
    refine goB (N := 65) Tryz.ntmps40 300 ?_
    simp only [go_sem, dj, hget, gd_end, st_end, List.length_map]
    repeat refine And.intro (by first | omega | (simp; done) | (simp; omega) | kernel_rfl) ?_
    refine aloop (ι := Nat × (Nat → List Gq) × List Blk) (fun y => t.covers.length - y.1)
      (fun y => [(39, .int .i64 y.1), (38, .int .i64 t.covers.length), (37, .fz 4 (t.covers.map cvA)), (9, .ptr T.length 1 0 0), (8, .int .i64 j), (31, .int .i64 j), (30, .int .i64 l.length), (29, .fz 9 (l.map tkA)), (6, .sl 1 0 x.scenes.length x.scenes.length), (5, .mp 0)])
      (fun y => y.2.2) (fun y => y.1 ≤ t.covers.length ∧ CovI x.scenes y.2.1 y.2.2 ∧ y.2.2[T.length]? = some (.arr 9 [tkA t]) ∧ (∀ i, i < x.scenes.length → ∀ g ∈ y.2.1 i, g.at' ≠ T.length) ∧ (∀ i, i < x.scenes.length → i + 1 + 1 ≠ T.length) ∧ (∀ i, i < x.scenes.length → ∀ g ∈ y.2.1 i, g.ps.length ≤ 1000 * j + y.1) ∧ ∀ i (h : i < x.scenes.length) p, partsG (y.2.1 i) p = partsN l x.scenes[i].no p j ++ partsT x.scenes[i].no p j t y.1) (0, G, T ++ [.arr 9 [tkA t]]) ⟨by simp, g2', by simp, fun i h g hg => by have := g2.lt h hg; omega, fun i h => by have := g2.big; omega, g4, fun i h p => by simp only [partsT_zero, List.append_nil]; exact g3 i h p⟩ ?_ ?_
    · refine Shift.weakS ?_ rfl
      simp only [wk, go_sem, List.length_map]
    rintro ⟨c, G, T2⟩ ⟨f1, f2, f3, f4, f5, f6, f7⟩ J2 hJ2
    simp only at f1 f2 f3 f4 f5 f6 f7 hJ2 ⊢
    by_cases gc : c < t.covers.length
    · have dc : decide ((c : Int) < (t.covers.length : Int)) = true := by simp; omega
      have hgc := cvA_get t.covers c gc
      have k0 := gd_app f2.h0
      have k1 := gd_app f2.h1
      have k2 := gd_app (f2.maps i hi)
      have k3 := gd_app f3
      have hrg := refs_get x.scenes.length i hi
      have hrl := refs_len x.scenes.length
      simp only [tkA] at k3
      have f2' := f2.more (y := .arr 4 [cvA t.covers[c]]) (low_all (cv_frz [t.covers[c]]))
      have k2b : ∀ y z : Blk, ((T2 ++ [y]) ++ [z]).getD (i + 1 + 1) .dead = .mp (mapE (G i)) := fun y z => gd_app (by rw [List.getElem?_append_left (List.getElem?_eq_some_iff.1 (f2.maps i hi)).1]; exact f2.maps i hi) z
      have hpt := fun i' (h : i' < x.scenes.length) p => partsT_succ x.scenes[i'].no p j t c gc
      have hap : ∀ y : Blk, (T2 ++ [y])[T.length]? = some (.arr 9 [tkA t]) := fun y => by rw [List.getElem?_append_left (List.getElem?_eq_some_iff.1 f3).1]; exact f3
      have hl2 : (T2 ++ [Blk.arr 4 [cvA t.covers[c]]]).length = T2.length + 1 := by simp
      have hil := (List.getElem?_eq_some_iff.1 (f2.maps i hi)).1
      have hTl := (List.getElem?_eq_some_iff.1 f3).1
      have hspec : ∀ gs', (∀ p, partsG gs' p = if p = t.covers[c].para then partsG (G i) p ++ [⟨j, t.covers[c]⟩] else partsG (G i) p) → ∀ i' (h : i' < x.scenes.length) p, partsG (updG G i gs' i') p = partsN l x.scenes[i'].no p j ++ partsT x.scenes[i'].no p j t (c + 1) := by
        intro gs' hgs' i' h p
        rw [hpt i' h p, hsame i' h, ← List.append_assoc, ← f7 i' h p]
        by_cases e : i' = i
        · subst e
          simp only [updG, if_true, hgs', decide_true, Bool.true_and]
          by_cases e2 : p = t.covers[c].para
          · rw [if_pos e2, if_pos (by simp [e2])]
          · rw [if_neg e2, if_neg (by simp [Ne.symm e2]), List.append_nil]
        · simp [updG, e]
      rcases mapE_find t.covers[c].para (G i) 0 with ⟨m1, m2⟩ | ⟨m, g, m1, m2, m3⟩
      · have hP := f2'.push hi t.covers[c].para ⟨j, t.covers[c]⟩ m2
        rw [hl2] at hP
        have hfin := hJ2 (c + 1, _, _) ⟨by simp only; omega, hP, by
          simp only
          rw [List.getElem?_set_ne (f5 i hi), List.getElem?_append_left (by rw [hl2]; omega)]
          exact hap _, fun i' h' g hg => by
          rcases updG_mem hg with ⟨rfl, hg⟩ | hg
          · rcases List.mem_append.1 hg with hg | hg
            · exact f4 _ h' g hg
            · rw [List.mem_singleton.1 hg]; simp only; omega
          · exact f4 i' h' g hg, f5, fun i' h' g hg => by
          rcases updG_mem hg with ⟨rfl, hg⟩ | hg
          · rcases List.mem_append.1 hg with hg | hg
            · have := f6 _ h' g hg; simp only; omega
            · rw [List.mem_singleton.1 hg]; simp only [List.length_cons, List.length_nil]; omega
          · have := f6 i' h' g hg; simp only; omega, hspec _ fun p => by
          rw [partsG_push _ _ _ _ m2]
          by_cases e : p = t.covers[c].para
          · subst e; rw [if_pos rfl, if_pos rfl, partsG_none m2]; rfl
          · rw [if_neg e, if_neg e]⟩ (by simp only; omega)
        simp only [ppA, cvA] at hfin
        refine goB (N := 65) Tryz.ntmps40 300 ?_
        simp only [go_sem, dc, hgc, k0, k1, k3, m0, hrg, hrl, gd_end, st_end, List.length_map]
        repeat refine And.intro (by first | omega | (simp; done) | (simp; omega) | kernel_rfl | (rw [hrl]; omega)) ?_
        refine adrawA ((T2.length) + 1) [] mixed (by decide) (N := 65) Tryz.ntmps40 (by decide) 100 ?_
        simp only [go_sem, k2, k2b, m1, gd_end, st_end, List.length_append, List.length_map, cka, isApp, appOk]
        repeat refine And.intro (by first | omega | (simp; done) | (simp; omega) | kernel_rfl | exact .inl rfl | exact .inl trivial) ?_
        refine goB (N := 65) Tryz.ntmps40 300 ?_
        simp only [go_sem]
        repeat refine And.intro (by first | omega | (simp; done) | (simp; omega) | kernel_rfl) ?_
        rw [show (c : Int) + 1 = ((c + 1 : Nat) : Int) by omega]
        refine ainv hfin (Shift.weakS ?_ rfl)
        simp only [wk, go_sem]
      · rw [Nat.zero_add] at m1
        have hgm := List.mem_of_getElem? m2
        have k4 := gd_app (f2.blk i hi g hgm)
        have hgr := f2.rng i hi g hgm
        have hgl := f2.lt hi hgm
        have hgn := f6 i hi g hgm
        have k5 : ∀ y b : Blk, ((T2 ++ [y]).set g.at' b).getD (i + 1 + 1) .dead = .mp (mapE (G i)) := fun y b => gd_of (gd_set (by rw [List.getElem?_append_left (List.getElem?_eq_some_iff.1 (f2.maps i hi)).1]; exact f2.maps i hi) (by omega) b)
        have hP := f2'.put hi m2 ⟨j, t.covers[c]⟩
        have hfin := hJ2 (c + 1, _, _) ⟨by simp only; omega, hP, by
          simp only
          rw [List.getElem?_set_ne (f5 i hi), List.getElem?_set_ne (f4 i hi g hgm)]
          exact hap _, fun i' h' g' hg => by
          rcases updG_mem hg with ⟨rfl, hg⟩ | hg
          · rcases List.mem_or_eq_of_mem_set hg with hg | rfl
            · exact f4 _ h' g' hg
            · exact f4 _ h' g hgm
          · exact f4 i' h' g' hg, f5, fun i' h' g' hg => by
          rcases updG_mem hg with ⟨rfl, hg⟩ | hg
          · rcases List.mem_or_eq_of_mem_set hg with hg | rfl
            · have := f6 _ h' g' hg; simp only; omega
            · simp only [List.length_append, List.length_cons, List.length_nil]; omega
          · have := f6 i' h' g' hg; simp only; omega, hspec _ fun p => by
          rw [partsG_put _ _ _ (f2.uniq i hi) m2, m3]
          by_cases e : p = t.covers[c].para
          · rw [if_pos e, if_pos e, e, ← m3, partsG_at (f2.uniq i hi) m2]
          · rw [if_neg e, if_neg e]⟩ (by simp only; omega)
        simp only [ppA, cvA, m3, List.map_append, List.map_cons, List.map_nil] at hfin
        refine goB (N := 65) Tryz.ntmps40 300 ?_
        simp only [go_sem, dc, hgc, k0, k1, k3, m0, hrg, hrl, gd_end, st_end, List.length_map]
        repeat refine And.intro (by first | omega | (simp; done) | (simp; omega) | kernel_rfl | (rw [hrl]; omega)) ?_
        refine adrawA ((g.at')) [] mixed (by decide) (N := 65) Tryz.ntmps40 (by decide) 100 ?_
        simp only [go_sem, k2, k4, k5, m1, gd_end, st_end, List.length_append, List.length_map, cka, isApp, appOk]
        repeat refine And.intro (by first | omega | (simp; done) | (simp; omega) | kernel_rfl | exact .inl rfl | exact .inl trivial) ?_
        refine goB (N := 65) Tryz.ntmps40 300 ?_
        simp only [go_sem]
        repeat refine And.intro (by first | omega | (simp; done) | (simp; omega) | kernel_rfl) ?_
        rw [show (c : Int) + 1 = ((c + 1 : Nat) : Int) by omega]
        refine ainv hfin (Shift.weakS ?_ rfl)
        simp only [wk, go_sem]
    · have dc : decide ((c : Int) < (t.covers.length : Int)) = false := by simp; omega
      have : c = t.covers.length := by omega
      subst this
      have hfin := hJ (j + 1, G, T2) ⟨by simp only; omega, f2, fun i h g hg => by have := f6 i h g hg; simp only; omega, fun i h p => by simp only; rw [hpn i h p]; exact f7 i h p⟩ (by simp only; omega)
      refine goB (N := 65) Tryz.ntmps40 300 ?_
      simp only [go_sem, dc]
      repeat refine And.intro (by first | omega | (simp; done) | (simp; omega) | kernel_rfl) ?_
      rw [show (j : Int) + 1 = ((j + 1 : Nat) : Int) by omega]
      refine ainv hfin (Shift.weakS ?_ rfl)
      simp only [wk, go_sem]
  · have dj : decide ((j : Int) < (l.length : Int)) = false := by simp; omega
    have : j = l.length := by omega
    subst this
    refine goB (N := 65) Tryz.ntmps40 300 ?_
    simp only [go_sem, dj]
    exact aret [4] rfl ⟨G, rfl, g2, g3⟩
end Go.Proofs.YtkfpiadgjbhcpaaGreatDoor
