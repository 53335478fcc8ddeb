/- Blocks on pages: plain law. Own work of this seat. -/
import Derived.Test.YtikbgjhajgjjdaaGreatDoorP38
set_option maxRecDepth 100000
set_option linter.unusedSimpArgs false
set_option linter.unusedVariables false
namespace Go.Proofs.YtikbgjhajgjjdaaGreatDoor
open Go Go.Av Go.RowKit

abbrev Ln := List UInt8
def blanks20 : Ln := [32, 32, 32, 32, 32, 32, 32, 32, 32, 32, 32, 32, 32, 32, 32, 32, 32, 32, 32, 32]
theorem blanks20_eq : Lib.repeatL [32] 20 = blanks20 := by decide +kernel
def moreLn : Ln := indent 20 [40, 77, 79, 82, 69, 41]
def contW : Ln := [32, 40, 67, 79, 78, 84, 39, 68, 41]
def omitW : Ln := [32, 79, 77, 73, 84, 84, 69, 68]
def goesLn (b : Bl) : Ln := indent 20 b.name ++ contW

def breaksL (b : Bl) (fr k : Nat) : Bool :=
  if b.kind == 1 then decide ((k : Int) - fr ≥ 2) && decide ((b.lines.length : Int) - k ≥ 2)
  else if b.kind == 3 then b.kinds.getD (k - 1) 0 == 2 && (decide ((k : Int) - fr - (if fr = 0 then 1 else 0) ≥ 2) && decide ((b.lines.length : Int) - k ≥ 2))
  else false
def grp (b : Bl) : Nat := if b.kind == 3 then 1 else 0
/-- the first break from k on -/
def firstB (b : Bl) : Nat → Nat → Option Nat
  | 0, _ => none
  | n + 1, k => if breaksL b 0 k then some k else firstB b n (k + 1)
def leastL (b : Bl) : Nat :=
  if b.kind == 1 && decide ((b.lines.length : Int) > 3) then 2
  else if b.kind == 3 && decide ((b.lines.length : Int) > 4) then
    match firstB b (b.lines.length - 1) 1 with
    | some k => k + 1
    | none => b.lines.length
  else b.lines.length
/-- the last break down tz fr -/
def lastB (b : Bl) (fr : Nat) : Nat → Option Nat
  | 0 => none
  | j + 1 => if fr < j + 1 then (if breaksL b fr (j + 1) then some (j + 1) else lastB b fr j) else none
def stopL (b : Bl) (fr room : Nat) : Nat :=
  if b.lines.length - fr ≤ room then b.lines.length
  else match lastB b fr (min (fr + room - grp b) (b.lines.length - 1)) with
    | some j => j
    | none => max (min (fr + room - grp b) (b.lines.length - 1)) (fr + 1)
def headN (bs : List Bl) (i : Nat) (b : Bl) : Nat :=
  leastL b + (if b.kind == 0 then (match bs[i + 1]? with
    | some d => if d.kind == 0 then 0 else 1 + leastL d
    | none => 0) else 0)

structure LS where
  pages : List (List Ln)
  firsts : List Int
  starts : List Int
  page : List Ln
  first : Int
def flushS (s : LS) : LS := ⟨s.pages ++ [s.page], s.firsts ++ [s.first], s.starts, [], -1⟩
def addS (s : LS) (l : List Ln) : LS := { s with page := s.page ++ l }
/-- one more page is begun within a block -/
def breakS (b : Bl) (s : LS) : LS := addS (flushS (addS s (if b.kind == 3 then [moreLn] else []))) (if b.kind == 3 then [goesLn b] else [])
def partL' (b : Bl) (fr tz : Nat) : List Ln := (b.lines.take tz).drop fr
def placeB (b : Bl) : Nat → Nat → LS → LS
  | 0, _, s => s
  | f + 1, fr, s =>
    if stopL b fr (54 - s.page.length) = b.lines.length then addS s (partL' b fr (stopL b fr (54 - s.page.length)))
    else placeB b f (stopL b fr (54 - s.page.length)) (breakS b (addS s (partL' b fr (stopL b fr (54 - s.page.length)))))
def turnS (bs : List Bl) (i : Nat) (b : Bl) (s : LS) : LS := if s.page ≠ [] ∧ s.page.length + gapN b + headN bs i b > 54 then flushS s else s
def firstS (i : Nat) (s : LS) : LS := if s.page = [] then { s with first := i } else s
def gapS (b : Bl) (s : LS) : LS := { s with page := s.page ++ List.replicate (gapN b * min s.page.length 1) [], starts := s.starts ++ [(s.pages.length : Int)] }
def openS (bs : List Bl) (i : Nat) (b : Bl) (s : LS) : LS := gapS b (firstS i (turnS bs i b s))
def layTo (bs : List Bl) : Nat → LS
  | 0 => ⟨[], [], [], [], -1⟩
  | i + 1 => match bs[i]? with
    | some b => placeB b (b.lines.length + 1) 0 (openS bs i b (layTo bs i))
    | none => layTo bs i
def layL (bs : List Bl) : LS := if (layTo bs bs.length).page ≠ [] then flushS (layTo bs bs.length) else layTo bs bs.length

/-- what pages say -/
def addedL (l : Ln) (i n : Nat) : Bool := (l == moreLn && i + 1 == n) || (i == 0 && (Lib.hasSuffix l contW && Lib.hasPrefix l blanks20))
def keepL (l : Ln) : Bool := l != [] && !Lib.hasSuffix l omitW
def saidGo (n : Nat) : Nat → List Ln → List Ln
  | _, [] => []
  | i, l :: r => if l != [] && (!addedL l i n && !Lib.hasSuffix l omitW) then l :: saidGo n (i + 1) r else saidGo n (i + 1) r
def saidP (p : List Ln) : List Ln := saidGo p.length 0 p
structure OwnLn (l : Ln) : Prop where
  more : l ≠ moreLn
  cont : (Lib.hasSuffix l contW && Lib.hasPrefix l blanks20) = false

theorem said_own (n : Nat) (post : List Ln) : ∀ (body : List Ln) (i : Nat), (∀ l ∈ body, OwnLn l) → saidGo n i (body ++ post) = body.filter keepL ++ saidGo n (i + body.length) post
  | [], i, _ => rfl
  | l :: r, i, h => by
    have hl := h l (by simp)
    have h1 : (l == moreLn) = false := by simpa using hl.more
    have ih := said_own n post r (i + 1) (fun x hx => h x (by simp [hx]))
    have ha : addedL l i n = false := by simp [addedL, h1, hl.cont]
    simp only [List.cons_append, saidGo, ha, ih, Bool.not_false, Bool.true_and, List.filter_cons, keepL, List.length_cons]
    rw [show i + (r.length + 1) = i + 1 + r.length by omega]
    by_cases hk : (l != [] && !Lib.hasSuffix l omitW) = true
    · simp only [hk, if_true, List.cons_append]
    · simp only [hk, if_false]
      rfl
theorem said_more (i : Nat) : saidGo (i + 1) i [moreLn] = [] := by simp [saidGo, addedL]
theorem goes_suf (b : Bl) : Lib.hasSuffix (goesLn b) contW = true := by
  simp [Lib.hasSuffix, goesLn, List.isSuffixOf_iff_suffix]
theorem goes_pre (b : Bl) : Lib.hasPrefix (goesLn b) blanks20 = true := by
  simp only [Lib.hasPrefix, goesLn, indent, blanks20_eq, List.isPrefixOf_iff_prefix, List.append_assoc]
  exact List.prefix_append _ _
theorem said_goes (n : Nat) (b : Bl) (r : List Ln) : saidGo n 0 (goesLn b :: r) = saidGo n 1 r := by
  simp [saidGo, addedL, goes_suf, goes_pre]
theorem said_page (pre body post : List Ln) (h1 : pre = [] ∨ ∃ b, pre = [goesLn b]) (h2 : ∀ l ∈ body, OwnLn l) (h3 : post = [] ∨ post = [moreLn]) : saidP (pre ++ body ++ post) = body.filter keepL := by
  unfold saidP
  have key : ∀ i, i + body.length + post.length = (pre ++ body ++ post).length → saidGo (pre ++ body ++ post).length i (body ++ post) = body.filter keepL := fun i hi => by
    rw [said_own _ _ _ _ h2]
    rcases h3 with rfl | rfl
    · simp [saidGo]
    · rw [← hi]
      show _ ++ saidGo (i + body.length + 1) (i + body.length) [moreLn] = _
      rw [said_more]; simp
  rcases h1 with rfl | ⟨b, rfl⟩
  · exact key 0 (by simp)
  · rw [List.append_assoc]
    show saidGo _ 0 (goesLn b :: (body ++ post)) = _
    rw [said_goes]
    have := key 1 (by simp; omega)
    simpa only [List.append_assoc, List.cons_append, List.nil_append] using this

theorem firstB_ge (b : Bl) : ∀ (n k j : Nat), firstB b n k = some j → k ≤ j
  | 0, _, _, h => by cases h
  | n + 1, k, j, h => by
    simp only [firstB] at h
    split at h
    · simp at h; omega
    · have := firstB_ge b n (k + 1) j h; omega
theorem lastB_le (b : Bl) (fr : Nat) : ∀ (n j : Nat), lastB b fr n = some j → fr < j ∧ j ≤ n
  | 0, _, h => by cases h
  | n + 1, j, h => by
    simp only [lastB] at h
    split at h
    · split at h
      · simp at h; omega
      · have := lastB_le b fr n j h; omega
    · cases h
/-- there is room for a part of a block -/
def RoomOk (b : Bl) (fr room : Nat) : Prop := b.lines.length - fr ≤ room ∨ 1 + grp b ≤ room
theorem least_room {b : Bl} {room : Nat} (h : leastL b ≤ room) : RoomOk b 0 room := by
  unfold leastL at h
  unfold RoomOk grp
  split at h
  · rename_i hk
    simp only [Bool.and_eq_true, beq_iff_eq] at hk
    simp [hk.1]; omega
  · split at h
    · split at h
      · rename_i k hk
        have := firstB_ge b _ _ _ hk
        split <;> omega
      · omega
    · omega
theorem stop_spec {b : Bl} {fr room : Nat} (h : RoomOk b fr room) (hf : fr ≤ b.lines.length) :
    (stopL b fr room = b.lines.length ∧ b.lines.length - fr ≤ room) ∨ (fr < stopL b fr room ∧ stopL b fr room < b.lines.length ∧ stopL b fr room + grp b ≤ fr + room) := by
  unfold stopL
  by_cases hr : b.lines.length - fr ≤ room
  · rw [if_pos hr]; exact .inl ⟨rfl, hr⟩
  · rw [if_neg hr]
    right
    have h2 : 1 + grp b ≤ room := h.resolve_left hr
    split
    · rename_i j hj
      have := lastB_le b fr _ _ hj
      omega
    · omega

structure PInv (s : LS) (w : List Ln) : Prop where
  pages : ∀ p ∈ s.pages, 1 ≤ p.length ∧ p.length ≤ 54
  len : s.page.length ≤ 54
  ex : ∃ pre body, s.page = pre ++ body ∧ (pre = [] ∨ ∃ b, pre = [goesLn b]) ∧ (∀ l ∈ body, OwnLn l) ∧ s.pages.flatMap saidP ++ body.filter keepL = w.filter keepL

theorem flush_inv {s : LS} {w post : List Ln} (h : PInv s w) (hp : post = [] ∨ post = [moreLn]) (h0 : 1 ≤ (s.page ++ post).length) (h1 : (s.page ++ post).length ≤ 54) : PInv (flushS (addS s post)) w := by
  obtain ⟨pre, body, e1, e2, e3, e4⟩ := h.ex
  refine ⟨fun p hq => ?_, by simp [flushS], [], [], rfl, .inl rfl, by simp, ?_⟩
  · simp only [flushS, addS, List.mem_append, List.mem_singleton] at hq
    rcases hq with hq | rfl
    · exact h.pages p hq
    · exact ⟨h0, h1⟩
  · simp only [flushS, addS, List.flatMap_append, List.flatMap_cons, List.flatMap_nil, List.append_nil, List.filter_nil]
    rw [e1, said_page pre body post e2 e3 hp, e4]
theorem add_inv {s : LS} {w l : List Ln} (h : PInv s w) (ho : ∀ x ∈ l, OwnLn x) (hl : (s.page ++ l).length ≤ 54) : PInv (addS s l) (w ++ l) := by
  obtain ⟨pre, body, e1, e2, e3, e4⟩ := h.ex
  refine ⟨h.pages, hl, pre, body ++ l, by simp [addS, e1], e2, fun x hx => ?_, ?_⟩
  · rcases List.mem_append.1 hx with hx | hx
    · exact e3 x hx
    · exact ho x hx
  · simp only [addS, List.filter_append, ← e4, List.append_assoc]
theorem goes_inv {s : LS} {w : List Ln} (h : PInv s w) (h0 : s.page = []) (b : Bl) : PInv (addS s [goesLn b]) w := by
  obtain ⟨pre, body, e1, e2, e3, e4⟩ := h.ex
  rw [h0] at e1
  have hb : pre = [] ∧ body = [] := by simpa using e1.symm
  refine ⟨h.pages, by simp [addS, h0], [goesLn b], [], by simp [addS, h0], .inr ⟨b, rfl⟩, by simp, ?_⟩
  rw [← e4, hb.2]; rfl
theorem partLn_len (b : Bl) {fr tz : Nat} (h : tz ≤ b.lines.length) : (partL' b fr tz).length = tz - fr := by
  simp [partL', Nat.min_eq_left h]
theorem break_page (b : Bl) (s : LS) : (breakS b s).page = if b.kind == 3 then [goesLn b] else [] := by
  simp [breakS, addS, flushS]
theorem break_inv {b : Bl} {s : LS} {w : List Ln} (h : PInv s w) (h0 : 1 ≤ s.page.length) (h1 : s.page.length + grp b ≤ 54) : PInv (breakS b s) w := by
  unfold breakS grp at *
  by_cases hk : (b.kind == 3) = true
  · simp only [hk, if_true] at h1 ⊢
    exact goes_inv (flush_inv h (.inr rfl) (by simp) (by simpa using h1)) rfl b
  · have hk : (b.kind == 3) = false := by simpa using hk
    simp only [hk, if_false, Bool.false_eq_true, Nat.add_zero] at h1 ⊢
    have h2 := flush_inv h (post := []) (.inl rfl) (by simpa using h0) (by simpa using h1)
    have : ∀ s : LS, addS s [] = s := fun s => by simp [addS]
    rw [this] at h2 ⊢
    rwa [this]
theorem place_inv {b : Bl} (ho : ∀ x ∈ b.lines, OwnLn x) : ∀ (f fr : Nat) (s : LS) (w : List Ln), PInv s w → b.lines.length - fr < f → fr ≤ b.lines.length → RoomOk b fr (54 - s.page.length) → PInv (placeB b f fr s) (w ++ b.lines.drop fr)
  | 0, fr, s, w, _, h, _, _ => by omega
  | f + 1, fr, s, w, h, hf, hfr, hr => by
    have hl := h.len
    have ho' : ∀ tz, ∀ x ∈ partL' b fr tz, OwnLn x := fun tz x hx => ho x (List.mem_of_mem_take (List.mem_of_mem_drop hx))
    unfold placeB
    rcases stop_spec hr hfr with ⟨h1, h2⟩ | ⟨h1, h2, h3⟩
    · rw [if_pos h1, h1]
      have hpl := partLn_len b (fr := fr) (Nat.le_refl b.lines.length)
      have : partL' b fr b.lines.length = b.lines.drop fr := by simp [partL']
      have k := add_inv h (ho' b.lines.length) (by rw [List.length_append, hpl]; omega)
      rwa [this] at k ⊢
    · rw [if_neg (by omega)]
      generalize hto : stopL b fr (54 - s.page.length) = tz at h1 h2 h3 ⊢
      have hpl := partLn_len b (fr := fr) (Nat.le_of_lt h2)
      have k1 := add_inv h (ho' tz) (by rw [List.length_append, hpl]; unfold grp at h3; split at h3 <;> omega)
      have k2 := break_inv (b := b) k1 (by simp only [addS, List.length_append, hpl]; omega) (by simp only [addS, List.length_append, hpl]; omega)
      have k3 := place_inv ho f tz _ _ k2 (by omega) (by omega) (by
        right
        rw [break_page]
        unfold grp
        split <;> simp)
      have : w ++ partL' b fr tz ++ b.lines.drop tz = w ++ b.lines.drop fr := by
        rw [List.append_assoc]
        congr 1
        have e : b.lines.drop fr = ((b.lines.take tz) ++ b.lines.drop tz).drop fr := by rw [List.take_append_drop]
        rw [e, List.drop_append, partL']
        have : fr - (List.take tz b.lines).length = 0 := by simp; omega
        rw [this]; rfl
      rwa [this] at k3
theorem own_nil : OwnLn [] := ⟨by decide, by decide⟩
theorem open_inv {bs : List Bl} {i : Nat} {b : Bl} {s : LS} {w : List Ln} (h : PInv s w) : ∃ g : List Ln, (∀ x ∈ g, x = []) ∧ PInv (openS bs i b s) (w ++ g) ∧ RoomOk b 0 (54 - (openS bs i b s).page.length) := by
  have hh : leastL b ≤ headN bs i b := by unfold headN; omega
  unfold openS
  generalize hs1 : turnS bs i b s = s1
  have h1 : PInv s1 w ∧ (s1.page = [] ∨ s1.page.length + gapN b + headN bs i b ≤ 54) := by
    subst hs1
    unfold turnS
    have hn : ∀ s : LS, addS s [] = s := fun s => by simp [addS]
    split
    · rename_i hc
      have : 1 ≤ s.page.length := by
        cases hq : s.page with
        | nil => exact (hc.1 hq).elim
        | cons a r => simp
      have k := flush_inv h (post := []) (.inl rfl) (by simpa using this) (by simpa using h.len)
      rw [hn] at k
      exact ⟨k, .inl rfl⟩
    · rename_i hc
      refine ⟨h, ?_⟩
      by_cases h0 : s.page = []
      · exact .inl h0
      · right
        have : ¬ s.page.length + gapN b + headN bs i b > 54 := fun e => hc ⟨h0, e⟩
        omega
  obtain ⟨h1, h2⟩ := h1
  generalize hs2 : firstS i s1 = s2
  have hp : s2.page = s1.page ∧ s2.pages = s1.pages := by subst hs2; unfold firstS; split <;> exact ⟨rfl, rfl⟩
  have k2 : PInv s2 w := ⟨by rw [hp.2]; exact h1.pages, by rw [hp.1]; exact h1.len, by rw [hp.1, hp.2]; exact h1.ex⟩
  refine ⟨List.replicate (gapN b * min s2.page.length 1) [], fun x hx => List.eq_of_mem_replicate hx, ?_, ?_⟩
  · have hlen : (s2.page ++ List.replicate (gapN b * min s2.page.length 1) ([] : Ln)).length ≤ 54 := by
      rw [List.length_append, List.length_replicate]
      rcases h2 with h2 | h2
      · rw [hp.1, h2]; simp
      · rw [hp.1]
        have : gapN b * min s1.page.length 1 ≤ gapN b := by
          have : min s1.page.length 1 ≤ 1 := Nat.min_le_right _ _
          calc gapN b * min s1.page.length 1 ≤ gapN b * 1 := Nat.mul_le_mul_left _ this
            _ = gapN b := Nat.mul_one _
        omega
    have k3 := add_inv k2 (l := List.replicate (gapN b * min s2.page.length 1) []) (fun x hx => by rw [List.eq_of_mem_replicate hx]; exact own_nil) hlen
    exact ⟨k3.pages, k3.len, k3.ex⟩
  · simp only [gapS, List.length_append, List.length_replicate]
    rcases h2 with h2 | h2
    · right
      rw [hp.1, h2]
      unfold grp
      split <;> simp
    · by_cases h0 : s1.page = []
      · right
        rw [hp.1, h0]
        unfold grp
        split <;> simp
      · have : min s2.page.length 1 = 1 := by
          have : 1 ≤ s1.page.length := by
            cases hq : s1.page with
            | nil => exact (h0 hq).elim
            | cons a r => simp
          rw [hp.1]; omega
        rw [this, hp.1, Nat.mul_one]
        exact least_room (by omega)

def bodyTo (bs : List Bl) (i : Nat) : List Ln := (bs.take i).flatMap fun b => b.lines
theorem lay_inv {bs : List Bl} (ho : ∀ b ∈ bs, ∀ x ∈ b.lines, OwnLn x) : ∀ i, i ≤ bs.length → ∃ w, PInv (layTo bs i) w ∧ w.filter keepL = (bodyTo bs i).filter keepL
  | 0, _ => ⟨[], ⟨by simp [layTo], by simp [layTo], [], [], rfl, .inl rfl, by simp, rfl⟩, rfl⟩
  | i + 1, h => by
    obtain ⟨w, h1, h2⟩ := lay_inv ho i (by omega)
    have hi : i < bs.length := by omega
    simp only [layTo, List.getElem?_eq_getElem hi]
    obtain ⟨g, g1, g2, g3⟩ := open_inv (bs := bs) (i := i) (b := bs[i]) h1
    have k := place_inv (ho _ (List.getElem_mem hi)) (bs[i].lines.length + 1) 0 _ _ g2 (by omega) (by omega) g3
    refine ⟨_, k, ?_⟩
    have hg : g.filter keepL = [] := by
      rw [List.filter_eq_nil_iff]
      intro x hx
      rw [g1 x hx]; decide
    simp only [List.filter_append, hg, List.append_nil, List.drop_zero, h2, bodyTo, List.take_succ_eq_append_getElem hi, List.flatMap_append, List.flatMap_cons, List.flatMap_nil]
theorem lay_pages {bs : List Bl} (ho : ∀ b ∈ bs, ∀ x ∈ b.lines, OwnLn x) :
    (∀ p ∈ (layL bs).pages, 1 ≤ p.length ∧ p.length ≤ 54) ∧ (layL bs).pages.flatMap saidP = (bs.flatMap fun b => b.lines).filter keepL := by
  obtain ⟨w, h1, h2⟩ := lay_inv ho bs.length (Nat.le_refl _)
  have hb : bodyTo bs bs.length = bs.flatMap fun b => b.lines := by simp [bodyTo]
  rw [hb] at h2
  unfold layL
  by_cases h0 : (layTo bs bs.length).page ≠ []
  · rw [if_pos h0]
    have hn : ∀ s : LS, addS s [] = s := fun s => by simp [addS]
    have : 1 ≤ (layTo bs bs.length).page.length := by
      cases hq : (layTo bs bs.length).page with
      | nil => exact (h0 hq).elim
      | cons a r => simp
    have k := flush_inv h1 (post := []) (.inl rfl) (by simpa using this) (by simpa using h1.len)
    rw [hn] at k
    obtain ⟨pre, body, e1, e2, e3, e4⟩ := k.ex
    have hbo : pre = [] ∧ body = [] := by simpa [flushS] using e1.symm
    rw [hbo.2] at e4
    exact ⟨k.pages, by rw [← h2, ← e4]; simp⟩
  · rw [if_neg h0]
    have h0' : (layTo bs bs.length).page = [] := by simpa using h0
    obtain ⟨pre, body, e1, e2, e3, e4⟩ := h1.ex
    rw [h0'] at e1
    have hbo : pre = [] ∧ body = [] := by simpa using e1.symm
    rw [hbo.2] at e4
    exact ⟨h1.pages, by rw [← h2, ← e4]; simp⟩
end Go.Proofs.YtikbgjhajgjjdaaGreatDoor
