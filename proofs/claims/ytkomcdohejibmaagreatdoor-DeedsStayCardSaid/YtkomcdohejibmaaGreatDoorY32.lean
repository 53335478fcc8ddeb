/- slices.SortFunc at structs, told of plain data, out of the library's contract. Own work of this seat. -/
import Derived.Test.YtkomcdohejibmaaGreatDoorY21
import Derived.Test.YtkomcdohejibmaaGreatDoorY22
import Derived.Shelf.SlSortCmp.NoneTotal
import Derived.Test.YtkomcdohejibmaaGreatDoorY30
import Derived.Test.YtkomcdohejibmaaGreatDoorY31
set_option linter.unusedSimpArgs false
set_option linter.unusedVariables false
set_option linter.unusedSectionVars false
namespace Go.Av
open Go Go.RowKit Go.Shelf Go.Sort Go.Proofs

section
variable {h : Mem} {ρ : Own} {s : List Blk} {w : World} {β : Type} {L : Value → AV → Prop}

theorem RL.split {fl : Bool} : ∀ {a b : List AV} {vs : List Value}, RL h L fl vs (a ++ b) → ∃ v1 v2, vs = v1 ++ v2 ∧ RL h L fl v1 a ∧ RL h L fl v2 b
  | [], b, vs, r => ⟨[], vs, rfl, .nil, r⟩
  | x :: a, b, _, r => by
    cases r with
    | cons r1 r2 =>
      obtain ⟨v1, v2, rfl, h1, h2⟩ := r2.split
      exact ⟨_ :: v1, v2, rfl, .cons r1 h1, h2⟩

/-- an element, with its cells -/
structure SCell (h : Mem) (L : Value → AV → Prop) (eA : β → AV) where
  el : β
  cells : List Value
  one : ∀ v ∈ cells, v.oneCell' = true
  rl : RL h L false cells (cellsOf (eA el))

theorem cells_exist {eA : β → AV} : ∀ (l : List β) (vs : List Value), RL h L false vs (flat (l.map eA)) → (∀ v ∈ vs, v.oneCell' = true) → ∃ d : List (SCell h L eA), d.map SCell.el = l ∧ (d.map SCell.cells).flatten = vs
  | [], vs, r, _ => by cases r; exact ⟨[], rfl, rfl⟩
  | x :: l, vs, r, h1 => by
    simp only [List.map_cons, flat] at r
    obtain ⟨v1, v2, rfl, r1, r2⟩ := r.split
    obtain ⟨d, e1, e2⟩ := cells_exist l v2 r2 (fun v hv => h1 v (List.mem_append_right _ hv))
    exact ⟨⟨x, v1, fun v hv => h1 v (List.mem_append_left _ hv), r1⟩ :: d, by simp [e1], by simp [e2]⟩
theorem cells_rl {eA : β → AV} : ∀ (d : List (SCell h L eA)), RL h L false (d.map SCell.cells).flatten (flat ((d.map SCell.el).map eA))
  | [] => .nil
  | c :: d => by
    simp only [List.map_cons, List.flatten_cons, flat]
    exact c.rl.append (cells_rl d)
theorem cells_one {eA : β → AV} (d : List (SCell h L eA)) : ∀ v ∈ (d.map SCell.cells).flatten, v.oneCell' = true := by
  intro v hv
  obtain ⟨l, hl, hv⟩ := List.mem_flatten.1 hv
  obtain ⟨c, _, rfl⟩ := List.mem_map.1 hl
  exact c.one v hv

theorem flatten_get {γ : Type} {k : Nat} : ∀ (L : List (List γ)), (∀ x ∈ L, x.length = k) → ∀ (i j : Nat) (hi : i < L.length), j < k → L.flatten[i * k + j]? = L[i][j]?
  | [], _, i, j, hi, _ => by simp at hi
  | x :: L, h, 0, j, _, hj => by
    have := h x (by simp)
    simp only [Nat.zero_mul, Nat.zero_add, List.flatten_cons, List.getElem_cons_zero]
    rw [List.getElem?_append_left (by omega)]
  | x :: L, h, i + 1, j, hi, hj => by
    have hx := h x (by simp)
    simp only [List.flatten_cons, List.getElem_cons_succ]
    rw [List.getElem?_append_right (by rw [Nat.succ_mul]; omega), show (i + 1) * k + j - x.length = i * k + j by rw [Nat.succ_mul]; omega]
    exact flatten_get L (fun y hy => h y (by simp [hy])) i j (by simpa using hi) hj
theorem flatten_len {γ : Type} {k : Nat} : ∀ (L : List (List γ)), (∀ x ∈ L, x.length = k) → L.flatten.length = L.length * k
  | [], _ => by simp
  | x :: L, h => by
    simp only [List.flatten_cons, List.length_append, List.length_cons, Nat.succ_mul]
    rw [h x (by simp), flatten_len L (fun y hy => h y (by simp [hy]))]
    omega

theorem flatK_list {α : Type} [Inhabited α] (enc : α → List Value) (k : Nat) (hk : ∀ x, (enc x).length = k) (d : Array α) : (flatK enc k d).toList = (d.toList.map enc).flatten := by
  have hl : ∀ x ∈ d.toList.map enc, x.length = k := fun x hx => by
    obtain ⟨y, _, rfl⟩ := List.mem_map.1 hx
    exact hk y
  have hs : (flatK enc k d).size = d.size * k := by simp
  apply List.ext_getElem?
  intro t
  by_cases ht : t < d.size * k
  · have k0 : 0 < k := by
      rcases Nat.eq_zero_or_pos k with hh | hh
      · subst hh; simp at ht
      · exact hh
    have hq : t / k < d.size := Nat.div_lt_of_lt_mul (by rw [Nat.mul_comm]; exact ht)
    have hr : t % k < k := Nat.mod_lt _ k0
    have e : t = t / k * k + t % k := by rw [Nat.mul_comm]; exact (Nat.div_add_mod t k).symm
    have h1 := get_flatK enc k d t ht
    have h2 := flatten_get _ hl (t / k) (t % k) (by simpa using hq) hr
    rw [← e] at h2
    rw [h2, Array.getElem?_toList, Array.getElem?_eq_getElem (by rw [hs]; exact ht)]
    rw [getElem!_pos _ t (by rw [hs]; exact ht)] at h1
    rw [h1, getElem!_pos d _ hq]
    simp only [List.getElem_map, Array.getElem_toList]
    rw [List.getElem?_eq_getElem (by rw [hk]; exact hr), getElem!_pos _ _ (by rw [hk]; exact hr)]
  · rw [List.getElem?_eq_none (by simp; omega), List.getElem?_eq_none (by rw [flatten_len _ hl]; simp; omega)]
end

theorem same_grow {w w' : World} (hs : @Same trUp w w') : ∃ q os', w' = grow (w.drewN q) os' := by
  refine ⟨w'.drawn - w.drawn, w'.heap.extract w.heap.size w'.heap.size, ?_⟩
  have h1 := @Same.os trUp _ _ hs
  have h2 := @Same.tape trUp _ _ hs
  have h3 := (@Same.output trUp _ _ hs).1
  have h4 : w.drawn ≤ w'.drawn := (@Same.output trUp _ _ hs).2
  have h5 := @Same.size trUp _ _ hs
  have h6 := @Same.block trUp _ _ hs
  obtain ⟨heap', tape', drawn', os', output'⟩ := w'
  obtain ⟨heap, tape, drawn, os, output⟩ := w
  simp only at h1 h2 h3 h4 h5 h6
  subst h1 h2 h3
  simp only [grow, World.drewN, World.mk.injEq, true_and, and_true]
  refine ⟨?_, by omega⟩
  apply Array.ext'
  apply List.ext_getElem?
  intro k
  rw [Array.toList_append]
  by_cases hk : k < heap.size
  · rw [List.getElem?_append_left (by simpa using hk)]
    have := h6 k hk
    rw [Array.getElem?_toList, Array.getElem?_toList, this]
  · rw [List.getElem?_append_right (by simp; omega)]
    simp only [Array.length_toList, Array.toList_extract]
    rw [List.getElem?_take, List.getElem?_drop]
    rw [show heap.size + (k - heap.size) = k by omega]
    by_cases hk2 : k < heap'.size
    · rw [if_pos (by omega)]
    · rw [if_neg (by omega), List.getElem?_eq_none (by simp; omega)]

section
variable {P : Program} {ρr : Ren} {β : Type}
/-- slices.SortFunc, at a slice of a block of one's own -/
theorem sort_ct (L : SlLaysF0.n6 P ρr) {k : Nat} (aE : ∀ w, (isAgg (ρr.t 24)).run P w = .ok true w) (zE : ∀ w, (Go.sizeOf (ρr.t 24)).run P w = .ok k w) (hbf : hasBody P (ρr.f 6) = true) (eA : β → AV) (hk0 : 0 < k) (hk : ∀ x, (cellsOf (eA x)).length = k)
    (cf : β → β → Int) (hO : SWO (ltOf cf)) {g : FuncId} (hg : hasBody P g = true)
    (hcmp : ∀ (h : Mem) (ρ : Own) (s : List Blk) (x y : β) (vs us : List Value), RL h (Lf ρ s) false vs (cellsOf (eA x)) → RL h (Lf ρ s) false us (cellsOf (eA y)) → (∀ v ∈ vs, v.oneCell' = true) → (∀ v ∈ us, v.oneCell' = true) → ∀ W, Calls P g #[.agg vs.toArray, .agg us.toArray] W fun e w' => e = .returned (.int .i64 (cf x y)) ∧ @Same trUp W w')
    {s : List Blk} {bid : Nat} {l : List β} (hs : s[bid]? = some (.arr k (l.map eA))) (hl : l.length < 4611686018427387904) :
    Ct P (ρr.f 6) [.sl bid 0 l.length l.length, .fn (.func g) []] s (fun r s' => r = .tup [] ∧ ∃ l' : List β, s' = s.set bid (.arr k (l'.map eA)) ∧ l'.Perm l ∧ l'.Pairwise (fun x y => ¬ cf y x < 0)) := by
  refine ⟨hbf, fun h ρ w vs m r => ?_⟩
  have hid := (List.getElem?_eq_some_iff.1 hs).1
  cases r with
  | @cons _ v0 _ _ _ r0 r =>
    cases r with
    | @cons _ v1 _ _ _ r1 r =>
      cases r
      obtain ⟨cvs, hv1, rc⟩ := inv_fn r1
      cases rc
      subst hv1
      have hL := (inv_sl r0).2
      simp only [LfC, hs] at hL
      have none_ok : l = [] → ∀ (p : Option Addr) (cap : Nat), v0 = .slice p 0 cap → Calls P (ρr.f 6) #[v0, .func (.func g) #[] #[]] w fun en w' =>
          ∃ v r s_1 h' ρ', en = .returned v ∧ (r = .tup [] ∧ ∃ l' : List β, s_1 = s.set bid (.arr k (l'.map eA)) ∧ l'.Perm l ∧ l'.Pairwise (fun x y => ¬ cf y x < 0)) ∧ Mine h' ρ' s_1 w' ∧ Later h ρ s w h' ρ' s_1 w' ∧ RV h' (Lf ρ' s_1) false v r := by
        intro h0 p cap e0
        subst h0 e0
        refine (AnyF.slices_SortFunc_none L p cap _ w).mono ?_
        rintro e w' ⟨rfl, rfl⟩
        exact ⟨_, .tup [], s, h, ρ, rfl, ⟨rfl, [], (set_same hs).symm, .nil, .nil⟩, m, .refl .., .tup [] [] .nil⟩
      rcases hL.2 (by simp) with ⟨h1, h2, a, rfl⟩ | ⟨g0, tot, h1, rfl, h3⟩
      · exact none_ok (List.eq_nil_of_length_eq_zero h1) (at0 a) 0 rfl
      · by_cases hne : l = []
        · subst hne
          exact none_ok rfl _ _ rfl
        · have hpos : 0 < l.length := List.length_pos_iff.2 hne
          rcases m.own bid _ hs with ⟨hn, _⟩ | ⟨g', tot', cur, tt, i3, i4, i5, i6, i7, i8, i9, i10, i11⟩
          · exact absurd hn (by simpa using hne)
          rw [h1] at i3
          simp only [Option.some.injEq, Prod.mk.injEq] at i3
          obtain ⟨rfl, rfl⟩ := i3
          simp only [List.length_map] at i6 i11
          obtain ⟨d, hd1, hd2⟩ := cells_exist (h := h) (L := Lf ρ s) (eA := eA) l _ i11 (fun v hv => i10 v (List.mem_of_mem_take hv))
          have hdl : d.length = l.length := by rw [← hd1, List.length_map]
          have hdk : ∀ c : SCell h (Lf ρ s) eA, c.cells.length = k := fun c => by rw [c.rl.length, hk]
          haveI : Inhabited (SCell h (Lf ρ s) eA) := ⟨d[0]'(by omega)⟩
          have hcl : cur.toList.length = tot * k := by simp [i5]
          have hle : l.length * k ≤ tot * k := Nat.mul_le_mul_right _ i6
          have hfl : (flatK SCell.cells k d.toArray).toList = cur.toList.take (l.length * k) := by rw [flatK_list _ k hdk, ← hd2]
          have hfs : (flatK SCell.cells k d.toArray).size = l.length * k := by simp [hdl]
          have hH : HoldsK SCell.cells k w g0 0 d.toArray := by
            intro j hj
            rw [hfs] at hj
            have hjc : j < cur.size := by rw [i5]; omega
            refine ⟨?_, by rw [Nat.zero_add]; exact i4.fz hjc⟩
            rw [Nat.zero_add, i4.cell, getElem!_pos _ j (by rw [hfs]; exact hj)]
            have : (flatK SCell.cells k d.toArray).toList[j]? = cur.toList[j]? := by rw [hfl, List.getElem?_take, if_pos hj]
            simp only [Array.getElem?_toList] at this
            rw [← this, Array.getElem?_eq_getElem (by rw [hfs]; exact hj)]
            rfl
          have hC : CmpLays P g #[] SCell.cells k (fun x y : SCell h (Lf ρ s) eA => cf x.el y.el) g0 0 d.toArray.size w := by
            intro mm os dk _ x y
            have := hcmp h ρ s x.el y.el x.cells y.cells x.rl y.rl x.one y.one (sortWorldK SCell.cells k w g0 0 mm dk os)
            refine Calls.mono this ?_
            rintro e w' ⟨rfl, hs⟩
            exact ⟨rfl, same_grow hs⟩
          have hO' : SWO (ltOf (fun x y : SCell h (Lf ρ s) eA => cf x.el y.el)) := ⟨fun x => hO.irrefl x.el, fun x y z => hO.trans x.el y.el z.el, fun x y z => hO.ntrans x.el y.el z.el⟩
          have hlt : g0 < w.heap.size := i4.lt
          have key := AnyQ.slices_SortFunc L k aE zE SCell.cells hdk (fun x v hv => x.one v hv) (fun x y : SCell h (Lf ρ s) eA => cf x.el y.el) hO' g #[] g0 0 (tot - 0) d.toArray w (fun a w => call_enters hg a w) hC hH hlt (by simp; omega)
          have e0 : d.toArray.size = l.length := by simp [hdl]
          rw [e0] at key
          simp only [Nat.zero_mul]
          refine Calls.mono key ?_
          rintro e w' ⟨rfl, d', nn, os, hp, hso, rfl⟩
          obtain ⟨hp1, _, hp3⟩ := hp
          rw [e0] at hp1
          have hperm : d'.toList.Perm d := by
            have e1 : (d'.extract 0 l.length).toList = d'.toList := by rw [← hp1]; simp
            have e2 : (d.toArray.extract 0 l.length).toList = d := by rw [← hdl]; simp
            rw [e1, e2] at hp3
            exact hp3
          have hlen' : (d'.toList.map SCell.el).length = l.length := by simp [hp1]
          obtain ⟨F, hF⟩ : ∃ F, flatK SCell.cells k d' = F := ⟨_, rfl⟩
          have hFl : F.toList = (d'.toList.map SCell.cells).flatten := by rw [← hF, flatK_list _ k hdk]
          have hFs : F.size = l.length * k := by rw [← hF]; simp [hp1]
          obtain ⟨w1, hw1⟩ : ∃ w1, Go.Sort.putRow id (Go.Sort.ahead w nn) g0 0 F = w1 := ⟨_, rfl⟩
          have hW : sortWorldK SCell.cells k w g0 0 nn d' os = grow w1 os := by
            rw [← hw1, ← hF]; rfl
          rw [hW]
          obtain ⟨mk, hmk1, hmk2⟩ := i4
          have hcs : (Go.Sort.putCells id 0 F cur).size = cur.size := by simp [Go.Sort.putCells]
          have hget : w1.heap[g0]? = some (.cells (Go.Sort.putCells id 0 F cur) tt mk) := by
            rw [← hw1]
            simp only [Go.Sort.putRow, mapBlock, Go.Sort.ahead, Array.getElem?_modify, if_true, hmk1, Option.map_some, onCells]
          have hoth : ∀ b, b ≠ g0 → w1.heap[b]? = w.heap[b]? := by
            intro b hb
            rw [← hw1]
            simp only [Go.Sort.putRow, mapBlock, Go.Sort.ahead, Array.getElem?_modify, if_neg (Ne.symm hb)]
          have hsz1 : w1.heap.size = w.heap.size := by rw [← hw1]; simp [Go.Sort.putRow, mapBlock, Go.Sort.ahead]
          have hel : ∀ j, (Go.Sort.putCells id 0 F cur).toList[j]? = if j < l.length * k then F.toList[j]? else cur.toList[j]? := by
            intro j
            rw [Array.getElem?_toList, Array.getElem?_toList, Array.getElem?_toList]
            simp only [Go.Sort.putCells, Array.getElem?_mapIdx, Nat.zero_le, true_and, Nat.zero_add, Nat.sub_zero, hFs, id]
            by_cases hj : j < l.length * k
            · rw [if_pos hj]
              have h2 : j < cur.size := by rw [i5]; omega
              rw [Array.getElem?_eq_getElem h2, Array.getElem?_eq_getElem (by rw [hFs]; exact hj)]
              simp only [Option.map_some, hj, if_true]
              rw [getElem!_pos _ j (by rw [hFs]; exact hj)]
            · rw [if_neg hj]
              cases hq : cur[j]? with
              | none => rfl
              | some v => simp [hj]
          have htake : (Go.Sort.putCells id 0 F cur).toList.take (l.length * k) = F.toList := by
            apply List.ext_getElem?
            intro j
            rw [List.getElem?_take]
            split
            · rename_i hj; rw [hel, if_pos hj]
            · rename_i hj; rw [List.getElem?_eq_none (by simp [hFs]; omega)]
          have hset : ∀ v a, Lf ρ s v a → Lf ρ (s.set bid (.arr k ((d'.toList.map SCell.el).map eA))) v a := fun v a lf => ⟨lf.1, LfC_set hs (fun _ _ => rfl) (Or.inl ⟨rfl, by simp [hp1], rfl⟩ : (_ ∧ _ ∧ _) ∨ _) lf.2⟩
          have hlen2 : ((d'.toList.map SCell.el).map eA).length = l.length := by simp [hp1]
          obtain ⟨m1, L1⟩ := m.write (w' := w1) hs (b' := .arr k ((d'.toList.map SCell.el).map eA)) h1 (.inl ⟨rfl, by simp [hp1]⟩) (by rw [← hw1]; rfl) (by rw [← hw1]; rfl) ⟨by rw [← hw1]; rfl, trivial⟩ hsz1 hoth (by
            refine .inr ⟨g0, tot, Go.Sort.putCells id 0 F cur, tt, h1, ⟨mk, hget, by rw [hcs]; exact hmk2⟩, by rw [hcs]; exact i5, by rw [hlen2]; exact i6, i7, hk0, ?_, ?_, ?_⟩
            · intro x hx
              obtain ⟨y, _, rfl⟩ := List.mem_map.1 hx
              exact hk y
            · intro v hv
              obtain ⟨j, hj, e⟩ := List.getElem_of_mem hv
              have h2 := hel j
              rw [List.getElem?_eq_getElem hj, e] at h2
              split at h2
              · have h3 : v ∈ F.toList := List.mem_of_getElem? h2.symm
                rw [hFl] at h3
                exact cells_one _ v h3
              · exact i10 v (List.mem_of_getElem? h2.symm)
            · rw [hlen2, htake, hFl]
              exact (cells_rl d'.toList).mono (fun _ _ _ x => x) hset)
          have sm : Same w1 (grow w1 os) := ⟨rfl, rfl, ⟨rfl, trivial⟩, by simp, fun b hb => heap_grow_old _ _ hb⟩
          refine ⟨_, .tup [], _, h, ρ, rfl, ⟨rfl, d'.toList.map SCell.el, rfl, ?_, ?_⟩, m1.same sm, L1.trans (.same sm), .tup [] [] .nil⟩
          · have := hperm.map SCell.el
            rwa [hd1] at this
          · rw [List.pairwise_map, List.pairwise_iff_getElem]
            intro i j hi hj hij
            have := hso i j (Nat.zero_le _) hij (by simpa [hp1] using hj)
            simp only [Array.length_toList] at hi hj
            rw [getElem!_pos d' j hj, getElem!_pos d' i hi] at this
            simpa [ltOf] using this
end
end Go.Av
/- slices.SortFunc of deeds. Own work of this seat. -/
set_option maxRecDepth 100000
set_option linter.unusedSimpArgs false
set_option linter.unusedVariables false
set_option linter.defProp false
namespace Go.Proofs.YtkomcdohejibmaaGreatDoor
open Go Go.Av Go.RowKit

section strict
attribute [local instance] trUp
def pc_introU := @pc_intro trUp
def ct_introU := @ct_intro trUp
def goBU := @goB trUp
def pcall1U := @pcall1 trUp
def adrawU := @adraw trUp
def aretU := @aret trUp
def aenterU := @aenter trUp
def aroundU := @around trUp
def aagainU := @aagain trUp
theorem o_pcu {f : FuncId} {args : List AV} {r : AV} (vs : List Value) (v : Value) (hb : hasBody Tryz.prog f = true) (ha : ∀ h vs', RL h Lf0 true vs' args → vs' = vs) (hr : ∀ h, RV h Lf0 true v r)
    (H : ∀ w, Calls Tryz.prog f vs.toArray w fun e w' => e = .returned v ∧ Same w w') : Pc Tryz.prog f args (· = r) := by
  refine ⟨hb, fun h w vs' hm hv => ?_⟩
  have := ha h vs' hv
  subst this
  refine (H w).mono ?_
  rintro e w' ⟨rfl, hs⟩
  exact ⟨v, r, h, rfl, rfl, fun b o v e => ⟨hs.cell (hm b o v e).1, (hm b o v e).2⟩, fun _ _ _ x => x, fun b o e n => (n e).elim, hs, hr h⟩
theorem scompare_pcu (s p : List UInt8) : Pc Tryz.prog 96 [.str s, .str p] (· = .int .i64 (Lib.compareBytes s p)) :=
  o_pcu [_, _] (.int .i64 (Lib.compareBytes s p)) hB96 (o_two s p) (fun h => .int _ _) fun w => (Any.strings_Compare Tryz.lays106 ⟨s.toArray⟩ ⟨p.toArray⟩ w).mono fun e w' ⟨h1, h2⟩ => ⟨h1, h2 ▸ .refl w⟩

theorem isNaN_pcu (n : Int) : Pc Tryz.prog 153 [.int .i64 n] (· = .bool false) := by
  refine pc_introU (ct_introU Tryz.func153 rfl Tryz.ntmps153 hB153 (by simp) fun h ρ w => goBU (N := 6) Tryz.ntmps153 300 ?_)
  simp only [go_sem]
  exact aretU [2] rfl ⟨rfl, rfl⟩
theorem icompare_pcu (a b : Int) : Pc Tryz.prog 97 [.int .i64 a, .int .i64 b] (· = .int .i64 (cmpI a b)) := by
  refine pc_introU (ct_introU Tryz.func97 rfl Tryz.ntmps97 hB97 (by simp) fun h ρ w => goBU (N := 20) Tryz.ntmps97 300 ?_)
  simp only [go_sem]
  refine pcall1U (isNaN_pcu a) rfl (N := 20) Tryz.ntmps97 rfl ?_
  refine goBU (N := 20) Tryz.ntmps97 300 ?_
  simp only [go_sem]
  refine pcall1U (isNaN_pcu b) rfl (N := 20) Tryz.ntmps97 rfl ?_
  refine goBU (N := 20) Tryz.ntmps97 300 ?_
  by_cases h1 : a < b
  · have d1 : decide (a < b) = true := by simpa using h1
    simp only [go_sem, d1]
    exact aretU [4] rfl ⟨by simp [resV, Av.get, Av.put, cmpI, h1], rfl⟩
  · have d1 : decide (a < b) = false := by simpa using h1
    by_cases h2 : a > b
    · have d2 : decide (a > b) = true := by simpa using h2
      simp only [go_sem, d1, d2]
      exact aretU [4] rfl ⟨by simp [resV, Av.get, Av.put, cmpI, h1, h2], rfl⟩
    · have d2 : decide (a > b) = false := by simpa using h2
      simp only [go_sem, d1, d2]
      exact aretU [4] rfl ⟨by simp [resV, Av.get, Av.put, cmpI, h1, h2], rfl⟩
theorem or_pcu (a b : Int) : Pc Tryz.prog 95 [.fz 1 [.int .i64 a, .int .i64 b]] (· = .int .i64 (if a ≠ 0 then a else b)) := by
  refine pc_introU (ct_introU Tryz.func95 rfl Tryz.ntmps95 hB95 (by simp) fun h ρ w => goBU (N := 18) Tryz.ntmps95 300 ?_)
  simp only [go_sem]
  refine aenterU (aroundU ?_)
  by_cases h1 : a = 0
  · have d1 : (a != 0) = false := by simpa using h1
    refine goBU (N := 18) Tryz.ntmps95 300 ?_
    simp only [go_sem, d1]
    refine aagainU (aroundU ?_)
    by_cases h2 : b = 0
    · have d2 : (b != 0) = false := by simpa using h2
      refine goBU (N := 18) Tryz.ntmps95 300 ?_
      simp only [go_sem, d2]
      refine aagainU (aroundU ?_)
      refine goBU (N := 18) Tryz.ntmps95 300 ?_
      simp only [go_sem]
      exact aretU [2] rfl ⟨by simp [resV, Av.get, Av.put, h1, h2], rfl⟩
    · have d2 : (b != 0) = true := by simpa using h2
      refine goBU (N := 18) Tryz.ntmps95 300 ?_
      simp only [go_sem, d2]
      exact aretU [2] rfl ⟨by simp [resV, Av.get, Av.put, h1], rfl⟩
  · have d1 : (a != 0) = true := by simpa using h1
    refine goBU (N := 18) Tryz.ntmps95 300 ?_
    simp only [go_sem, d1]
    exact aretU [2] rfl ⟨by simp [resV, Av.get, Av.put, h1], rfl⟩
theorem byStamp_pcu (a b : St) : Pc Tryz.prog 42 [stA a, stA b] (· = .int .i64 (stCmp a b)) := by
  simp only [stA]
  refine pc_introU (ct_introU Tryz.func42 rfl Tryz.ntmps42 hB42 (by simp) fun h ρ w => goBU (N := 17) Tryz.ntmps42 300 ?_)
  simp only [go_sem]
  refine adrawU [.int .i64 (Lib.compareBytes a.dept b.dept), .int .i64 (cmpI a.no b.no), .int .i64 (stCmp a b)] mixed ?d1 (N := 17) Tryz.ntmps42 ?d2 100 ?d3
  case d1 => decide
  case d2 => decide
  simp only [go_sem]
  repeat refine And.intro (by first | exact (scompare_pcu a.dept b.dept).at | exact (icompare_pcu a.no b.no).at | exact (or_pcu _ _).at | rfl) ?_
  refine goBU (N := 17) Tryz.ntmps42 300 ?_
  simp only [go_sem]
  exact aretU [4] rfl ⟨rfl, rfl⟩
theorem stampOrder_pcu (a b : St) : Pc Tryz.prog 78 [stA a, stA b] (· = .int .i64 (stCmp a b)) := by
  simp only [stA]
  refine pc_introU (ct_introU Tryz.func78 rfl Tryz.ntmps78 hB78 (by simp) fun h ρ w => goBU (N := 17) Tryz.ntmps78 300 ?_)
  simp only [go_sem]
  refine adrawU [.int .i64 (Lib.compareBytes a.dept b.dept), .int .i64 (cmpI a.no b.no), .int .i64 (stCmp a b)] mixed ?d1 (N := 17) Tryz.ntmps78 ?d2 100 ?d3
  case d1 => decide
  case d2 => decide
  simp only [go_sem]
  repeat refine And.intro (by first | exact (scompare_pcu a.dept b.dept).at | exact (icompare_pcu a.no b.no).at | exact (or_pcu _ _).at | rfl) ?_
  refine goBU (N := 17) Tryz.ntmps78 300 ?_
  simp only [go_sem]
  exact aretU [4] rfl ⟨rfl, rfl⟩

theorem deA_cells {h : Mem} {ρ : Go.Av.Own} {s : List Blk} {x : De} {vs : List Value} (r : RL h (Lf ρ s) false vs (cellsOf (deA x))) : ∃ v2 v3 v4 v5 v6, vs = [.string ⟨x.st.dept.toArray⟩, .int .i64 x.st.no, v2, v3, v4, v5, v6] := by
  obtain ⟨c2, c3, c4, c5, c6, hcc⟩ : ∃ c2 c3 c4 c5 c6, cellsOf (deA x) = [.str x.st.dept, .int .i64 x.st.no, c2, c3, c4, c5, c6] := ⟨_, _, _, _, _, rfl⟩
  rw [hcc] at r
  cases r with | cons a0 r =>
  cases r with | cons a1 r =>
  cases r with | cons a2 r =>
  cases r with | cons a3 r =>
  cases r with | cons a4 r =>
  cases r with | cons a5 r =>
  cases r with | cons a6 r =>
  cases r
  have e0 := inv_str a0
  have e1 := inv_int a1
  subst e0 e1
  exact ⟨_, _, _, _, _, rfl⟩

theorem add2_pcu (a b : St) (v2 v3 v4 v5 v6 u2 u3 u4 u5 u6 : Value) (h2 : v2.oneCell' = true) (h3 : v3.oneCell' = true) (h4 : v4.oneCell' = true) (h5 : v5.oneCell' = true) (h6 : v6.oneCell' = true) (k2 : u2.oneCell' = true) (k3 : u3.oneCell' = true) (k4 : u4.oneCell' = true) (k5 : u5.oneCell' = true) (k6 : u6.oneCell' = true) :
    Pc Tryz.prog 41 [.agg [.str a.dept, .int .i64 a.no, .raw v2, .raw v3, .raw v4, .raw v5, .raw v6], .agg [.str b.dept, .int .i64 b.no, .raw u2, .raw u3, .raw u4, .raw u5, .raw u6]] (· = .int .i64 (stCmp a b)) := by
  have hb := byStamp_pcu a b
  simp only [stA] at hb
  refine pc_introU (ct_introU Tryz.func41 rfl Tryz.ntmps41 hB41 (by simp) fun h ρ w => goBU (N := 10) Tryz.ntmps41 300 ?_)
  simp only [go_sem, h2, h3, h4, h5, h6, k2, k3, k4, k5, k6]
  refine pcall1U (hb) rfl (N := 10) Tryz.ntmps41 rfl ?_
  refine goBU (N := 10) Tryz.ntmps41 300 ?_
  simp only [go_sem]
  exact aretU [4] rfl ⟨rfl, rfl⟩
theorem add2_calls (h : Mem) (ρ : Go.Av.Own) (s : List Blk) (x y : De) (vs us : List Value) (r1 : RL h (Lf ρ s) false vs (cellsOf (deA x))) (r2 : RL h (Lf ρ s) false us (cellsOf (deA y))) (o1 : ∀ v ∈ vs, v.oneCell' = true) (o2 : ∀ v ∈ us, v.oneCell' = true) (W : World) :
    Calls Tryz.prog 41 #[.agg vs.toArray, .agg us.toArray] W fun e w' => e = .returned (.int .i64 (stCmp x.st y.st)) ∧ @Same trUp W w' := by
  obtain ⟨v2, v3, v4, v5, v6, rfl⟩ := deA_cells r1
  obtain ⟨u2, u3, u4, u5, u6, rfl⟩ := deA_cells r2
  simp only [List.mem_cons, List.not_mem_nil, or_false, forall_eq_or_imp, forall_eq] at o1 o2
  have hp := add2_pcu x.st y.st v2 v3 v4 v5 v6 u2 u3 u4 u5 u6 o1.2.2.1 o1.2.2.2.1 o1.2.2.2.2.1 o1.2.2.2.2.2.1 o1.2.2.2.2.2.2 o2.2.2.1 o2.2.2.2.1 o2.2.2.2.2.1 o2.2.2.2.2.2.1 o2.2.2.2.2.2.2
  have hq := @Pc.calls trUp _ _ _ _ hp W ( [.agg [.string ⟨x.st.dept.toArray⟩, .int .i64 x.st.no, v2, v3, v4, v5, v6].toArray, .agg [.string ⟨y.st.dept.toArray⟩, .int .i64 y.st.no, u2, u3, u4, u5, u6].toArray]) fun h => .cons (.agg _ _ (.cons (.str _) (.cons (.int _ _) (.cons (.raw _) (.cons (.raw _) (.cons (.raw _) (.cons (.raw _) (.cons (.raw _) .nil)))))))) (.cons (.agg _ _ (.cons (.str _) (.cons (.int _ _) (.cons (.raw _) (.cons (.raw _) (.cons (.raw _) (.cons (.raw _) (.cons (.raw _) .nil)))))))) .nil)
  refine Calls.mono hq ?_
  rintro e w' ⟨⟨v, h', rfl, rv⟩, hs⟩
  refine ⟨?_, hs⟩
  cases rv with | int => rfl

theorem join1_pcu (a b : St) (v2 v3 v4 v5 v6 u2 u3 u4 u5 u6 : Value) (h2 : v2.oneCell' = true) (h3 : v3.oneCell' = true) (h4 : v4.oneCell' = true) (h5 : v5.oneCell' = true) (h6 : v6.oneCell' = true) (k2 : u2.oneCell' = true) (k3 : u3.oneCell' = true) (k4 : u4.oneCell' = true) (k5 : u5.oneCell' = true) (k6 : u6.oneCell' = true) :
    Pc Tryz.prog 46 [.agg [.str a.dept, .int .i64 a.no, .raw v2, .raw v3, .raw v4, .raw v5, .raw v6], .agg [.str b.dept, .int .i64 b.no, .raw u2, .raw u3, .raw u4, .raw u5, .raw u6]] (· = .int .i64 (stCmp a b)) := by
  have hb := byStamp_pcu a b
  simp only [stA] at hb
  refine pc_introU (ct_introU Tryz.func46 rfl Tryz.ntmps46 hB46 (by simp) fun h ρ w => goBU (N := 10) Tryz.ntmps46 300 ?_)
  simp only [go_sem, h2, h3, h4, h5, h6, k2, k3, k4, k5, k6]
  refine pcall1U (hb) rfl (N := 10) Tryz.ntmps46 rfl ?_
  refine goBU (N := 10) Tryz.ntmps46 300 ?_
  simp only [go_sem]
  exact aretU [4] rfl ⟨rfl, rfl⟩
theorem put1_pcu (a b : St) (v2 v3 v4 v5 v6 u2 u3 u4 u5 u6 : Value) (h2 : v2.oneCell' = true) (h3 : v3.oneCell' = true) (h4 : v4.oneCell' = true) (h5 : v5.oneCell' = true) (h6 : v6.oneCell' = true) (k2 : u2.oneCell' = true) (k3 : u3.oneCell' = true) (k4 : u4.oneCell' = true) (k5 : u5.oneCell' = true) (k6 : u6.oneCell' = true) :
    Pc Tryz.prog 107 [.agg [.str a.dept, .int .i64 a.no, .raw v2, .raw v3, .raw v4, .raw v5, .raw v6], .agg [.str b.dept, .int .i64 b.no, .raw u2, .raw u3, .raw u4, .raw u5, .raw u6]] (· = .int .i64 (stCmp a b)) := by
  have hb := stampOrder_pcu a b
  simp only [stA] at hb
  refine pc_introU (ct_introU Tryz.func107 rfl Tryz.ntmps107 hB107 (by simp) fun h ρ w => goBU (N := 10) Tryz.ntmps107 300 ?_)
  simp only [go_sem, h2, h3, h4, h5, h6, k2, k3, k4, k5, k6]
  refine pcall1U (hb) rfl (N := 10) Tryz.ntmps107 rfl ?_
  refine goBU (N := 10) Tryz.ntmps107 300 ?_
  simp only [go_sem]
  exact aretU [4] rfl ⟨rfl, rfl⟩
theorem put1_calls (h : Mem) (ρ : Go.Av.Own) (s : List Blk) (x y : De) (vs us : List Value) (r1 : RL h (Lf ρ s) false vs (cellsOf (deA x))) (r2 : RL h (Lf ρ s) false us (cellsOf (deA y))) (o1 : ∀ v ∈ vs, v.oneCell' = true) (o2 : ∀ v ∈ us, v.oneCell' = true) (W : World) :
    Calls Tryz.prog 107 #[.agg vs.toArray, .agg us.toArray] W fun e w' => e = .returned (.int .i64 (stCmp x.st y.st)) ∧ @Same trUp W w' := by
  obtain ⟨v2, v3, v4, v5, v6, rfl⟩ := deA_cells r1
  obtain ⟨u2, u3, u4, u5, u6, rfl⟩ := deA_cells r2
  simp only [List.mem_cons, List.not_mem_nil, or_false, forall_eq_or_imp, forall_eq] at o1 o2
  have hp := put1_pcu x.st y.st v2 v3 v4 v5 v6 u2 u3 u4 u5 u6 o1.2.2.1 o1.2.2.2.1 o1.2.2.2.2.1 o1.2.2.2.2.2.1 o1.2.2.2.2.2.2 o2.2.2.1 o2.2.2.2.1 o2.2.2.2.2.1 o2.2.2.2.2.2.1 o2.2.2.2.2.2.2
  have hq := @Pc.calls trUp _ _ _ _ hp W ( [.agg [.string ⟨x.st.dept.toArray⟩, .int .i64 x.st.no, v2, v3, v4, v5, v6].toArray, .agg [.string ⟨y.st.dept.toArray⟩, .int .i64 y.st.no, u2, u3, u4, u5, u6].toArray]) fun h => .cons (.agg _ _ (.cons (.str _) (.cons (.int _ _) (.cons (.raw _) (.cons (.raw _) (.cons (.raw _) (.cons (.raw _) (.cons (.raw _) .nil)))))))) (.cons (.agg _ _ (.cons (.str _) (.cons (.int _ _) (.cons (.raw _) (.cons (.raw _) (.cons (.raw _) (.cons (.raw _) (.cons (.raw _) .nil)))))))) .nil)
  refine Calls.mono hq ?_
  rintro e w' ⟨⟨v, h', rfl, rv⟩, hs⟩
  refine ⟨?_, hs⟩
  cases rv with | int => rfl

end strict
theorem ltOf_st : Go.Sort.SWO (Go.Proofs.ltOf fun x y : De => stCmp x.st y.st) := by
  have e : ∀ x y : De, Go.Proofs.ltOf (fun x y : De => stCmp x.st y.st) x y = true ↔ stLt x.st y.st := fun x y => by
    simp only [Go.Proofs.ltOf, decide_eq_true_eq]; exact stCmp_lt
  have e' : ∀ x y : De, Go.Proofs.ltOf (fun x y : De => stCmp x.st y.st) x y = false ↔ ¬ stLt x.st y.st := fun x y => by
    rw [← e, Bool.not_eq_true]
  refine ⟨fun x => (e' x x).2 (stLt_irrefl _), fun x y z h1 h2 => (e x z).2 (stLt_trans ((e x y).1 h1) ((e y z).1 h2)), fun x y z h1 h2 => (e' x z).2 fun h => ?_⟩
  have n1 := (e' x y).1 h1
  have n2 := (e' y z).1 h2
  -- x < z; neither x < y nor y < z
  by_cases h3 : stLt y.st x.st
  · exact n2 (stLt_trans h3 h)
  · have := stLt_total n1 h3
    rw [← this] at n2
    exact n2 h

/-- slices.SortFunc by stamps -/
theorem sortDe_ct {g : FuncId} (hg : hasBody Tryz.prog g = true)
    (hcmp : ∀ (h : Mem) (ρ : Go.Av.Own) (s : List Blk) (x y : De) (vs us : List Value), RL h (Lf ρ s) false vs (cellsOf (deA x)) → RL h (Lf ρ s) false us (cellsOf (deA y)) → (∀ v ∈ vs, v.oneCell' = true) → (∀ v ∈ us, v.oneCell' = true) → ∀ W, Calls Tryz.prog g #[.agg vs.toArray, .agg us.toArray] W fun e w' => e = .returned (.int .i64 (stCmp x.st y.st)) ∧ @Same trUp W w')
    {s : List Blk} {bid : Nat} {l : List De} (hs : s[bid]? = some (.arr 7 (l.map deA))) (hl : l.length < 1000000) :
    Ct Tryz.prog 40 [.sl bid 0 l.length l.length, .fn (.func g) []] s (fun r s' => r = .tup [] ∧ ∃ l' : List De, s' = s.set bid (.arr 7 (l'.map deA)) ∧ l'.Perm l ∧ l'.Pairwise (fun x y => ¬ stLt y.st x.st)) := by
  have h := sort_ct Tryz.sortDe Tryz.isAgg41 Tryz.sizeOf41 hB40 deA (by decide) (fun _ => rfl) (fun x y : De => stCmp x.st y.st) ltOf_st hg hcmp hs (by omega)
  refine ⟨h.1, fun hh ρ w vs m r => (h.2 hh ρ w vs m r).mono ?_⟩
  rintro e w' ⟨v, r, s1, h', ρ', h1, ⟨h2, l', h3, h4, h5⟩, h6⟩
  exact ⟨v, r, s1, h', ρ', h1, ⟨h2, l', h3, h4, h5.imp fun hh => by rwa [stCmp_lt] at hh⟩, h6⟩
end Go.Proofs.YtkomcdohejibmaaGreatDoor
