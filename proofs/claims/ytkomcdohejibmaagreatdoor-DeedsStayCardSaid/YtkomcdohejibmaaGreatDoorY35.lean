/- slices.Sorted over a map's keys. Own work of this seat. -/
import Derived.Test.YtkomcdohejibmaaGreatDoorY34
import Derived.Test.YtkomcdohejibmaaGreatDoorY33
set_option maxRecDepth 100000
set_option linter.unusedSimpArgs false
set_option linter.unusedVariables false
namespace Go.Av
open Go Go.RowKit
/-- the cells of a row that a call has made are told frozen -/
theorem Mine.adoptFz {h : Mem} {ρ : Own} {s : List Blk} {w w' : World} (m : Mine h ρ s w) (sm : Same w w') (g : Nat) (cs : List Value) (hg : w.heap.size ≤ g) (hc : ∀ o v, cs[o]? = some v → w'.cell? ⟨g, o, none⟩ = some v) (h1 : ∀ v ∈ cs, v.oneCell' = true) :
    Mine (Mem.add h g cs) ρ s w' ∧ Later h ρ s w (Mem.add h g cs) ρ s w' := by
  have m1 := m.same sm
  have hle : ∀ b o v, h b o = some v → Mem.add h g cs b o = some v := by
    intro b o v e
    have := m.memlt e
    simp [Mem.add, show b ≠ g by omega, e]
  refine ⟨⟨?_, ?_, m1.out, m1.inj, ?_⟩, ⟨hle, ?_, fun _ _ x => x, sm.os, sm.tape, sm.output, sm.size, fun k hk _ => sm.block k hk, fun i _ t x => .inl ⟨i, t, x⟩⟩⟩
  · intro b o v e
    by_cases hb : b = g
    · subst hb
      simp only [Mem.add, if_true] at e
      exact ⟨hc o v e, h1 v (List.mem_of_getElem? e)⟩
    · simp only [Mem.add, hb, if_false] at e
      exact m1.mem b o v e
  · exact fun id blk e => (m1.own id blk e).mono hle (fun _ _ x => x) rfl (fun _ _ _ => rfl)
  · intro i g' t e o
    have := m.lt e
    simp [Mem.add, show g' ≠ g by omega, m.disj i g' t e o]
  · intro b o e n
    by_cases hb : b = g
    · exact .inr (by omega)
    · simp [Mem.add, hb, e] at n
end Go.Av
namespace Go.Proofs.YtkomcdohejibmaaGreatDoor
open Go Go.Av Go.RowKit Go.Shelf Go.Sort

theorem insert_perm (x : Lit × DataW Unit) : ∀ l : List (Lit × DataW Unit), (DataW.insert x l).Perm (x :: l)
  | [] => .refl _
  | y :: r => by
    unfold DataW.insert
    split
    · exact .refl _
    · exact (List.Perm.cons y (insert_perm x r)).trans (List.Perm.swap x y r)
theorem foldr_perm : ∀ l : List (Lit × DataW Unit), (l.foldr DataW.insert []).Perm l
  | [] => .refl _
  | x :: l => (insert_perm x _).trans (List.Perm.cons x (foldr_perm l))

/-- what is read of a map's entries: nothing but their keys -/
def readK : Value → Option (DataW Unit × List MemPlace) := fun _ => some (.lit (.bool true), [])
def Gives (kf : Nat) : Prop := ∀ (Bm b nn : Nat) (D0 : DataW Unit) (w : World), Bm < w.heap.size → w.cell? ⟨Bm, 0, none⟩ = some (.map (some b)) → w.ownsMap Tryz.prog 9 readK b nn D0 →
  SeqGives Fence.wide 2 Tryz.prog kf #[.pointer (some ⟨Bm, 0, none⟩)] encStr (fun ss => ss.Perm (strKeys D0)) (Maps.size D0) w
theorem givesP : Gives 138 := fun Bm b nn D0 w h1 h2 h3 => AnyZ.keys_gives (ρ := Tryz.keysP_ren) { Tryz.keysP with } Fence.wide 2 trivial rfl (by omega) Bm b nn D0 w h1 h2 h3
theorem givesN : Gives 154 := fun Bm b nn D0 w h1 h2 h3 => AnyZ.keys_gives (ρ := Tryz.keysN_ren) { Tryz.keysN with } Fence.wide 2 trivial rfl (by omega) Bm b nn D0 w h1 h2 h3
theorem sortsW (m : Nat) : AnyZ.SortsIn Tryz.prog Tryz.sorted_ren Fence.wide m :=
  ⟨fun blk off cap ss W hH hblk hsz => callsIn_wide.2 (AnyM.slices_Sort_string Tryz.sortS blk off cap ss W hH hblk hsz),
   fun p cap W => callsIn_wide.2 (AnyM.slices_Sort_string_none Tryz.sortS p cap W)⟩
/-- keys in order -/
def srtK (ks : List (List UInt8)) : List (List UInt8) := ks.mergeSort fun x y => decide (x ≤ y)
theorem srtK_perm (ks : List (List UInt8)) : (srtK ks).Perm ks := List.mergeSort_perm _ _
theorem srtK_of {ks ks' : List (List UInt8)} (h : ks.Perm ks') : srtK ks = srtK ks' := mergeSort_of_perm h
theorem strs_rlt {h : Mem} {L : Value → AV → Prop} : ∀ (l : List (List UInt8)), RL h L true (l.map encStr) (flat (l.map AV.str))
  | [] => .nil
  | x :: l => by
    simp only [List.map_cons, flat, cellsOf, List.cons_append, List.nil_append]
    exact .cons (.str x) (strs_rlt l)
theorem en_key {P : Program} {k : TypeId} (hk : P.underlying k = some .string) {s : List UInt8} (hs : s.length ≤ 1000000) : keyOf P k (.string ⟨s.toArray⟩) = some (.string s) := by
  unfold keyOf
  rw [hk]
  simp only [mapKey, hk]
  rw [if_pos (by show s.toArray.size ≤ maxLen; simp [maxLen]; omega)]
set_option maxHeartbeats 2000000 in
theorem sorted_ct {kf : Nat} (hg : Gives kf) (hkf : ∀ args w, (callFunc kf args).run Tryz.prog w = .ok (.enter kf args) w) {s : List Blk} {j m : Nat} {es : List (AV × AV)} (ks : List (List UInt8)) (hj : s[j]? = some (.arr 1 [.mp m])) (hm : s[m]? = some (.mp es)) (hks : es.map (·.1) = ks.map .str) (hlen : ks.length ≤ 1000) (hsz : ∀ k ∈ ks, k.length ≤ 1000000) :
    Ct Tryz.prog 86 [.fn (.func kf) [.ptr j 1 0 0]] s (fun r s' => r = .fz 1 ((srtK ks).map .str) ∧ s' = s) := by
  refine ⟨hB86, fun h ρ w vs M r => ?_⟩
  cases r with
  | @cons _ v0 _ _ _ r0 r =>
  cases r
  obtain ⟨vs1, rfl, rl⟩ : ∃ vs1 : List Value, v0 = .func (.func kf) #[] vs1.toArray ∧ RL h (Lf ρ s) false vs1 [.ptr j 1 0 0] := by
    cases r0 with
    | leaf p => exact p.2.elim
    | fn _ vs1 _ rl => exact ⟨vs1, rfl, rl⟩
  cases rl with
  | @cons _ p0 _ _ _ rp rl =>
  cases rl
  have hL := (inv_ptr rp).2
  simp only [LfC, hj] at hL
  obtain ⟨_, g, tot, hρ, rfl⟩ := hL.2 rfl
  rcases M.own j _ hj with ⟨hn, _⟩ | ⟨g', tot', cur, tt, i3, i4, i5, i6, i7, i8, i9, i10, i11⟩
  · cases hn
  rw [hρ] at i3
  simp only [Option.some.injEq, Prod.mk.injEq] at i3
  obtain ⟨rfl, rfl⟩ := i3
  obtain ⟨c0, hc0, rc⟩ := i11.get (k := 0) (a := .mp m) rfl
  have hLm := (inv_mp rc).2
  simp only [LfC, hm] at hLm
  obtain ⟨g2, hρ2, rfl⟩ := hLm
  obtain ⟨g3, en, clock, e1, e2, e3, e4, e5⟩ := M.own m _ hm
  rw [hρ2] at e1
  simp only [Option.some.injEq, Prod.mk.injEq, and_true] at e1
  subst e1
  have hkl : en.toList.length = ks.length := by
    have := congrArg List.length hks
    simp only [List.length_map] at this
    omega
  have hkeys : ∀ (i : Nat) (y : MapEntry), en.toList[i]? = some y → ∃ k, ks[i]? = some k ∧ y.key = .string ⟨k.toArray⟩ := by
    intro i y hy
    have hi := (List.getElem?_eq_some_iff.1 hy).1
    have hi2 : i < es.length := by omega
    have h1 := (e4 i es[i] y (List.getElem?_eq_getElem hi2) hy).1
    have h2 : (es.map (·.1))[i]? = some es[i].1 := by rw [List.getElem?_map, List.getElem?_eq_getElem hi2]; rfl
    rw [hks, List.getElem?_map, List.getElem?_eq_getElem (by omega)] at h2
    simp only [Option.map_some, Option.some.injEq] at h2
    refine ⟨ks[i]'(by omega), List.getElem?_eq_getElem (by omega), ?_⟩
    rw [← inv_str (h2 ▸ h1)]
  have hcell : w.cell? ⟨g, 0, none⟩ = some (.map (some g2)) := by
    rw [i4.cell, ← Array.getElem?_toList]
    rw [List.getElem?_take] at hc0
    split at hc0
    · exact hc0
    · cases hc0
  have hgl : g < w.heap.size := M.lt hρ
  have hread : ∀ x ∈ en.toList, ∃ k ∈ ks, x.key = .string ⟨k.toArray⟩ ∧ WideElems.rd Tryz.prog 9 readK x = some (.string k, .lit (.bool true)) := by
    intro x hx
    obtain ⟨i, hi, e⟩ := List.getElem_of_mem hx
    obtain ⟨k, hk, hk2⟩ := hkeys i x (by rw [List.getElem?_eq_getElem hi, e])
    have hkm := List.mem_of_getElem? hk
    refine ⟨k, hkm, hk2, ?_⟩
    obtain ⟨key, val, born⟩ := x
    exact WideElems.rd_mk (yv := (.lit (.bool true), [])) (by rw [show key = _ from hk2]; exact en_key Tryz.underlying9 (hsz k hkm)) rfl
  have hown : w.ownsMap Tryz.prog 9 readK g2 en.size (.map ((en.toList.map (WideElems.rg Tryz.prog 9 readK)).foldr DataW.insert [])) := by
    refine ⟨en, clock, e2, ⟨?_, ⟨fun x hx => ?_, ?_, ?_⟩, fun x hx => ?_⟩, Nat.le_refl _, rfl⟩
    · have : en.size = en.toList.length := by simp
      unfold maxLen
      omega
    · obtain ⟨i, hi, e⟩ := List.getElem_of_mem hx
      have := e5.2.1 i x (by rw [List.getElem?_eq_getElem hi, e])
      rw [this, e5.1]
      exact hi
    · rw [List.nodup_iff_pairwise_ne, List.pairwise_iff_getElem]
      intro a b ha hb hab e
      simp only [List.length_map] at ha hb
      have h1 := e5.2.1 a _ (List.getElem?_eq_getElem ha)
      have h2 := e5.2.1 b _ (List.getElem?_eq_getElem hb)
      simp only [List.getElem_map] at e
      omega
    · exact List.pairwise_map.2 e5.2.2
    · obtain ⟨k, _, _, h2⟩ := hread x hx
      exact ⟨_, h2⟩
  have hD : (strKeys (.map ((en.toList.map (WideElems.rg Tryz.prog 9 readK)).foldr DataW.insert []) : DataW Unit)).Perm ks := by
    show (List.map (fun p => strOf p.1) ((en.toList.map (WideElems.rg Tryz.prog 9 readK)).foldr DataW.insert [])).Perm ks
    refine ((foldr_perm _).map _).trans ?_
    rw [List.map_map]
    have : List.map ((fun p => strOf p.1) ∘ WideElems.rg Tryz.prog 9 readK) en.toList = ks := by
      apply List.ext_getElem?
      intro i
      rw [List.getElem?_map]
      cases hy : en.toList[i]? with
      | none =>
        rw [List.getElem?_eq_none_iff] at hy
        rw [List.getElem?_eq_none (by omega)]
        rfl
      | some y =>
        obtain ⟨k, hk, hk2⟩ := hkeys i y hy
        obtain ⟨k2, _, h3, h4⟩ := hread y (List.mem_of_getElem? hy)
        rw [hk]
        simp only [Option.map_some, Function.comp, WideElems.rg_of h4, strOf]
        rw [hk2] at h3
        simp only [Value.string.injEq, ByteArray.mk.injEq] at h3
        have := congrArg Array.toList h3
        simp at this
        rw [this]
    rw [this]
  have hsize : Maps.size (.map ((en.toList.map (WideElems.rg Tryz.prog 9 readK)).foldr DataW.insert []) : DataW Unit) = ks.length := by
    rw [Maps.size_eq, (foldr_perm _).length_eq, List.length_map, hkl]
  have cS := AnyZ.sorted_in Tryz.sorted Fence.wide 5 trivial trivial trivial trivial rfl (by omega) (sortsW _) (enters_of Tryz.func111 (by kernel_rfl) rfl) kf #[.pointer (some ⟨g, 0, none⟩)] trivial hkf _ _ (by rw [hsize]; unfold maxLen; omega) (by rw [hsize]; omega) w (hg g g2 en.size _ w hgl hcell hown)
  have cS' := callsIn_wide.1 cS
  refine Calls.mono (f := 86) cS' ?_
  rintro e w' ⟨v, ss, rfl, hS, hrow, hnil, hb⟩
  have hssk : srtK ss = srtK ks := srtK_of (hS.trans hD)
  obtain ⟨q, hq⟩ : ∃ q, ss.mergeSort (fun x y => decide (x ≤ y)) = q := ⟨_, rfl⟩
  have hqk : srtK ks = q := by rw [← hssk]; exact hq
  rw [hq] at hrow
  have hqs : q.length = ss.length := by rw [← hq]; exact (List.mergeSort_perm ss _).length_eq
  have sm : Same w w' := ⟨hb.os, hb.tape, ⟨hb.output, trivial⟩, hb.size, hb.block⟩
  have hqone : ∀ x ∈ q.map AV.str, (cellsOf x).length = 1 := fun x hx => by
    obtain ⟨y, _, rfl⟩ := List.mem_map.1 hx
    rfl
  rcases hrow.2 with ⟨rfl, hz⟩ | ⟨gb, cap, cur2, rfl, b1, b2, b3, b4, b5, b6⟩
  · have hq0 : q = [] := List.eq_nil_of_length_eq_zero (by omega)
    have m1 := M.same sm
    exact ⟨_, _, _, h, ρ, rfl, ⟨by rw [hqk], rfl⟩, m1, .same sm, by rw [hq0]; exact .fznil 1⟩
  · have hcell2 : ∀ o v, (q.map encStr)[o]? = some v → w'.cell? ⟨gb, o, none⟩ = some v := by
      intro o v e
      have e2 : cur2.toList[o]? = some v := by
        have ho := (List.getElem?_eq_some_iff.1 e).1
        rw [← b6, List.getElem?_take] at e
        split at e
        · exact e
        · cases e
      rw [HRow.cell ⟨(0, 0), b2, .inl rfl⟩, ← Array.getElem?_toList]
      exact e2
    obtain ⟨m1, L1⟩ := M.adoptFz sm gb (q.map encStr) b1 hcell2 (fun v hv => by
      obtain ⟨z, _, rfl⟩ := List.mem_map.1 hv
      rfl)
    refine ⟨_, _, _, _, ρ, rfl, ⟨by rw [hqk], rfl⟩, m1, L1, ?_⟩
    have hz := RV.fz (h := Mem.add h gb (q.map encStr)) (Lf := Lf ρ s) (fl := false) gb 0 cap 1 (q.map .str) (q.map encStr) (strs_rlt q) hqone (fun k v e => by simp [Mem.add, e]) (by rw [List.length_map]; omega)
    rw [List.length_map, hqs] at hz
    exact hz
end Go.Proofs.YtkomcdohejibmaaGreatDoor
/- Right deeds: what is plain about them; their vectors. Own work of this seat. -/
set_option maxRecDepth 100000
set_option linter.unusedSimpArgs false
set_option linter.unusedVariables false
namespace Go.Proofs.YtkomcdohejibmaaGreatDoor
open Go Go.Av Go.RowKit

theorem srt_inj {l : List De} (h : Srt l) {x y : De} (hx : x ∈ l) (hy : y ∈ l) (e : x.st = y.st) : x = y := by
  obtain ⟨i, hi, rfl⟩ := List.getElem_of_mem hx
  obtain ⟨j, hj, rfl⟩ := List.getElem_of_mem hy
  have hp := List.pairwise_iff_getElem.1 h
  rcases Nat.lt_trichotomy i j with hh | hh | hh
  · have := hp i j hi hj hh
    rw [e] at this
    exact absurd this (stLt_irrefl _)
  · subst hh; rfl
  · have := hp j i hj hi hh
    rw [e] at this
    exact absurd this (stLt_irrefl _)
theorem srt_ext : ∀ {a b : List De}, Srt a → Srt b → (∀ d, d ∈ a ↔ d ∈ b) → a = b
  | [], [], _, _, _ => rfl
  | [], y :: b, _, _, h => by have := (h y).2 (by simp); simp at this
  | x :: a, [], _, _, h => by have := (h x).1 (by simp); simp at this
  | x :: a, y :: b, ha, hb, h => by
    have ha' := List.pairwise_cons.1 ha
    have hb' := List.pairwise_cons.1 hb
    have e : x = y := by
      have h1 := (h x).1 (by simp)
      have h2 := (h y).2 (by simp)
      rcases List.mem_cons.1 h1 with h1 | h1
      · exact h1
      rcases List.mem_cons.1 h2 with h2 | h2
      · exact h2.symm
      exact absurd (stLt_trans (ha'.1 y h2) (hb'.1 x h1)) (stLt_irrefl _)
    subst e
    have : a = b := srt_ext ha'.2 hb'.2 fun d => by
      constructor
      · intro hd
        rcases List.mem_cons.1 ((h d).1 (List.mem_cons_of_mem _ hd)) with e | h2
        · subst e; exact absurd (ha'.1 _ hd) (stLt_irrefl _)
        · exact h2
      · intro hd
        rcases List.mem_cons.1 ((h d).2 (List.mem_cons_of_mem _ hd)) with e | h2
        · subst e; exact absurd (hb'.1 _ hd) (stLt_irrefl _)
        · exact h2
    rw [this]
theorem srt_nodup {l : List De} (h : Srt l) : l.Nodup := List.Pairwise.imp (fun {a b} h e => by rw [e] at h; exact stLt_irrefl _ h) h
theorem ckOk_nil : CkOk [] := ⟨by simp, fun i d h => by simp at h, fun d h => by simp at h⟩
theorem cnt_ivt (l : List De) (k : List UInt8) : ∀ i, i ≤ l.length → ∀ c, c < cnt (l.take i) k → ∃ j, ∃ h : j < l.length, j < i ∧ l[j].st.dept = k ∧ cnt (l.take j) k = c
  | 0, _, c, h => by simp [cnt] at h
  | i + 1, hi, c, h => by
    rw [cnt_step l i (by omega)] at h
    by_cases hc : c < cnt (l.take i) k
    · obtain ⟨j, hj, h1, h2⟩ := cnt_ivt l k i (by omega) c hc
      exact ⟨j, hj, by omega, h2⟩
    · split at h
      · rename_i e
        exact ⟨i, by omega, by omega, e, by omega⟩
      · omega
theorem CkOk.at2 {l : List De} (h : CkOk l) {i : Nat} (hi : i < l.length) : CkAt l i l[i] := h.at' i _ (List.getElem?_eq_getElem hi)
theorem CkOk.pos {l : List De} (h : CkOk l) {d : De} (hd : d ∈ l) : 1 ≤ d.st.no := by
  obtain ⟨i, hi, rfl⟩ := List.getElem_of_mem hd
  have := (h.at2 hi).no
  omega
theorem CkOk.key {l : List De} (h : CkOk l) {d : De} (hd : d ∈ l) : keyL d.st.dept = true := by
  obtain ⟨i, hi, rfl⟩ := List.getElem_of_mem hd
  exact (h.at2 hi).key
theorem CkOk.body {l : List De} (h : CkOk l) {d : De} (hd : d ∈ l) : bodyL d.kind d.paper d.text d.person = 0 := by
  obtain ⟨i, hi, rfl⟩ := List.getElem_of_mem hd
  exact (h.at2 hi).body
theorem CkOk.seen {l : List De} (h : CkOk l) {d : De} (hd : d ∈ l) : SeenOk (l.map (·.st)) d.st.dept d.seen := by
  obtain ⟨i, hi, rfl⟩ := List.getElem_of_mem hd
  exact (h.at2 hi).seen
theorem CkOk.below {l : List De} (h : CkOk l) {d : De} (hd : d ∈ l) {k : Int} (h1 : 1 ≤ k) (h2 : k ≤ d.st.no) : ∃ d' ∈ l, d'.st = ⟨d.st.dept, k⟩ := by
  obtain ⟨i, hi, rfl⟩ := List.getElem_of_mem hd
  have hn := (h.at2 hi).no
  by_cases e : k = l[i].st.no
  · exact ⟨l[i], hd, by rw [e]⟩
  obtain ⟨j, hj, h3, h4, h5⟩ := cnt_ivt l l[i].st.dept i (by omega) (k - 1).toNat (by omega)
  have hn2 := (h.at2 hj).no
  rw [h4, h5] at hn2
  refine ⟨l[j], List.getElem_mem hj, ?_⟩
  have e1 : l[j].st.no = k := by omega
  rw [← h4, ← e1]
theorem keyL_le {s : List UInt8} (h : keyL s = true) : s.length ≤ 20 := by
  unfold keyL at h
  simp only [Bool.and_eq_true, decide_eq_true_eq] at h
  exact h.2.2

/-! ### vectors -/
theorem vecStep_nil (s : St) : vecStep [] s = [s] := by simp [vecStep]
theorem vecStep_snoc (o : List St) (z s : St) : vecStep (o ++ [z]) s = if z.dept = s.dept then o ++ [s] else o ++ [z] ++ [s] := by
  unfold vecStep
  have h1 : (o ++ [z]).length - 1 = o.length := by simp
  rw [h1, getD_end]
  by_cases h : z.dept = s.dept
  · rw [if_pos ⟨by simp, h⟩, if_pos h, set_end]
  · rw [if_neg (fun hh => h hh.2), if_neg h]
structure VecOk (l : List De) (v : List St) : Prop where
  srt : v.Pairwise fun a b => bytesLess a.dept b.dept = true
  mem : ∀ s ∈ v, ∃ d ∈ l, d.st = s
  top : ∀ d ∈ l, ∃ s ∈ v, s.dept = d.st.dept ∧ d.st.no ≤ s.no
theorem VecOk.step {l : List De} {v : List St} (h : VecOk l v) {d : De} (hd : ∀ x ∈ l, stLt x.st d.st) : VecOk (l ++ [d]) (vecStep v d.st) := by
  have hv : ∀ s ∈ v, stLt s d.st := fun s hs => by
    obtain ⟨x, hx, rfl⟩ := h.mem s hs
    exact hd x hx
  have hmem : ∀ {s : St}, s ∈ v ∨ s = d.st → ∃ x ∈ l ++ [d], x.st = s := fun {s} hs => by
    rcases hs with hs | rfl
    · obtain ⟨x, hx, e⟩ := h.mem s hs
      exact ⟨x, List.mem_append_left _ hx, e⟩
    · exact ⟨d, by simp, rfl⟩
  by_cases hn : v = []
  · subst hn
    rw [vecStep_nil]
    refine ⟨List.pairwise_singleton .., fun s hs => hmem (.inr (List.mem_singleton.1 hs)), fun x hx => ?_⟩
    rcases List.mem_append.1 hx with hx | hx
    · obtain ⟨s, hs, _⟩ := h.top x hx
      simp at hs
    · rw [List.mem_singleton.1 hx]
      exact ⟨d.st, by simp, rfl, by omega⟩
  · obtain ⟨o, z, rfl⟩ : ∃ o z, v = o ++ [z] := ⟨v.dropLast, v.getLast hn, (List.dropLast_concat_getLast hn).symm⟩
    obtain ⟨p1, p2, p3⟩ := List.pairwise_append.1 h.srt
    have p4 : ∀ a ∈ o, bytesLess a.dept z.dept = true := fun a ha => p3 a ha z (by simp)
    have hz := hv z (by simp)
    rw [vecStep_snoc]
    by_cases e : z.dept = d.st.dept
    · rw [if_pos e]
      have hzn : z.no < d.st.no := by
        rcases hz with hz | hz
        · rw [e, bl_irrefl] at hz; cases hz
        · exact hz.2
      refine ⟨?_, fun s hs => hmem ?_, fun x hx => ?_⟩
      · rw [List.pairwise_append]
        exact ⟨p1, List.pairwise_singleton .., fun a ha b hb => by rw [List.mem_singleton.1 hb, ← e]; exact p4 a ha⟩
      · rcases List.mem_append.1 hs with hs | hs
        · exact .inl (List.mem_append_left _ hs)
        · exact .inr (List.mem_singleton.1 hs)
      · rcases List.mem_append.1 hx with hx | hx
        · obtain ⟨s, hs, e1, e2⟩ := h.top x hx
          rcases List.mem_append.1 hs with hs | hs
          · exact ⟨s, List.mem_append_left _ hs, e1, e2⟩
          · rw [List.mem_singleton.1 hs] at e1 e2
            exact ⟨d.st, by simp, by rw [← e, e1], by omega⟩
        · rw [List.mem_singleton.1 hx]
          exact ⟨d.st, by simp, rfl, by omega⟩
    · rw [if_neg e]
      have hz2 : bytesLess z.dept d.st.dept = true := by
        rcases hz with hz | hz
        · exact hz
        · exact absurd hz.1 e
      refine ⟨?_, fun s hs => hmem ?_, fun x hx => ?_⟩
      · rw [List.pairwise_append]
        refine ⟨h.srt, List.pairwise_singleton .., fun a ha b hb => ?_⟩
        rw [List.mem_singleton.1 hb]
        rcases List.mem_append.1 ha with ha | ha
        · exact bl_trans _ _ _ (p4 a ha) hz2
        · rw [List.mem_singleton.1 ha]; exact hz2
      · rcases List.mem_append.1 hs with hs | hs
        · exact .inl hs
        · exact .inr (List.mem_singleton.1 hs)
      · rcases List.mem_append.1 hx with hx | hx
        · obtain ⟨s, hs, e1, e2⟩ := h.top x hx
          exact ⟨s, List.mem_append_left _ hs, e1, e2⟩
        · rw [List.mem_singleton.1 hx]
          exact ⟨d.st, by simp, rfl, by omega⟩
theorem vec_ok_to {l : List De} (h : Srt l) : ∀ i, i ≤ l.length → VecOk (l.take i) (vecL (l.take i))
  | 0, _ => ⟨by simp [vecL], by simp [vecL], by simp⟩
  | i + 1, hi => by
    rw [vec_step l i (by omega), List.take_succ_eq_append_getElem (by omega)]
    refine (vec_ok_to h i (by omega)).step fun x hx => ?_
    obtain ⟨j, hj, e⟩ := List.getElem_of_mem hx
    have hj2 : j < i := by simp at hj; omega
    have := List.pairwise_iff_getElem.1 h j i (by omega) (by omega) hj2
    rw [← e]
    simpa using this
theorem vec_ok {l : List De} (h : Srt l) : VecOk l (vecL l) := by
  have := vec_ok_to h l.length (Nat.le_refl _)
  rwa [List.take_length] at this
theorem covers_iff {v : List St} {s : St} : coversL v s = true ↔ ∃ x ∈ v, x.dept = s.dept ∧ s.no ≤ x.no := by
  unfold coversL covP
  rw [List.any_eq_true]
  constructor
  · rintro ⟨x, hx, h⟩
    simp only [Bool.and_eq_true, beq_iff_eq, decide_eq_true_eq] at h
    exact ⟨x, hx, h.1, h.2⟩
  · rintro ⟨x, hx, h1, h2⟩
    exact ⟨x, hx, by simp only [Bool.and_eq_true, beq_iff_eq, decide_eq_true_eq]; exact ⟨h1, h2⟩⟩
/-- the vector of some right deeds is a right Seen among deeds that have them -/
theorem vec_seen {l : List De} {ks : List St} {own : List UInt8} {v : List St} (hk : ∀ d ∈ l, keyL d.st.dept = true) (hv : v.Pairwise fun a b => bytesLess a.dept b.dept = true) (hm : ∀ s ∈ v, ∃ d ∈ l, d.st = s) (ho : ∀ s ∈ v, s.dept ≠ own) (hsub : ∀ d ∈ l, d.st ∈ ks) : SeenOk ks own v := by
  intro i hi
  have hg : v.getD i ⟨[], 0⟩ = v[i] := by simp [List.getD, hi]
  have hmi := List.getElem_mem hi
  obtain ⟨d, hd, e⟩ := hm _ hmi
  unfold seenB
  rw [hg]
  have b1 : keyL v[i].dept = true := by rw [← e]; exact hk d hd
  have b2 : (v[i].dept == own) = false := by simpa using ho _ hmi
  have b3 : v[i] ∈ ks := by rw [← e]; exact hsub d hd
  rw [b1, b2, decide_eq_true b3]
  by_cases h0 : i = 0
  · subst h0; rfl
  · have hg2 : v.getD (i - 1) ⟨[], 0⟩ = v[i - 1] := by simp [List.getD, show i - 1 < v.length by omega]
    have hp := List.pairwise_iff_getElem.1 hv (i - 1) i (by omega) hi (by omega)
    rw [hg2, bl_asymm hp]
    have : (v[i].dept == v[i - 1].dept) = false := by
      rw [beq_eq_false_iff_ne]
      intro e2
      rw [e2, bl_irrefl] at hp
      cases hp
    rw [this]
    simp
end Go.Proofs.YtkomcdohejibmaaGreatDoor
