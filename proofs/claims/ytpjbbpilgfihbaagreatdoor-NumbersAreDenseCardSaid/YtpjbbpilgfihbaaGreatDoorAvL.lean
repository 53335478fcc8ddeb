/- Slices: cuts, makes, appends, copies. Own work of this seat. -/
import Derived.Test.YtpjbbpilgfihbaaGreatDoorAvG
import Derived.Deep.AppendSrc
set_option linter.unusedSimpArgs false
set_option linter.unusedVariables false
namespace Go.Av
open Go Go.RowKit

section
variable {h : Mem} {ρ : Own} {sto : List Blk} {w : World} {P : Program}

theorem splice_eq (l : List AV) (k : Nat) (vs : List AV) : splice' l k vs = splice l k vs := rfl

/-- what is read of a source: its cells, at whatever world with this heap -/
def SrcOk (P : Program) (h : Mem) (ρ : Own) (sto : List Blk) (w : World) (sz : Nat) (v : Value) (L : List AV) : Prop :=
  ∃ cells : List Value, (∀ w' : World, (Builtin.lenOf v).run P w' = .ok L.length w') ∧ (∀ w' : World, w'.heap = w.heap → ∀ k, k ≤ L.length → (Builtin.firstCells sz k v).run P w' = .ok (cells.take (k * sz)).toArray w') ∧
    RL h (Lf ρ sto) false cells (flat L) ∧ (∀ x ∈ L, (cellsOf x).length = sz) ∧ (∀ v ∈ cells, v.oneCell' = true)

theorem firstCells_at {w' : World} {sz k b o len cap : Nat} {cells : List Value} (hk : k * sz ≤ cells.length) (hc : ∀ (j : Nat) v, cells[j]? = some v → w'.cell? ⟨b, o + j, none⟩ = some v) :
    (Builtin.firstCells sz k (.slice (some ⟨b, o, none⟩) len cap)).run P w' = .ok (cells.take (k * sz)).toArray w' := by
  have := run_firstCells_some (P := P) w' sz k ⟨b, o, none⟩ len cap (cells.take (k * sz)) (by simp; omega) (fun j v hj => by
    rw [Addr.add_mid]
    rw [List.getElem?_take] at hj
    split at hj
    · exact hc j v hj
    · simp at hj)
  exact this

theorem cell_heap {w w' : World} (hh : w'.heap = w.heap) (a : Addr) : w'.cell? a = w.cell? a := by simp [World.cell?, hh]

theorem flat_bytes : ∀ s : List UInt8, flat (s.map byteAV) = s.map byteAV
  | [] => rfl
  | b :: s => by simp only [List.map_cons, flat]; rw [flat_bytes s]; rfl

theorem src_ok (m : Mine h ρ sto w) {sz : Nat} {v : Value} {x : AV} {L : List AV} {p : Prop} (hs : srcOf sto sz x = some (L, p)) (hp : p) (r : RV h (Lf ρ sto) false v x) : SrcOk P h ρ sto w sz v L := by
  unfold srcOf at hs
  split at hs
  · rename_i e l
    simp only [Option.some.injEq, Prod.mk.injEq] at hs
    obtain ⟨rfl, rfl⟩ := hs
    subst hp
    rcases inv_fz r with ⟨rfl, rfl⟩ | ⟨b, o, c, vs, rfl, h2, h3, h4, h5⟩
    · refine ⟨[], fun w' => by simp [Builtin.lenOf], fun w' _ k hk => ?_, .nil, by simp, by simp⟩
      simp [Builtin.firstCells]
    · have hl := flat_length h3
      have hvl := h2.length
      refine ⟨vs, fun w' => by simp [Builtin.lenOf], fun w' hw k hk => ?_, h2.thaw (fun _ _ _ x => x), h3, ?_⟩
      · have : k * e ≤ l.length * e := Nat.mul_le_mul_right _ hk
        exact firstCells_at (by omega) (fun j v hj => by rw [cell_heap hw]; exact (m.mem b _ v (h4 j v hj)).1)
      · intro v hv
        obtain ⟨j, hj, rfl⟩ := List.mem_iff_getElem.1 hv
        exact (m.mem b _ _ (h4 j _ (by simp [hj]))).2
  · rename_i id off n cap
    unfold srcB at hs
    split at hs
    · rename_i e l hb
      simp only [Option.some.injEq, Prod.mk.injEq] at hs
      obtain ⟨rfl, rfl⟩ := hs
      obtain ⟨he, hcap, hn⟩ := hp
      have hso := sto_get hb
      have hl := (inv_sl r).2
      simp only [LfC, hso] at hl
      rcases hl.2 hcap with ⟨h6, _, a, rfl⟩ | ⟨g, tot, h5, rfl, h7⟩
      · subst h6
        generalize at0 a = a at r ⊢
        refine ⟨[], fun w' => by simp [Builtin.lenOf], fun w' _ k hk => ?_, by simpa [flat] using RL.nil, by simp, by simp⟩
        have : k = 0 := by simpa using hk
        subst this
        cases a <;> simp [Builtin.firstCells, loadCells, loadCellsFrom]
      · rcases m.own id _ hso with ⟨_, hno⟩ | ⟨g', tot', cur, t, h3, h4, h5', h6, h7', h8, h9, h10, h11⟩
        · simp [hno] at h5
        · rw [h3] at h5
          simp only [Option.some.injEq, Prod.mk.injEq] at h5
          obtain ⟨rfl, rfl⟩ := h5
          have hes : e = sz ∨ l = [] := he
          have hfd := flat_drop h9 off
          have hft := flat_take (l := l.drop off) (esz := e) (fun x hx => h9 x (List.mem_of_mem_drop hx)) n
          have hr : RL h (Lf ρ sto) false (((cur.toList.take (l.length * e)).drop (off * e)).take (n * e)) (flat ((l.drop off).take n)) := by
            rw [← hft, ← hfd]; exact (h11.drop _).take _
          have hlen : ((l.drop off).take n).length = n := by simp; omega
          have hcells : ∀ x ∈ (l.drop off).take n, (cellsOf x).length = e := fun x hx => h9 x (List.mem_of_mem_drop (List.mem_of_mem_take hx))
          have hvl := hr.length
          have hfl := flat_length hcells
          rw [hlen] at hfl
          have hall : ∀ (j : Nat) v, (((cur.toList.take (l.length * e)).drop (off * e)).take (n * e))[j]? = some v → w.cell? ⟨g', off * e + j, none⟩ = some v := by
            intro j v hj
            rw [h4.cell]
            rw [List.getElem?_take] at hj
            split at hj
            · rw [List.getElem?_drop, List.getElem?_take] at hj
              split at hj
              · simpa using hj
              · simp at hj
            · simp at hj
          have hone : ∀ v ∈ ((cur.toList.take (l.length * e)).drop (off * e)).take (n * e), v.oneCell' = true := fun v hv => h10 v (List.mem_of_mem_take (List.mem_of_mem_drop (List.mem_of_mem_take hv)))
          rcases hes with rfl | hnil
          · refine ⟨_, fun w' => by rw [hlen]; simp [Builtin.lenOf], fun w' hw k hk => ?_, hr, hcells, hone⟩
            rw [hlen] at hk
            have : k * e ≤ n * e := Nat.mul_le_mul_right _ hk
            exact firstCells_at (by omega) (fun j v hj => by rw [cell_heap hw]; exact hall j v hj)
          · subst hnil
            have hn0 : n = 0 := by simp at hcap; omega
            subst hn0
            refine ⟨[], fun w' => by simp [Builtin.lenOf], fun w' hw k hk => ?_, by simpa [flat] using RL.nil, by simp, by simp⟩
            have : k = 0 := by simpa using hk
            subst this
            simp [Builtin.firstCells, loadCells, loadCellsFrom]
    · simp at hs
  · simp only [Option.some.injEq, Prod.mk.injEq] at hs
    obtain ⟨rfl, rfl⟩ := hs
    rw [inv_raw r]
    exact ⟨[], fun w' => by simp [Builtin.lenOf], fun w' _ k hk => by simp [Builtin.firstCells], .nil, by simp, by simp⟩
  · rename_i s
    simp only [Option.some.injEq, Prod.mk.injEq] at hs
    obtain ⟨rfl, rfl⟩ := hs
    subst hp
    rw [inv_str r]
    have hflat : flat (s.map byteAV) = s.map byteAV := flat_bytes s
    refine ⟨s.map fun b => .int .u8 b.toNat, fun w' => ?_, fun w' _ k hk => ?_, ?_, ?_, ?_⟩
    · have : (ByteArray.mk s.toArray).size = s.length := rfl
      simp [Builtin.lenOf, this]
    · simp only [Builtin.firstCells, Nat.mul_one, Sem.run_pure]
      congr 1
      have : ((ByteArray.mk s.toArray).extract 0 k).data = (s.take k).toArray := by
        simp [ByteArray.data_extract, List.extract]
      rw [this]
      simp [List.map_take]
    · rw [hflat]
      refine RL.of_get (by simp) fun k v a h1 h2 => ?_
      simp only [List.getElem?_map] at h1 h2
      cases hq : s[k]? with
      | none => simp [hq] at h1
      | some b => simp [hq] at h1 h2; subst h1; subst h2; exact .int _ _
    · intro x hx; simp at hx; obtain ⟨b, _, rfl⟩ := hx; rfl
    · intro v hv; simp at hv; obtain ⟨b, _, rfl⟩ := hv; rfl
  · simp at hs

theorem sz_info {el : TypeId} (hp : 0 < tsize P el) : ∃ i, P.info? el = some i ∧ i.size = tsize P el ∧ i.bytes = tbytes P el := by
  cases hi : P.info? el with
  | none => simp [tsize, hi] at hp
  | some i => exact ⟨i, rfl, by simp [tsize, hi], by simp [tbytes, hi]⟩

theorem zero_info {el : TypeId} (hp : 0 < tsize P el) (hz : (zav P el).length = tsize P el) : ∃ i z, P.info? el = some i ∧ i.size = tsize P el ∧ i.bytes = tbytes P el ∧ i.zero = some z ∧ zcells P el = z.cells.toList ∧ z.cells.size = tsize P el := by
  obtain ⟨i, hi, h1, h2⟩ := sz_info hp
  cases hq : i.zero with
  | none => simp [zav, zcells, hi, hq] at hz; omega
  | some z =>
    have hc : zcells P el = z.cells.toList := by simp [zcells, hi, hq]
    refine ⟨i, z, hi, h1, h2, hq, hc, ?_⟩
    have : (zcells P el).length = tsize P el := by simpa [zav] using hz
    rw [hc] at this; simpa using this

theorem SrcOk.src {sz : Nat} {tx : TypeId} {v : Value} {L : List AV} (hu : notInt (P.underlying tx) = true) (s : SrcOk P h ρ sto w sz v L) :
    ∃ cells, Src P sz tx v L.length cells w ∧ RL h (Lf ρ sto) false cells (flat L) ∧ (∀ x ∈ L, (cellsOf x).length = sz) ∧ (∀ v ∈ cells, v.oneCell' = true) := by
  obtain ⟨cells, h1, h2, h3, h4, h5⟩ := s
  have hl : cells.length = L.length * sz := by rw [h3.length, flat_length h4]
  have ht : cells.take (L.length * sz) = cells := by rw [← hl, List.take_length]
  refine ⟨cells, ⟨?_, h1, ?_, ?_, hl, h5⟩, h3, h4, h5⟩
  · unfold notInt at hu
    split at hu
    · rename_i hq; exact .inl ⟨_, hq⟩
    · rename_i hq; exact .inr hq
    · cases hu
  · rw [h2 w rfl _ (Nat.le_refl _), ht]
  · rw [h2 w.drew rfl _ (Nat.le_refl _), ht]

/-- append where there is room -/
theorem append_room {t tx ty el : TypeId} (ht : P.underlying t = some (.slice el)) (hp : 0 < tsize P el) {g o sLen sCap : Nat} {cur : Array Value} {tt : TypeId}
    (hg : HRow w g cur tt) {src : Value} {n : Nat} {cells : List Value} (hs : Src P (tsize P el) tx src n cells w) (hroom : sLen + n ≤ sCap) (hfit : o + (sLen + n) * tsize P el ≤ cur.size) :
    (Builtin.append_ #[t, tx] ty #[.slice (some ⟨g, o, none⟩) sLen sCap, src]).run P w = .ok (.slice (some ⟨g, o, none⟩) (sLen + n) sCap) (w.setRow g (splice cur.toList (o + sLen * tsize P el) cells).toArray) := by
  obtain ⟨i, hi, his, hib⟩ := sz_info hp
  rw [Nat.add_mul] at hfit
  have hst := run_storeCells_row P g (o + sLen * tsize P el) tt cells 0 cur w hg (by rw [Nat.add_zero, hs.newsLen]; omega) hs.one
  simp only [Nat.add_zero] at hst
  have hadd : (⟨g, o, none⟩ : Addr).add (sLen * tsize P el) = ⟨g, o + sLen * tsize P el, none⟩ := Addr.add_mid _ _ _
  rcases hs.kind with ⟨e', hk⟩ | hk <;> simp [Builtin.append_, run_underlying ht, run_underlying hk, sizeOf, typeInfo, hi, his, hs.len, hroom, hs.cells, hadd, hst, splice]
/-- append of nothing to nothing -/
theorem append_none {t tx ty el : TypeId} (ht : P.underlying t = some (.slice el)) (hp : 0 < tsize P el) {a : Option Addr} {src : Value} {cells : List Value} (hs : Src P (tsize P el) tx src 0 cells w) :
    (Builtin.append_ #[t, tx] ty #[.slice a 0 0, src]).run P w = .ok (.slice a 0 0) w := by
  obtain ⟨i, hi, his, hib⟩ := sz_info hp
  have hnil : cells = [] := List.eq_nil_of_length_eq_zero (by simpa using hs.newsLen)
  have hc := hs.cells
  subst hnil
  cases a <;> rcases hs.kind with ⟨e', hk⟩ | hk <;> simp [Builtin.append_, run_underlying ht, run_underlying hk, sizeOf, typeInfo, hi, his, hs.len, hc, storeCells]

theorem one_rep {z : Array Value} (h1 : ∀ v ∈ z.toList, v.oneCell' = true) (h0 : 0 < z.size) (n : Nat) : ∀ v ∈ (Builtin.zeroCells z n).toList, v.oneCell' = true := by
  intro v hv
  simp only [Builtin.zeroCells, Array.toList_map, List.mem_map] at hv
  obtain ⟨i, _, rfl⟩ := hv
  have hlt : i % z.size < z.size := Nat.mod_lt _ h0
  apply h1
  rw [getElem!_pos z _ hlt]
  exact Array.getElem_mem_toList hlt

/-- append where there is none: a new row -/
theorem append_grow {t tx ty el : TypeId} (ht : P.underlying t = some (.slice el)) (hp : 0 < tsize P el) (hz : (zav P el).length = tsize P el) (hone : (zav P el).all one = true) {base : Option Addr} {sLen sCap : Nat} {olds : List Value}
    (hold : (Builtin.firstCells (tsize P el) sLen (.slice base sLen sCap)).run P w.drew = .ok olds.toArray w.drew) {src : Value} {n : Nat} {cells : List Value} (hs : Src P (tsize P el) tx src n cells w) (hg : sCap < sLen + n)
    (hol : olds.length = sLen * tsize P el) (h1 : ∀ v ∈ olds, v.oneCell' = true) (hb : (sLen + n) * tbytes P el ≤ 140737488355328) (hm : sLen + n ≤ 9223372036854775807) :
    ∃ tot cur, (Builtin.append_ #[t, tx] ty #[.slice base sLen sCap, src]).run P w = .ok (.slice (some ⟨w.heap.size, 0, none⟩) (sLen + n) tot) (w.drew.alloc (.cells cur el)) ∧
      cur.size = tot * tsize P el ∧ sLen + n ≤ tot ∧ tot ≤ maxLen ∧ (∀ v ∈ cur.toList, v.oneCell' = true) ∧ cur.toList.take ((sLen + n) * tsize P el) = olds ++ cells := by
  obtain ⟨i, z, hi, his, hib, hiz, hzc, hzs⟩ := zero_info hp hz
  have hr := run_append_grow_src (P := P) w t tx ty el i z ht hi hiz base sLen sCap olds (by rw [his]; exact hold) src n cells (by rw [his]; exact hs) hg (by omega) (by rw [hib]; exact growslice_fits hg hb)
  have hge := grownCap_ge w (sLen + n) sCap el
  have hcm : grownCap w (sLen + n) sCap el ≤ maxLen := grownCap_le_maxLen w (sLen + n) sCap el (by simpa [maxLen] using hm)
  have hll : (olds ++ cells).length = (sLen + n) * tsize P el := by rw [List.length_append, hol, hs.newsLen, Nat.add_mul]
  refine ⟨_, _, hr, ?_, hge, hcm, ?_, ?_⟩
  · simp only [Array.size_append, List.size_toArray, hll, size_zeroCells, hzs, ← Nat.add_mul]
    congr 1; omega
  · intro v hv
    simp only [Array.toList_append, List.mem_append] at hv
    rcases hv with (hv | hv) | hv
    · exact h1 v hv
    · exact hs.one v hv
    · refine one_rep ?_ (by omega) _ v hv
      intro u hu
      rw [← hzc] at hu
      have hr : RL (fun _ _ => none) (Lf (fun _ => none) []) false (zcells P el) (zav P el) := consts_ok _
      exact all_one hr hone u hu
  · simp only [Array.toList_append, ← hll, List.take_left]

end
end Go.Av
