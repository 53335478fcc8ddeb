/- Writes in place: append over a block's places, copy. Own work of this seat. -/
import Derived.Test.YtkfpiadgjbhcpaaGreatDoorT7
set_option linter.unusedSimpArgs false
set_option linter.unusedVariables false
set_option linter.unusedSectionVars false
namespace Go.Av
open Go Go.RowKit
variable [Tr]

section
variable {h : Mem} {ρ : Own} {sto : List Blk} {w : World} {P : Program}

theorem flat_splice' {e : Nat} {l L : List AV} (hl : ∀ x ∈ l, (cellsOf x).length = e) (hL : ∀ x ∈ L, (cellsOf x).length = e) (k : Nat) : flat (splice' l k L) = splice (flat l) (k * e) (flat L) := by
  unfold splice' splice
  rw [flat_append, flat_append, flat_take hl, flat_length hL, ← Nat.add_mul, flat_drop hl]

theorem splice'_length {l L : List AV} {k : Nat} (hk : k + L.length ≤ l.length) : (splice' l k L).length = l.length := splice_length hk

theorem splice_ok (m : Mine h ρ sto w) {id e : Nat} {l L : List AV} (hb : sto[id]? = some (.arr e l)) {g tot : Nat} {cur : Array Value} {tt : TypeId} (h3 : ρ id = some (g, tot)) (h4 : HRow w g cur tt)
    (h5 : cur.size = tot * e) (h6 : l.length ≤ tot) (h7 : tot ≤ maxLen) (h8 : 0 < e) (h9 : ∀ x ∈ l, (cellsOf x).length = e) (h10 : ∀ v ∈ cur.toList, v.oneCell' = true) (h11 : RL h (Lf ρ sto) false (cur.toList.take (l.length * e)) (flat l))
    {cells : List Value} (hrl : RL h (Lf ρ sto) false cells (flat L)) (hsz : ∀ x ∈ L, (cellsOf x).length = e) (hone : ∀ v ∈ cells, v.oneCell' = true) {k : Nat} (hk : k + L.length ≤ l.length) :
    Mine h ρ (sto.set id (.arr e (splice' l k L))) (w.setRow g (splice cur.toList (k * e) cells).toArray) ∧ Later h ρ sto w h ρ (sto.set id (.arr e (splice' l k L))) (w.setRow g (splice cur.toList (k * e) cells).toArray) := by
  have hcl : cells.length = L.length * e := by rw [hrl.length, flat_length hsz]
  have hlen := splice'_length hk
  have hcurl : cur.toList.length = tot * e := by simp [h5]
  have hle : l.length * e ≤ tot * e := Nat.mul_le_mul_right _ h6
  have hke : (k + L.length) * e ≤ l.length * e := Nat.mul_le_mul_right _ hk
  rw [Nat.add_mul] at hke
  have hspl : (splice cur.toList (k * e) cells).length = cur.size := by
    rw [splice_length (by rw [hcl, hcurl]; omega)]; simp
  have hw := h4.set (cs := (splice cur.toList (k * e) cells).toArray) (by simp [hspl])
  refine m.write (w' := w.setRow g (splice cur.toList (k * e) cells).toArray) hb h3 (b' := .arr e (splice' l k L)) (.inl ⟨rfl, hlen⟩) rfl rfl ⟨rfl, Tr.same rfl⟩ (by simp) (fun k' hk' => setRow_other w g k' _ hk') ?_
  refine .inr ⟨g, tot, _, tt, h3, hw, by simp [hspl, h5], by rw [hlen]; exact h6, h7, h8, ?_, ?_, ?_⟩
  · intro y hy
    simp only [splice', List.mem_append] at hy
    rcases hy with (hy | hy) | hy
    · exact h9 y (List.mem_of_mem_take hy)
    · exact hsz y hy
    · exact h9 y (List.mem_of_mem_drop hy)
  · intro y hy
    simp only [List.toList_toArray, splice, List.mem_append] at hy
    rcases hy with (hy | hy) | hy
    · exact h10 y (List.mem_of_mem_take hy)
    · exact hone y hy
    · exact h10 y (List.mem_of_mem_drop hy)
  · rw [hlen, flat_splice' h9 hsz]
    have e1 : (splice cur.toList (k * e) cells).take (l.length * e) = splice (cur.toList.take (l.length * e)) (k * e) cells := by
      apply List.ext_getElem?
      intro i
      rw [List.getElem?_take, splice_get (by rw [hcl, hcurl]; omega), splice_get (by rw [List.length_take, hcurl, Nat.min_eq_left hle, hcl]; omega)]
      simp only [List.getElem?_take]
      by_cases hi : i < l.length * e
      · simp [hi]
      · have : ¬ i < k * e := by omega
        have h2' : ¬ i < k * e + cells.length := by rw [hcl]; omega
        simp only [hi, this, h2', if_false]
    simp only [List.toList_toArray]
    rw [e1]
    exact (h11.splice hrl _).mono (fun _ _ _ x => x) (fun v a lf => ⟨lf.1, LfC_set hb (fun _ _ => rfl) (Or.inl ⟨rfl, hlen, rfl⟩ : (_ ∧ _ ∧ _) ∨ _) lf.2⟩)

section
variable {t tx ty el : TypeId} {src : Value} {cells : List Value} {L : List AV} {r : Result Next}

/-- append over places of a block -/
theorem appMid_ok (m : Mine h ρ sto w) (ht : P.underlying t = some (.slice el)) (hs : Src P (tsize P el) tx src L.length cells w) (hrl : RL h (Lf ρ sto) false cells (flat L)) (hsz : ∀ x ∈ L, (cellsOf x).length = tsize P el)
    {dst : Value} {id off len cap : Nat} {l : List AV} (hb : sto[id]? = some (.arr (tsize P el) l)) (hd : LfC ρ sto dst (.sl id off len cap))
    (hr : r = ((Builtin.append_ #[t, tx] ty #[dst, src]).run P w).andThen fun v w' => .ok (.value v) w') (hp : 0 < tsize P el) (hne : len ≠ cap) (hcap : off + cap = l.length) (hroom : len + L.length ≤ cap) :
    Okv h ρ sto w r (.sl id off (len + L.length) cap) (sto.set id (.arr (tsize P el) (splice' l (off + len) L))) := by
  have hid := (List.getElem?_eq_some_iff.1 hb).1
  simp only [LfC, hb] at hd
  rcases hd.2 hcap with ⟨h5, h6, _⟩ | ⟨g, tot, h5, rfl, h7⟩
  · omega
  · rcases m.own id _ hb with ⟨_, hno⟩ | ⟨g', tot', cur, tt, h3, h4, h5', h6, h7', h8, h9, h10, h11⟩
    · simp [hno] at h5
    · rw [h3] at h5
      simp only [Option.some.injEq, Prod.mk.injEq] at h5
      obtain ⟨rfl, rfl⟩ := h5
      have hle : (off + (len + L.length)) * tsize P el ≤ tot' * tsize P el := Nat.mul_le_mul_right _ (by omega)
      rw [Nat.add_mul] at hle
      rw [append_room (ty := ty) ht hp h4 hs (by omega) (by rw [h5']; exact hle), ← Nat.add_mul] at hr
      have hm := splice_ok m hb h3 h4 h5' h6 h7' h8 h9 h10 h11 hrl hsz hs.one (k := off + len) (by omega)
      refine ⟨_, _, _, _, .inl hr, hm.1, hm.2, .leaf ⟨rfl, ?_⟩⟩
      have hlen : (splice' l (off + len) L).length = l.length := splice'_length (by omega)
      simp only [LfC, List.getElem?_set_self hid, hlen]
      exact ⟨by omega, fun _ => .inr ⟨g', tot', h3, rfl, hroom⟩⟩
end

theorem appZ_run {t tx ty el : TypeId} {k : IntKind} (ht : P.underlying t = some (.slice el)) (hk : P.underlying tx = some (.int k)) (hp : 0 < tsize P el) (hz : (zav P el).length = tsize P el) {n : Nat} (hn : 0 < n)
    (hb : n * tbytes P el ≤ 140737488355328) (hm : n ≤ 9223372036854775807) : ∃ z : Value, P.info? el ≠ none ∧ zcells P el = z.cells.toList ∧ z.cells.size = tsize P el ∧ n ≤ grownCap w n 0 el ∧ grownCap w n 0 el ≤ maxLen ∧
    (Builtin.append_ #[t, tx] ty #[.slice none 0 0, .int .i64 n]).run P w = .ok (.slice (some ⟨w.heap.size, 0, none⟩) n (grownCap w n 0 el)) (w.drew.alloc (.cells (Builtin.zeroCells z.cells n ++ Builtin.zeroCells z.cells (grownCap w n 0 el - n)) el)) := by
  obtain ⟨i, z, hi, his, hib, hiz, hzc, hzs⟩ := zero_info hp hz
  have hge := grownCap_ge w n 0 el
  have hcm : grownCap w n 0 el ≤ maxLen := grownCap_le_maxLen w n 0 el (by simpa [maxLen] using hm)
  refine ⟨z, by simp [hi], hzc, hzs, hge, hcm, ?_⟩
  have hw : IntKind.i64.wrap (n : Int) = n := wrap_inr (k := .i64) ⟨by omega, by omega⟩
  have h0 : ¬ ((n : Int) < 0) := by omega
  have hb' : ¬ (281474976710656 < (n : Int) * (i.bytes : Int)) := by
    rw [hib]
    have : (n : Int) * (tbytes P el : Int) = ((n * tbytes P el : Nat) : Int) := by simp
    omega
  have hn0 : n ≠ 0 := by omega
  have hsz : ¬ (n * i.size = 0) := by rw [his]; exact Nat.ne_of_gt (Nat.mul_pos hn hp)
  have h63 : ¬ (9223372036854775807 < (n : Int)) := by omega
  have hfit := growslice_fits (need := n) (old := 0) (bytes := tbytes P el) (by omega) hb
  have h48 : ¬ (281474976710656 < Builtin.nextslicecap n 0 * i.bytes) := by rw [hib]; omega
  have hle : ¬ (n ≤ 0) := by omega
  simp [Builtin.append_, run_underlying ht, run_underlying hk, sizeOf, typeInfo, zeroValue, hi, hiz, asInt, asIntOf, hw, h0, hb', hle, hn0, h63, h48, hsz, Question.forced, newRow, grownCap, Builtin.firstCells]
theorem zelem_cells {row : Bool} {z : List AV} {sz : Nat} (hz : z.length = sz) (hr : row = false → sz = 1) (h1 : z.all one = true) : cellsOf (zelem row z) = z := by
  cases row with
  | true => rfl
  | false =>
    have := hr rfl
    match z, (by omega : z.length = 1) with
    | [y], _ =>
      simp at h1
      exact cellsOf_one h1

theorem flat_rep {x : AV} {z : List AV} (hx : cellsOf x = z) : ∀ n, flat (List.replicate n x) = rep z n
  | 0 => rfl
  | n + 1 => by rw [List.replicate_succ]; simp only [flat, rep, hx, flat_rep hx n]

theorem rep_take {z : List AV} (n c : Nat) (hnc : n ≤ c) : (rep z c).take (n * z.length) = rep z n := by
  obtain ⟨d, rfl⟩ := Nat.exists_eq_add_of_le hnc
  induction n with
  | zero => simp [rep]
  | succ n ih =>
    rw [show n + 1 + d = (n + d) + 1 by omega]
    simp only [rep]
    rw [show (n + 1) * z.length = z.length + n * z.length by rw [Nat.succ_mul]; omega, List.take_length_add_append, ih (by omega)]

theorem appZ_ok {t tx ty el : TypeId} {row : Bool} (m : Mine h ρ sto w) (ht : P.underlying t = some (.slice el)) (hk : isI (P.underlying tx) = true) {r : Result Next} {n : Int}
    (hr : r = ((Builtin.append_ #[t, tx] ty #[.slice none 0 0, .int .i64 n]).run P w).andThen fun v w' => .ok (.value v) w') (hp : 0 < tsize P el) (hz : (zav P el).length = tsize P el) (hrow : row = false → tsize P el = 1) (hone : (zav P el).all one = true)
    (h0 : 0 ≤ n) (hb : n * tbytes P el ≤ 140737488355328) (hm : n ≤ 9223372036854775807) : Okv h ρ sto w r (.sl sto.length 0 n.toNat n.toNat) (sto ++ [.arr (tsize P el) (List.replicate n.toNat (zelem row (zav P el)))]) := by
  obtain ⟨k, hk⟩ : ∃ k, P.underlying tx = some (.int k) := by
    unfold isI at hk
    split at hk
    · rename_i k hq; exact ⟨k, hq⟩
    · cases hk
  obtain ⟨n, rfl⟩ := Int.eq_ofNat_of_zero_le h0
  simp only [Int.toNat_natCast]
  by_cases hn : n = 0
  · subst hn
    obtain ⟨i, z, hi, his, hib, hiz, hzc, hzs⟩ := zero_info hp hz
    have hrun : (Builtin.append_ #[t, tx] ty #[.slice none 0 0, .int .i64 0]).run P w = .ok (.slice none 0 0) w := by
      have hw : IntKind.i64.wrap 0 = 0 := by decide
      simp [Builtin.append_, run_underlying ht, run_underlying hk, sizeOf, typeInfo, hi, asInt, asIntOf, hw]
    rw [show ((0 : Nat) : Int) = 0 from rfl, hrun] at hr
    obtain ⟨m1, l1⟩ := m.pushNil (tsize P el)
    exact ⟨_, _, _, _, .inl hr, m1, l1, .leaf ⟨rfl, by simp only [LfC, List.replicate_zero, List.getElem?_concat_length]; exact ⟨by simp, fun _ => .inl ⟨trivial, trivial, none, rfl⟩⟩⟩⟩
  · have hb' : n * tbytes P el ≤ 140737488355328 := by
      have : (n : Int) * (tbytes P el : Int) = ((n * tbytes P el : Nat) : Int) := by simp
      omega
    obtain ⟨z, hi, hzc, hzs, hge, hcm, hrun⟩ := appZ_run (w := w) (ty := ty) ht hk hp hz (n := n) (by omega) hb' (by omega)
    rw [hrun] at hr
    generalize grownCap w n 0 el = tot at *
    have hzl : z.cells.toList.length = tsize P el := by simpa using hzs
    have hz0 : ∀ k, RL h (Lf ρ sto) false (Builtin.zeroCells z.cells k).toList (rep (zav P el) k) := by
      intro k
      have := zeros_ok (h := h) (ρ := ρ) (sto := sto) (z := z.cells.toList) (fl := false) k (by omega)
      rw [hzl] at this
      unfold Builtin.zeroCells zav
      rw [hzc, hzs]
      simpa using this
    have hone0 : ∀ k, ∀ v ∈ (Builtin.zeroCells z.cells k).toList, v.oneCell' = true := by
      intro k
      refine one_rep ?_ (by omega) k
      intro u hu
      rw [← hzc] at hu
      have hr : RL (fun _ _ => none) (Lf (fun _ => none) []) false (zcells P el) (zav P el) := consts_ok _
      exact all_one hr hone u hu
    have hzel := zelem_cells (row := row) hz hrow hone
    have hlen : ∀ k, (Builtin.zeroCells z.cells k).toList.length = k * tsize P el := by intro k; simp [Builtin.zeroCells, hzs]
    have m0 := m.same (Same.drew w)
    have hm' := m0.push (.cells (Builtin.zeroCells z.cells n ++ Builtin.zeroCells z.cells (tot - n)) el) (.arr (tsize P el) (List.replicate n (zelem row (zav P el)))) (some tot) (by
      refine .inr ⟨w.heap.size, tot, _, el, by simp [upd], .of (heap_alloc_new w.drew _), ?_, by simpa using hge, hcm, hp, ?_, ?_, ?_⟩
      · have h1 := hlen n
        have h2 := hlen (tot - n)
        simp only [Array.length_toList] at h1 h2
        rw [Array.size_append, h1, h2, ← Nat.add_mul]
        congr 1; omega
      · intro x hx
        rw [List.eq_of_mem_replicate hx, hzel, hz]
      · intro v hv
        rw [Array.toList_append, List.mem_append] at hv
        rcases hv with hv | hv
        · exact hone0 _ v hv
        · exact hone0 _ v hv
      · rw [flat_rep hzel, List.length_replicate, Array.toList_append, ← hlen n, List.take_left]
        exact (hz0 n).mono (fun _ _ _ x => x) (fun _ _ => Lf_push))
    refine ⟨_, _, _, _, .inl hr, hm'.1, (Later.same (Same.drew w)).trans hm'.2, .leaf ⟨rfl, ?_⟩⟩
    simp [LfC, upd]
theorem cap_ok {c : Call} (hf : c.callee = .builtin .cap) {o : Oper} {e : Env} {a : Act} (ho : o.op = .call c) (m : Mine h ρ sto w) (he : EnvOk h ρ sto e a) :
    Res.Sound P h ρ sto w ((execOp a.eval o).run P w) (xcap2 P e c.args.toList c.argTypes.toList) := by
  have hrun : (execOp a.eval o).run P w = ((Builtin.cap_ c.argTypes o.type (c.args.map a.eval)).run P w).andThen fun v w' => .ok (.value v) w' := by
    simp [execOp, ho, resolve, hf, invoke, builtin]
  rw [hrun]
  unfold xcap2
  split
  · rename_i x xs t ts h1 h2
    have hx := ev_ok he x
    have e1 : (c.args.map a.eval)[0]? = some (a.eval x) := by
      rw [← Array.getElem?_toList, Array.toList_map, h1]; rfl
    have e2 : c.argTypes[0]? = some t := by rw [← Array.getElem?_toList, h2]; rfl
    generalize a.eval x = u at *
    unfold xcap
    split
    · rename_i el hd hv
      rw [hv] at hx
      refine okv_pure m (u := .int .i64 0) ?_ (.int _ _)
      simp [Builtin.cap_, e1, e2, run_underlying hd, inv_raw hx, goInt]
    · trivial
  · trivial
theorem append_ok {c : Call} (hf : c.callee = .builtin .append) {o : Oper} {e : Env} {a : Act} (ho : o.op = .call c) (m : Mine h ρ sto w) (he : EnvOk h ρ sto e a) :
    Res.Sound P h ρ sto w ((execOp a.eval o).run P w) (xapp2 P e sto c.args.toList c.argTypes.toList) := by
  have hrun : (execOp a.eval o).run P w = ((Builtin.append_ c.argTypes o.type (c.args.map a.eval)).run P w).andThen fun v w' => .ok (.value v) w' := by
    simp [execOp, ho, resolve, hf, invoke, builtin]
  unfold xapp2
  split
  · rename_i x y t u h1 h2
    have hx := ev_ok he x
    have hy := ev_ok he y
    have e1 : c.args.map a.eval = #[a.eval x, a.eval y] := by
      apply Array.ext'; rw [Array.toList_map, h1]; rfl
    have e2 : c.argTypes = #[t, u] := by apply Array.ext'; rw [h2]
    rw [e1, e2] at hrun
    generalize a.eval x = vx at *
    generalize a.eval y = vy at *
    generalize hr : (execOp a.eval o).run P w = r at *
    unfold xapp
    split
    · rename_i el ht
      cases hu : notInt (P.underlying u) with
      | false =>
        simp only [cond_false]
        cases hu2 : isI (P.underlying u) with
        | false => trivial
        | true =>
          simp only [cond_true]
          unfold xappZ
          split
          · rename_i n hv1 hv2
            rw [hv1] at hx
            rw [hv2] at hy
            have e1 := inv_raw hx
            have e2 := inv_int hy
            subst e1 e2
            intro ⟨h0, h3, h4, h5, h6, h7, h8⟩
            exact appZ_ok m ht hu2 hrun h0 h3 h4 h5 h6 h7 h8
          · trivial
      | true =>
        simp only [cond_true]
        unfold xappS
        split
        · rename_i L p hs
          have key : p → ∃ cells, Src P (tsize P el) u vy L.length cells w ∧ RL h (Lf ρ sto) false cells (flat L) ∧ (∀ x ∈ L, (cellsOf x).length = tsize P el) := fun hp => by
            obtain ⟨cells, k1, k2, k3, _⟩ := (src_ok (P := P) m hs hp hy).src hu
            exact ⟨cells, k1, k2, k3⟩
          unfold xappD
          split
          · rename_i hv
            rw [hv] at hx
            have := inv_raw hx
            subst this
            intro ⟨hp, h0, h3, h4, h5, h6⟩
            obtain ⟨cells, k1, k2, k3⟩ := key hp
            exact appNil_ok m ht k1 k2 k3 hrun h0 h3 h4 h5 h6
          · rename_i id off len cap hv
            rw [hv] at hx
            have hl := (inv_sl hx).2
            unfold xappB
            split
            · rename_i ee l hb
              have hb' := sto_get hb
              cases hq : len == cap with
              | true =>
                simp only [cond_true]
                intro ⟨hp, h0, h3, h4, h5, h6, h7, h8, h9⟩
                have hlc : len = cap := by simpa using hq
                subst hlc h5 h6
                obtain ⟨cells, k1, k2, k3⟩ := key hp
                exact appTop_ok m ht k1 k2 k3 hb' hl hrun h0 h3 h4 h7 h8 h9
              | false =>
                simp only [cond_false]
                intro ⟨hp, h0, h3, h4, h5⟩
                subst h3
                obtain ⟨cells, k1, k2, k3⟩ := key hp
                exact appMid_ok m ht k1 k2 k3 hb' hl hrun h0 (by simpa using hq) h4 h5
            · trivial
          · trivial
        · trivial
    · trivial
  · trivial

theorem copy_ok {c : Call} (hf : c.callee = .builtin .copy) {o : Oper} {e : Env} {a : Act} (ho : o.op = .call c) (m : Mine h ρ sto w) (he : EnvOk h ρ sto e a) :
    Res.Sound P h ρ sto w ((execOp a.eval o).run P w) (xcopy2 P e sto c.args.toList c.argTypes.toList) := by
  have hrun : (execOp a.eval o).run P w = ((Builtin.copy_ c.argTypes o.type (c.args.map a.eval)).run P w).andThen fun v w' => .ok (.value v) w' := by
    simp [execOp, ho, resolve, hf, invoke, builtin]
  unfold xcopy2
  split
  · rename_i x y t u h1 h2
    have hx := ev_ok he x
    have hy := ev_ok he y
    have e1 : c.args.map a.eval = #[a.eval x, a.eval y] := by
      apply Array.ext'; rw [Array.toList_map, h1]; rfl
    have e2 : c.argTypes = #[t, u] := by apply Array.ext'; rw [h2]
    rw [e1, e2] at hrun
    generalize a.eval x = vx at *
    generalize a.eval y = vy at *
    generalize hr : (execOp a.eval o).run P w = r at *
    split
    · rename_i el ht
      unfold xcopyS
      split
      · rename_i L p hs
        split
        · rename_i id off len cap hv
          rw [hv] at hx
          have hl := (inv_sl hx).2
          unfold xcopyB
          split
          · rename_i ee l hb
            have hb' := sto_get hb
            intro ⟨hp, h0, h3, h4, h5⟩
            subst h3
            obtain ⟨cells, k1, k2, k3, k4, k5⟩ := src_ok (P := P) m hs hp hy
            have hid := (List.getElem?_eq_some_iff.1 hb').1
            simp only [LfC, hb'] at hl
            have hsize : (sizeOf el).run P w = .ok (tsize P el) w := sizeOf_run' h0 w
            have hmin : Nat.min L.length len ≤ L.length := Nat.min_le_left _ _
            have hcells := k2 w rfl (Nat.min L.length len) hmin
            have hcl : cells.length = L.length * tsize P el := by rw [k3.length, flat_length k4]
            rcases hl.2 h4 with ⟨h6, h5', ad, rfl⟩ | ⟨g, tot, h5', rfl, h7⟩
            · subst h6
              have hst : splice' l off (L.take 0) = l := by simp [splice']
              rw [hst, set_same hb']
              refine ⟨.int .i64 (min L.length 0 : Nat), _, _, _, .inl ?_, m, .refl .., .int _ _⟩
              simp at hcells
              generalize at0 ad = ad at hrun ⊢
              cases ad <;> simp [hrun, Builtin.copy_, run_underlying ht, k1, hsize, hcells, goInt, storeCells]
            · rcases m.own id _ hb' with ⟨_, hno⟩ | ⟨g', tot', cur, tt, j3, j4, j5, j6, j7, j8, j9, j10, j11⟩
              · simp [hno] at h5'
              · rw [j3] at h5'
                simp only [Option.some.injEq, Prod.mk.injEq] at h5'
                obtain ⟨rfl, rfl⟩ := h5'
                have hL : (L.take len).length = min L.length len := by simp [Nat.min_comm]
                have hrl2 : RL h (Lf ρ sto) false (cells.take (Nat.min L.length len * tsize P el)) (flat (L.take len)) := by
                  have : L.take len = L.take (Nat.min L.length len) := by
                    rcases Nat.le_total L.length len with hh | hh
                    · rw [show Nat.min L.length len = L.length from Nat.min_eq_left hh, List.take_length, List.take_of_length_le hh]
                    · rw [show Nat.min L.length len = len from Nat.min_eq_right hh]
                  rw [this, ← flat_take k4]
                  exact k3.take _
                have hcl2 : (cells.take (Nat.min L.length len * tsize P el)).length = min L.length len * tsize P el := by
                  rw [hrl2.length, flat_length (fun x hx => k4 x (List.mem_of_mem_take hx)), hL]
                have hle : (off + min L.length len) * tsize P el ≤ tot' * tsize P el := Nat.mul_le_mul_right _ (by omega)
                rw [Nat.add_mul] at hle
                have hone : ∀ v ∈ cells.take (Nat.min L.length len * tsize P el), v.oneCell' = true := fun v hv => k5 v (List.mem_of_mem_take hv)
                have hst := run_storeCells_row P g' (off * tsize P el) tt (cells.take (Nat.min L.length len * tsize P el)) 0 cur w j4 (by rw [Nat.add_zero, hcl2, j5]; exact hle) hone
                simp only [Nat.add_zero] at hst
                have hm := splice_ok m hb' j3 j4 j5 j6 j7 j8 j9 j10 j11 hrl2 (fun x hx => k4 x (List.mem_of_mem_take hx)) hone (k := off) (by rw [hL]; omega)
                refine ⟨.int .i64 (min L.length len : Nat), _, _, _, .inl ?_, hm.1, hm.2, .int _ _⟩
                rw [hrun]
                simp only [Builtin.copy_, List.getElem?_toArray, List.getElem?_cons_zero, List.getElem?_cons_succ, Sem.run_bind, run_underlying ht, Result.andThen_ok, k1, hsize, hcells, Sem.run_pure, goInt, hst, List.toList_toArray]
                rfl
          · trivial
        · trivial
      · trivial
    · trivial
  · trivial
end
end Go.Av
