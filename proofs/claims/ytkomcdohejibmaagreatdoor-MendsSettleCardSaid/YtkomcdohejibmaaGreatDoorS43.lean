/- Lines of texts, and texts of lines. Own work of this seat. -/
import Derived.Test.YtkomcdohejibmaaGreatDoorS42
import Derived.Test.YtkomcdohejibmaaGreatDoorS27
import Derived.Shelf.Strings.OnBuilder
import Derived.Test.YtkomcdohejibmaaGreatDoorS23
import Derived.Test.YtkomcdohejibmaaGreatDoorS19
import Derived.Test.YtkomcdohejibmaaGreatDoorS39
set_option maxRecDepth 100000
set_option linter.unusedSimpArgs false
set_option linter.unusedVariables false
namespace Go.Proofs
open Go.Shelf
theorem Tryz.Builder_Extra_156 : Builder.Extra Tryz.prog Tryz.lays156_ren := {
  sizeBuilder := by kernel_rfl
  liesBuilder := by kernel_rfl
  t5 := Tryz.underlying5
  a5 := Tryz.isAgg5
  z5 := Tryz.sizeOf5
  v5 := Tryz.zeroValue5
  infoByte := by kernel_rfl
  cellsByte := by kernel_rfl
  sizeByte := by kernel_rfl
  neB5 := by decide }
end Go.Proofs
namespace Go.Proofs.YtkomcdohejibmaaGreatDoor
open Go Go.Av Go.RowKit

/-! ### the pieces of a text -/
theorem splitK_le (sep : List UInt8) : ∀ (k : Nat) (s : List UInt8), ∀ x ∈ Lib.splitK sep 0 k s, x.length ≤ s.length
  | 0, s, x, hx => by
    rw [Lib.splitK, List.mem_singleton] at hx
    subst hx
    exact Nat.le_refl _
  | k + 1, s, x, hx => by
    rw [Lib.splitK] at hx
    split at hx
    · rw [List.mem_singleton] at hx
      subst hx
      exact Nat.le_refl _
    · rcases List.mem_cons.1 hx with rfl | hx
      · rw [List.length_take]
        exact Nat.min_le_right ..
      · have := splitK_le sep k _ x hx
        simp only [List.length_drop] at this
        omega
theorem join_len {sep : List UInt8} {m : Nat} : ∀ {ls : List (List UInt8)}, (∀ x ∈ ls, x.length ≤ m) → (Lib.join ls sep).length ≤ ls.length * (m + sep.length)
  | [], _ => by simp [Lib.join]
  | x :: r, h => by
    rw [Lib.join_cons, List.length_append]
    have h1 := h x (by simp)
    have h2 : (Lib.joinTail sep r).length ≤ r.length * (m + sep.length) := by
      unfold Lib.joinTail
      clear h1
      have hr : ∀ y ∈ r, y.length ≤ m := fun y hy => h y (List.mem_cons_of_mem _ hy)
      clear h
      induction r with
      | nil => simp
      | cons y r ih =>
        have := ih fun z hz => hr z (List.mem_cons_of_mem _ hz)
        have h3 := hr y (by simp)
        simp only [List.map_cons, List.flatten_cons, List.length_append, List.length_cons, Nat.add_mul, Nat.one_mul] at this ⊢
        omega
    rw [List.length_cons, Nat.add_mul, Nat.one_mul]
    omega
theorem splitK_bytes (sep : List UInt8) : ∀ (k : Nat) (s : List UInt8), ∀ x ∈ Lib.splitK sep 0 k s, ∀ b ∈ x, b ∈ s
  | 0, s, x, hx, b, hb => by
    rw [Lib.splitK, List.mem_singleton] at hx
    subst hx
    exact hb
  | k + 1, s, x, hx, b, hb => by
    rw [Lib.splitK] at hx
    split at hx
    · rw [List.mem_singleton] at hx
      subst hx
      exact hb
    · rcases List.mem_cons.1 hx with rfl | hx
      · exact List.mem_of_mem_take hb
      · exact List.mem_of_mem_drop (splitK_bytes sep k _ x hx b hb)
theorem trimSuffix_bytes {s p : List UInt8} : ∀ b ∈ Lib.trimSuffix s p, b ∈ s := fun b hb => by
  unfold Lib.trimSuffix at hb
  split at hb
  · exact List.mem_of_mem_take hb
  · exact hb
theorem trimSuffix_len {s p : List UInt8} : (Lib.trimSuffix s p).length ≤ s.length := by
  unfold Lib.trimSuffix
  split
  · simp
  · exact Nat.le_refl _
theorem join_bytes {sep : List UInt8} : ∀ {ls : List (List UInt8)} {b : UInt8}, b ∈ Lib.join ls sep → b ∈ sep ∨ ∃ x ∈ ls, b ∈ x
  | [], b, h => by simp [Lib.join] at h
  | x :: r, b, h => by
    rw [Lib.join_cons, List.mem_append] at h
    rcases h with h | h
    · exact .inr ⟨x, by simp, h⟩
    · unfold Lib.joinTail at h
      rw [List.mem_flatten] at h
      obtain ⟨z, hz, hb⟩ := h
      obtain ⟨y, hy, rfl⟩ := List.mem_map.1 hz
      rcases List.mem_append.1 hb with hb | hb
      · exact .inl hb
      · exact .inr ⟨y, List.mem_cons_of_mem _ hy, hb⟩

theorem trimSuffix_pc (s p : List UInt8) (hs : s.length ≤ 1000000) : Pc Tryz.prog 124 [.str s, .str p] (· = .str (Lib.trimSuffix s p)) :=
  o_pc [_, _] (.string ⟨(Lib.trimSuffix s p).toArray⟩) hB124 (o_two s p) (fun h => .str _)
    fun w => (Any.strings_TrimSuffix Tryz.lays102 ⟨s.toArray⟩ ⟨p.toArray⟩ w (show s.length ≤ _ by omega)).mono fun e w' ⟨h1, h2⟩ => ⟨h1, h2 ▸ .refl w⟩

theorem dsplit_pch {S : Std} (hS : LibD S) (s p : List UInt8) (hs : s.length < 4294967281) (hp : 1 ≤ p.length) : PcH Tryz.prog S 123 [.str s, .str p] (fun r => ∃ ls : List (List UInt8), r = .fz 1 (strs ls) ∧ ls.length ≤ s.length + 1 ∧ ∀ x ∈ ls, x.length ≤ s.length ∧ ∀ b ∈ x, b ∈ s) := by
  refine ⟨hB123, fun h w vs' hg hm hv => ?_⟩
  have := o_two s p h vs' hv
  subst this
  refine (Any.strings_Split Tryz.lays146 (by kernel_rfl) ⟨s.toArray⟩ ⟨p.toArray⟩ _ w hs (hS.cell.choose_spec w hg) hp).mono ?_
  rintro e w' ⟨rfl, rfl⟩
  have hlen := Lib.splitB_all ⟨p.toArray⟩ hp 0 _ ⟨s.toArray⟩ rfl
  have hcl := Lib.countB_le ⟨p.toArray⟩ hp s.length ⟨s.toArray⟩ (Nat.le_refl _)
  have hdat := Lib.splitB_data ⟨p.toArray⟩ 0 (Lib.countB ⟨s.toArray⟩ ⟨p.toArray⟩) ⟨s.toArray⟩
  generalize hL : Lib.splitB ⟨p.toArray⟩ 0 (Lib.countB ⟨s.toArray⟩ ⟨p.toArray⟩) ⟨s.toArray⟩ = L at hlen hdat ⊢
  obtain ⟨sl, hsl⟩ : ∃ sl, sl = L.map (·.data.toList) := ⟨_, rfl⟩
  have hval : L.map Value.string = sl.map sval := by
    rw [hsl, List.map_map]; rfl
  have hll : L.length = sl.length := by rw [hsl]; simp
  rw [hval, ← hlen, hll]
  have h1 : ∀ v ∈ sl.map sval, v.oneCell' = true := by intro v hv; obtain ⟨x, _, rfl⟩ := List.mem_map.1 hv; rfl
  have hmine : Mine h (fun _ => none) [] w := ⟨hm, fun id blk e => by simp at e, fun _ _ => rfl, fun i j g t t' e => by simp at e, fun i g t e => by simp at e⟩
  obtain ⟨m2, l2⟩ := hmine.freezeNew (sl.map sval) 9 h1
  refine ⟨_, _, Mem.add h w.heap.size (sl.map sval), rfl, ⟨sl, rfl, ?_, fun x hx => ?_⟩, m2.mem, l2.hle, fun b o e n => ?_, .alloc w _, ?_⟩
  · rw [← hll, hlen]
    have : (⟨s.toArray⟩ : ByteArray).size = s.length := by simp [ByteArray.size]
    omega
  · rw [hsl, hdat] at hx
    exact ⟨splitK_le _ _ _ x hx, fun b hb => splitK_bytes _ _ _ x hx b hb⟩
  · rcases l2.hnew b o e n with ⟨j, t, hj⟩ | hs
    · cases hj
    · exact hs
  · have := RV.fz (h := Mem.add h w.heap.size (sl.map sval)) (Lf := Lf0) (fl := true) w.heap.size 0 sl.length 1 (strs sl) (sl.map sval) ?_ (by simp [cellsOf]) ?_ (by simp)
    · simpa using this
    · rw [flat_strs]
      generalize Mem.add h w.heap.size (sl.map sval) = hh
      generalize sl = z
      induction z with
      | nil => exact .nil
      | cons x z ih => exact .cons (.str x) ih
    · intro k v hv
      simp only [Mem.add, Nat.zero_add, if_true]
      exact hv

theorem rl_strsT {h : Mem} : ∀ {l : List (List UInt8)} {vs : List Value} {Lf : Value → AV → Prop}, RL h Lf true vs (strs l) → vs = l.map sval
  | [], _, _, r => by cases r; rfl
  | x :: l, _, _, r => by
    cases r with
    | cons r1 r2 =>
      rw [rl_strsT r2]
      cases r1 with
      | str => rfl
theorem djoin_pc (ls : List (List UInt8)) (sep : List UInt8) (h1 : ls.length ≤ 1000000) (h2 : (Lib.join ls sep).length ≤ 140737488355328) : Pc Tryz.prog 74 [.fz 1 (strs ls), .str sep] (· = .str (Lib.join ls sep)) := by
  refine ⟨hB74, fun h w vs' hm hv => ?_⟩
  cases hv with
  | cons r1 r => cases r with
    | cons r2 r =>
      cases r
      rw [o_str r2]
      have hfin : ∀ (u : Value), Calls Tryz.prog 74 #[u, .string ⟨sep.toArray⟩] w (fun e w' => e = .returned (.string ⟨(Lib.join ls sep).toArray⟩) ∧ Below w.heap.size w w') → Calls Tryz.prog 74 [u, .string ⟨sep.toArray⟩].toArray w fun en w' => ∃ v r h', en = .returned v ∧ r = .str (Lib.join ls sep) ∧ (∀ b o v, h' b o = some v → w'.cell? ⟨b, o, none⟩ = some v ∧ v.oneCell' = true) ∧ (∀ b o v, h b o = some v → h' b o = some v) ∧ (∀ b o, h b o = none → h' b o ≠ none → w.heap.size ≤ b) ∧ Same w w' ∧ RV h' Lf0 true v r := fun u hc => by
        refine hc.mono ?_
        rintro e w' ⟨rfl, hs⟩
        have hs : Same w w' := ⟨hs.os, hs.tape, ⟨hs.output, trivial⟩, hs.size, hs.block⟩
        exact ⟨_, _, h, rfl, rfl, fun b o v e => ⟨hs.cell (hm b o v e).1, (hm b o v e).2⟩, fun _ _ _ x => x, fun b o e n => (n e).elim, hs, .str _⟩
      rcases inv_fz (ρ := fun _ => none) (sto := []) (r1.thaw (fun _ _ _ x => x) (fl := false)) with ⟨hl, hu⟩ | ⟨b, o, c, vs, hu, q1, q2, q3, q4⟩
      · have hl : ls = [] := by simpa using hl
        subst hl hu
        exact hfin _ ((Any.strings_Join_none Tryz.lays156 Tryz.Builder_Extra_156 none 0 ⟨sep.toArray⟩ w).mono fun e w' ⟨he, hw⟩ => ⟨he, hw ▸ Below.refl _ _⟩)
      · subst hu
        rw [flat_strs] at q1
        have hvs := rl_strsT q1
        rw [List.length_map] at q4 ⊢
        cases hls : ls with
        | nil =>
          rw [← hls]
          have hz : ls.length = 0 := by rw [hls]; rfl
          rw [hz]
          refine hfin _ ?_
          rw [hls]
          exact (Any.strings_Join_none Tryz.lays156 Tryz.Builder_Extra_156 (some ⟨b, o, none⟩) c ⟨sep.toArray⟩ w).mono fun e w' ⟨he, hw⟩ => ⟨he, hw ▸ Below.refl _ _⟩
        | cons x r =>
          rw [← hls]
          have hcell : ∀ (j : Nat) (y : List UInt8), ls[j]? = some y → w.cell? ⟨b, o + j, none⟩ = some (sval y) := fun j y hy => (hm _ _ _ (q3 j (sval y) (by rw [hvs, List.getElem?_map, hy]; rfl))).1
          have hb : b < w.heap.size := World.block_lt_of_cell? w _ (hcell 0 x (by rw [hls]; rfl))
          have hdl : (ls.map fun s => (⟨s.toArray⟩ : ByteArray)).map (·.data.toList) = ls := by
            rw [List.map_map]
            exact List.map_id ls
          refine hfin _ ?_
          have hj := Any.strings_Join Tryz.lays156 Tryz.Builder_Extra_156 b o c (ls.map fun s => ⟨s.toArray⟩) ⟨sep.toArray⟩ w (fun j y hy => by
            rw [List.getElem?_map] at hy
            cases hq : ls[j]? with
            | none => rw [hq] at hy; cases hy
            | some z =>
              rw [hq] at hy
              cases hy
              exact hcell j z hq) hb (by rw [List.length_map]; omega) (by rw [List.length_map]; exact q4) (by rw [hdl]; exact h2)
          rw [hdl, List.length_map] at hj
          exact hj

/-! ### lines -/
theorem linesOf_pch {S : Std} (hS : LibD S) (t : List UInt8) (ht : t.length ≤ 1000000) : PcH Tryz.prog S 72 [.str t] (fun r => ∃ ls : List (List UInt8), r = .fz 1 (strs ls) ∧ ls.length ≤ t.length + 1 ∧ ∀ x ∈ ls, x.length ≤ t.length ∧ ∀ b ∈ x, b ∈ t) := by
  cases h0 : t == [] with
  | true =>
    refine pch_intro (cth_intro Tryz.func72 rfl Tryz.ntmps72 hB72 (by simp) fun h ρ w hg => goB (N := 8) Tryz.ntmps72 300 ?_)
    simp only [go_sem, h0]
    refine ARet.shift (Shift.nilsl 2 1 rfl) ?_
    refine ARet.shift (Shift.freeze 2 (id := 0) (l := []) rfl rfl rfl (Nat.le_refl _) rfl) ?_
    refine aret [2] rfl ?_
    exact ⟨⟨[], rfl, by simp, fun x hx => by cases hx⟩, rfl⟩
  | false =>
    have h1 := trimSuffix_pc t [10] ht
    have h2 := dsplit_pch hS (Lib.trimSuffix t [10]) [10] (by have := trimSuffix_len (s := t) (p := [10]); omega) (by decide)
    refine pch_intro (cth_intro Tryz.func72 rfl Tryz.ntmps72 hB72 (by simp) fun h ρ w hg => goF (N := 8) Tryz.ntmps72 300 ?_)
    simp only [go_sem, h0]
    refine pcall1 (h1) rfl (N := 8) Tryz.ntmps72 rfl (goF (N := 8) Tryz.ntmps72 300 ?_)
    simp only [go_sem]
    refine pcallH hg (h2) rfl (N := 8) Tryz.ntmps72 rfl ?_
    rintro _ ⟨ls, rfl, hl, hb⟩
    refine goF (N := 8) Tryz.ntmps72 300 ?_
    simp only [go_sem]
    refine aret [2] rfl ⟨⟨ls, rfl, ?_, fun x hx => ⟨Nat.le_trans (hb x hx).1 trimSuffix_len, fun b hb' => trimSuffix_bytes b ((hb x hx).2 b hb')⟩⟩, rfl⟩
    have := trimSuffix_len (s := t) (p := [10])
    omega
end Go.Proofs.YtkomcdohejibmaaGreatDoor
/- Statements whose order is open, in which an append may pass readers of other blocks. Own work of this seat. -/
set_option linter.unusedSimpArgs false
set_option linter.unusedVariables false
set_option linter.unusedSectionVars false
namespace Go.Av
open Go Go.RowKit
variable [Tr]

def isApp : Op → Bool
  | .call c => match c.callee with
    | .builtin .append => true
    | _ => false
  | _ => false
/-- the append is written into a new block, or into this one -/
def appOk (id : Nat) (e : Env) : Op → Bool
  | .call c => match c.args.toList with
    | x :: _ => match ev e x with
      | .sl i _ _ _ => i == id
      | _ => true
    | [] => true
  | _ => true
def cka (id : Nat) (i : Nat) (e : Env) (s : List Blk) (o : Oper) : Prop :=
  (bif isApp o.op then appOk id e o.op = true else True) ∧ (bif reader o.op && !blind o.op then opOk s.length id e o.op = true else True)

theorem xapp_sto {P : Program} {sto s3 : List Blk} {dst src w : AV} {tx td : Option TypeDesc} {p : Prop} (h : xapp P sto dst src tx td = .sto p w s3) :
    (∃ b, s3 = sto ++ [b]) ∨ ∃ i o l c b, dst = .sl i o l c ∧ s3 = sto.set i b := by
  have hB : ∀ {id off len cap sz bytes z L q b}, xappB sto id off len cap sz bytes z L q b = .sto p w s3 → ∃ b', s3 = sto.set id b' := by
    intro id off len cap sz bytes z L q b h
    unfold xappB at h
    split at h
    · cases hc : (len == cap) <;> rw [hc] at h <;> simp only [cond_true, cond_false, Res.sto.injEq] at h <;> exact ⟨_, h.2.2.symm⟩
    · cases h
  unfold xapp at h
  split at h
  · cases h1 : notInt tx <;> rw [h1] at h <;> simp only [cond_true, cond_false] at h
    · cases h2 : isI tx <;> rw [h2] at h <;> simp only [cond_true, cond_false] at h
      · cases h
      · unfold xappZ at h
        split at h
        · simp only [Res.sto.injEq] at h
          exact .inl ⟨_, h.2.2.symm⟩
        · cases h
    · unfold xappS at h
      split at h
      · unfold xappD at h
        split at h
        · simp only [Res.sto.injEq] at h
          exact .inl ⟨_, h.2.2.symm⟩
        · obtain ⟨b', hb⟩ := hB h
          exact .inr ⟨_, _, _, _, b', rfl, hb⟩
        · cases h
      · cases h
  · cases h
theorem Agr.refl {n id : Nat} {s : List Blk} : Agr n id s s := fun _ _ _ => rfl
theorem app_agr {c : Cx} {ops : Array Oper} {s s1 : List Blk} {o : Oper} {cv v : AV} {e : Env} {id : Nat} (ha : isApp o.op = true) (hk : appOk id e o.op = true) (h : Does c ops s o cv e v s1) : Agr s.length id s s1 ∧ s.length ≤ s1.length := by
  have hd : DoesOp c s o cv e v s1 → Agr s.length id s s1 ∧ s.length ≤ s1.length := by
    intro h
    unfold DoesOp at h
    split at h <;> rename_i hq
    · rw [h.2]; exact ⟨Agr.refl, Nat.le_refl _⟩
    · rw [h.2.2]; exact ⟨Agr.refl, Nat.le_refl _⟩
    · obtain ⟨_, _, _, rfl⟩ := h
      cases hop : o.op <;> rw [hop] at ha hk hq <;> try (exfalso; revert ha; simp [isApp]; done)
      rename_i cl
      simp only [isApp] at ha
      split at ha <;> try (cases ha; done)
      rename_i hcl
      simp only [xop, hcl] at hq
      unfold xapp2 at hq
      split at hq
      · rename_i x y t u hx hy
        simp only [appOk, hx] at hk
        rcases xapp_sto hq with ⟨b, rfl⟩ | ⟨i, o', l, cc, b, hdst, rfl⟩
        · exact ⟨Agr.push b, by simp⟩
        · rw [hdst] at hk
          have : i = id := by simpa using hk
          subst this
          exact ⟨Agr.set b, by simp⟩
      · cases hq
    · rw [h.2]; exact ⟨Agr.refl, Nat.le_refl _⟩
    · rw [h.2.2.2]; exact ⟨Agr.refl, Nat.le_refl _⟩
    · exact h.elim
  unfold Does at h
  split at h
  · exact hd h
  · split at h
    · rcases h with ⟨_, h⟩ | ⟨_, _, rfl⟩
      · exact hd h
      · exact ⟨Agr.refl, Nat.le_refl _⟩
    · exact h.elim
theorem appOk_agree {id : Nat} {e e' : Env} {op : Op} (h : ∀ x ∈ op.operands, ev e x = ev e' x) : appOk id e op = appOk id e' op := by
  unfold appOk
  cases op <;> try rfl
  rename_i c
  simp only
  cases hc : c.args.toList with
  | nil => rfl
  | cons x r =>
    have hm : x ∈ (Op.call c).operands := by
      have : x ∈ c.args := by
        rw [← Array.mem_toList_iff, hc]; simp
      simp only [Op.operands, Go.Call.operands]
      split <;> simp [this]
    simp only [h x hm]
theorem cka_agree {id i : Nat} {e e' : Env} {s s' : List Blk} {o : Oper} (h : ∀ x ∈ o.op.operands, ev e x = ev e' x) (hs : s.length ≤ s'.length) (hp : cka id i e s o) : cka id i e' s' o := by
  refine ⟨?_, ?_⟩
  · rw [← appOk_agree h]; exact hp.1
  · have h2 := hp.2
    cases hb : (reader o.op && !blind o.op) with
    | false => trivial
    | true =>
      rw [hb] at h2
      simp only [cond_true] at h2 ⊢
      rw [← opOk_agree h]
      exact opOk_mono hs h2

def ChA (c : Cx) (ops : Array Oper) (id : Nat) (K : Env → List Blk → Prop) : List Nat → Env → List Blk → Prop
  | [], e, s => K e s
  | i :: r, e, s => match ops[i]? with
    | some o => cka id i e s o ∧ ∃ cv v s', Does c ops s o cv e v s' ∧ ChA c ops id K r (put e o.dst v) s'
    | none => False
def okAp (ops : List Oper) (j i : Nat) : Bool := match ops[j]?, ops[i]? with
  | some oj, some oi => oj.apart ops.toArray oi && (together oj oi || (reader oj.op && isApp oi.op))
  | _, _ => false
section
variable {cx : Cx} {ops : Array Oper} {K : Env → List Blk → Prop} {id : Nat}
theorem ChA.congr (hK : ∀ e e' s, Eqv e e' → K e s → K e' s) : ∀ {l : List Nat} {e e' : Env} {s : List Blk}, Eqv e e' → ChA cx ops id K l e s → ChA cx ops id K l e' s
  | [], e, e', s, h, c => hK e e' s h c
  | i :: r, e, e', s, h, c => by
    unfold ChA at c ⊢
    split at c
    · rename_i o ho
      obtain ⟨h0, cv, v, s', h1, h2⟩ := c
      exact ⟨cka_agree (fun x _ => ev_agree fun t _ => h t) (Nat.le_refl _) h0, cv, v, s', h1.agree fun t _ => h t, ChA.congr hK (h.put _ _) h2⟩
    · exact c.elim
theorem ChA.swap {opl : List Oper} (hops : ops = opl.toArray) (hK : ∀ e e' s, Eqv e e' → K e s → K e' s) {i j : Nat} {r : List Nat} (hok : okAp opl j i = true) {e : Env} {s : List Blk} (c : ChA cx ops id K (j :: i :: r) e s) :
    ChA cx ops id K (i :: j :: r) e s := by
  unfold okAp at hok
  split at hok
  rotate_left
  · cases hok
  rename_i oj oi hj' hi'
  have hj : ops[j]? = some oj := by rw [hops]; simpa using hj'
  have hi : ops[i]? = some oi := by rw [hops]; simpa using hi'
  simp only [Bool.and_eq_true, Bool.or_eq_true] at hok
  obtain ⟨ha, hok⟩ := hok
  rw [← hops] at ha
  obtain ⟨a1, a2, a3⟩ := Oper.apart_spec ha
  simp only [ChA, hj, hi] at c ⊢
  obtain ⟨pj, cv, v, s1, h1, pi, cu, u, s2, h2, h3⟩ := c
  have gi : ∀ (e : Env) (v : AV), Agree ops oi (put e oj.dst v) e := fun e v t ht => by
    rw [get_put, if_neg]; intro h; exact a1 t h ht
  have gj : ∀ (e : Env) (v : AV), Agree ops oj e (put e oi.dst v) := fun e v t ht => by
    rw [get_put, if_neg]; intro h; exact a3 t h ht
  have h2' : Does cx ops s1 oi cu e u s2 := h2.agree (gi e v)
  have h1' : ∀ {z z'}, Does cx ops z oj cv e v z' → Does cx ops z oj cv (put e oi.dst u) v z' := fun hd => hd.agree (gj e u)
  have h3' := ChA.congr hK (put_swap a2) h3
  have pi' : ∀ s', s1.length ≤ s'.length → cka id i e s' oi := fun s' hs => cka_agree (agree_ops (gi e v)) hs pi
  have pj' : ∀ s', s.length ≤ s'.length → cka id j (put e oi.dst u) s' oj := fun s' hs => cka_agree (agree_ops (gj e u)) hs pj
  have bj : blind oj.op = true → ∀ s', cka id j (put e oi.dst u) s' oj := fun hb s' => ⟨(pj' s (Nat.le_refl _)).1, by simp [hb]⟩
  have bi : blind oi.op = true → ∀ s', cka id i e s' oi := fun hb s' => ⟨(pi' s1 (Nat.le_refl _)).1, by simp [hb]⟩
  rcases hok with hok | hok
  · simp only [together, Bool.or_eq_true, Bool.and_eq_true] at hok
    rcases hok with (⟨c1, c2⟩ | c1) | c1
    · have e1 := h1.calm c1
      subst e1
      have e2 := h2.calm c2
      subst e2
      exact ⟨pi' _ (Nat.le_refl _), cu, u, _, h2', pj' _ (Nat.le_refl _), cv, v, _, h1' h1, h3'⟩
    · have e1 := h1.calm (blind_calm c1)
      subst e1
      exact ⟨pi' _ (Nat.le_refl _), cu, u, _, h2', bj c1 _, cv, v, _, h1' (h1.blind c1), h3'⟩
    · have e2 := h2.calm (blind_calm c1)
      subst e2
      exact ⟨bi c1 _, cu, u, _, h2'.blind c1, pj' _ (Nat.le_refl _), cv, v, _, h1' h1, h3'⟩
  · obtain ⟨hr, hap⟩ := hok
    have e1 := h1.calm (reader_calm hr)
    subst e1
    have pis := pi' _ (Nat.le_refl _)
    have hk : appOk id e oi.op = true := by have := pis.1; rw [hap] at this; exact this
    obtain ⟨hag, hle⟩ := app_agr hap hk h2'
    have ok0 : blind oj.op = false → opOk s1.length id e oj.op = true := fun hb => by have := pj.2; rw [hr, hb] at this; exact this
    exact ⟨pis, cu, u, _, h2', pj' _ hle, cv, v, _, h1' (does_reader hr ok0 hag h1).2, h3'⟩
theorem ChA.front {opl : List Oper} (hops : ops = opl.toArray) (hK : ∀ e e' s, Eqv e e' → K e s → K e' s) {i : Nat} {r : List Nat} : ∀ {l : List Nat} {e : Env} {s : List Blk}, (∀ j ∈ l, okAp opl j i = true) →
    ChA cx ops id K (l ++ i :: r) e s → ChA cx ops id K (i :: (l ++ r)) e s
  | [], _, _, _, c => c
  | j :: l, e, s, h, c => by
    refine ChA.swap hops hK (h j (by simp)) ?_
    simp only [List.cons_append, ChA] at c ⊢
    split at c
    · rename_i o ho
      obtain ⟨h0, cv, v, s', h1, h2⟩ := c
      exact ⟨h0, cv, v, s', h1, ChA.front hops hK (fun k hk => h k (by simp [hk])) h2⟩
    · exact c.elim
end
section
variable {c : Cx} {k : List It} {e : Env} {s : List Blk}
theorem chA_of_dxg {all : List Oper} {id : Nat} : ∀ {r : List Oper} {m n : Nat} {cs : List AV} {e : Env} {s : List Blk}, (∀ (j : Nat), r[j]? = all[m + j]?) → all.length = m + r.length → dxg c all (cka id) k n r cs e s → ChA c all.toArray id (fun e s => AWp c k e s) (List.range' m r.length) e s
  | [], m, n, cs, e, s, _, _, h => by
    rw [dxg] at h
    exact h
  | o :: r, m, n, cs, e, s, hr, hlen, h => by
    obtain ⟨h0, cv, v, n', cs', s', h1, h2⟩ := dxg_step h
    have hat : all.toArray[m]? = some o := by have := hr 0; simpa using this.symm
    have hix : rix all (o :: r) = m := by unfold rix; omega
    rw [hix] at h0
    simp only [List.length_cons, List.range'_succ, ChA, hat]
    exact ⟨h0, cv, v, s', h1, chA_of_dxg (fun j => by have := hr (j + 1); simpa [Nat.add_assoc, Nat.add_comm 1 j] using this) (by simp at hlen; omega) h2⟩
/-- A STATEMENT WHOSE ORDER IS OPEN, with an append into a new block or into the block 'bid'. -/
theorem adrawA (bid : Nat) (cs : List AV) {id : Nat} {ops : List Oper} (hm : c.P.follows .mixedOrders = true) (hok : drawOkG (okAp ops) ops = true) {N : Nat} (hN : c.fn.ntmps = N) (hdst : ops.all (fun o => dOk N o.dst) = true) (n : Nat)
    (h : dxg c ops (cka bid) k n ops cs e s) : AWp c (.code (.region id ops.toArray true) :: k) e s := by
  intro a w hsim
  have hch := chA_of_dxg (m := 0) (by intro j; simp) (by simp) h
  rw [← List.range_eq_range'] at hch
  refine wp_region_any hm ?_
  have hsim' : Sim c e s a { w with drawn := w.drawn + 1 } := by
    obtain ⟨hh, ρ, hmm, hl, he, hdf, hsz, hX⟩ := hsim
    have sm : Same w { w with drawn := w.drawn + 1 } := Same.drew w
    exact ⟨hh, ρ, hmm.same sm, hl.trans (Later.same sm), he, hdf, hsz, c.hx.later hmm (Later.same sm) hX⟩
  have hd : ∀ o ∈ ops, dOk c.fn.ntmps o.dst = true := fun o ho => by rw [hN]; exact (List.all_eq_true.1 hdst) o ho
  refine any_of_gen (okp := okAp ops) (ChA c ops.toArray bid (fun e s => AWp c k e s)) hok (fun e s x => x) (fun l i r e s hj x => ChA.front rfl AWp.K hj x)
    (fun i o r e s a w Kc ho x hs hK => ?_)
    ops.length (Array.replicate ops.length false) (List.range ops.length) e s a _ (by simp) ?_ (by simp) ?_ hch hsim'
  · have ho' : ops.toArray[i]? = some o := by simpa using ho
    simp only [ChA, ho'] at x
    obtain ⟨_, cv, v, s', h1, h2⟩ := x
    exact does_wp hs (hd o (List.mem_of_getElem? ho)) h1 fun a w hs' => hK _ _ a w h2 hs'
  · symm
    rw [List.filter_eq_self]
    intro i hi
    simp at hi
    simp [hi]
  · intro i hi j hj
    exfalso
    by_cases h1 : i < ops.length
    · simp [h1] at hi
    · unfold waits at hj
      have : ops[i]? = none := by simp; omega
      simp [this] at hj
end
end Go.Av
/- MayOf (begun). Own work of this seat. -/
set_option maxRecDepth 100000
set_option linter.unusedSimpArgs false
set_option linter.unusedVariables false
namespace Go.Proofs.YtkomcdohejibmaaGreatDoor
open Go Go.Av Go.RowKit

/-- a group of deeds: whose, in which block -/
structure Gr where
  key : List UInt8
  at' : Nat
  ds : List De
def gM (gs : List Gr) : List (AV × AV) := gs.map fun g => (.str g.key, .sl (g.at' + 1) 0 g.ds.length g.ds.length)
structure GOk (l : List De) (n : Nat) (gs : List Gr) (S : List Blk) : Prop where
  blk : ∀ g ∈ gs, S[g.at']? = some (.arr 7 (g.ds.map deA))
  sub : ∀ g ∈ gs, ∀ d ∈ g.ds, d ∈ l
  len : ∀ g ∈ gs, g.ds.length ≤ n
  ne : gs.Pairwise fun x y => x.at' ≠ y.at'
theorem gM_find (k : List UInt8) : ∀ (gs : List Gr) (n : Nat), mfind .string (.str k) (gM gs) n = some none ∨ ∃ i g, mfind .string (.str k) (gM gs) n = some (some (n + i, .sl (g.at' + 1) 0 g.ds.length g.ds.length)) ∧ gs[i]? = some g ∧ g.key = k
  | [], n => .inl rfl
  | g :: r, n => by
    simp only [gM, List.map_cons, mfind, keyEq]
    cases hb : k == g.key with
    | true =>
      refine .inr ⟨0, g, by simp, by simp, ?_⟩
      have : k = g.key := by simpa using hb
      exact this.symm
    | false =>
      rcases gM_find k r (n + 1) with h | ⟨i, g', h1, h2, h3⟩
      · exact .inl h
      · refine .inr ⟨i + 1, g', ?_, by simpa using h2, h3⟩
        simp only
        rw [show n + (i + 1) = n + 1 + i by omega]
        exact h1
end Go.Proofs.YtkomcdohejibmaaGreatDoor
/- MayOf's first loop (begun). Own work of this seat. -/
set_option maxRecDepth 100000
set_option linter.unusedSimpArgs false
set_option linter.unusedVariables false
namespace Go.Proofs.YtkomcdohejibmaaGreatDoor
open Go Go.Av Go.RowKit

theorem GOk.lt {l : List De} {n : Nat} {gs : List Gr} {S : List Blk} (h : GOk l n gs S) {g : Gr} (hg : g ∈ gs) : g.at' < S.length := (List.getElem?_eq_some_iff.1 (h.blk g hg)).1
theorem GOk.weak {l : List De} {n : Nat} {gs : List Gr} {S : List Blk} (h : GOk l n gs S) (x : Blk) : GOk l (n + 1) gs (S ++ [x]) :=
  ⟨fun g hg => by rw [List.getElem?_append_left (h.lt hg)]; exact h.blk g hg, h.sub, fun g hg => Nat.le_succ_of_le (h.len g hg), h.ne⟩
theorem GOk.push {l : List De} {n : Nat} {gs : List Gr} {S : List Blk} (h : GOk l n gs S) (x : Blk) (k : List UInt8) {d : De} (hd : d ∈ l) : GOk l (n + 1) (gs ++ [⟨k, S.length + 1, [d]⟩]) (S ++ [x] ++ [.arr 7 [deA d]]) := by
  refine ⟨fun g hg => ?_, fun g hg => ?_, fun g hg => ?_, ?_⟩
  · rcases List.mem_append.1 hg with hg | hg
    · rw [List.getElem?_append_left (by have := h.lt hg; simp; omega), List.getElem?_append_left (h.lt hg)]; exact h.blk g hg
    · rw [List.mem_singleton.1 hg]; simp
  · rcases List.mem_append.1 hg with hg | hg
    · exact h.sub g hg
    · rw [List.mem_singleton.1 hg]; intro y hy; rw [List.mem_singleton.1 hy]; exact hd
  · rcases List.mem_append.1 hg with hg | hg
    · exact Nat.le_succ_of_le (h.len g hg)
    · rw [List.mem_singleton.1 hg]; simp
  · rw [List.pairwise_append]
    exact ⟨h.ne, List.pairwise_singleton .., fun a ha b hb => by rw [List.mem_singleton.1 hb]; have := h.lt ha; simp only; omega⟩
theorem GOk.put {l : List De} {n : Nat} {gs : List Gr} {S : List Blk} (h : GOk l n gs S) (x : Blk) {i : Nat} {g : Gr} (hi : gs[i]? = some g) {d : De} (hd : d ∈ l) :
    GOk l (n + 1) (gs.set i ⟨g.key, g.at', g.ds ++ [d]⟩) ((S ++ [x]).set g.at' (.arr 7 ((g.ds ++ [d]).map deA))) := by
  obtain ⟨hil, hgi⟩ := List.getElem?_eq_some_iff.1 hi
  have hgm : g ∈ gs := List.mem_of_getElem? hi
  have key : ∀ y ∈ gs.set i ⟨g.key, g.at', g.ds ++ [d]⟩, y = ⟨g.key, g.at', g.ds ++ [d]⟩ ∨ (y ∈ gs ∧ y.at' ≠ g.at') := by
    intro y hy
    obtain ⟨j, hj, rfl⟩ := List.getElem_of_mem hy
    rw [List.length_set] at hj
    by_cases hij : j = i
    · subst hij; left; simp
    · right
      rw [List.getElem_set_ne (Ne.symm hij)]
      refine ⟨List.getElem_mem _, ?_⟩
      rcases Nat.lt_or_gt_of_ne hij with hlt | hlt
      · have hx := List.pairwise_iff_getElem.1 h.ne j i hj hil hlt
        rw [hgi] at hx
        exact hx
      · have hx := List.pairwise_iff_getElem.1 h.ne i j hil hj hlt
        rw [hgi] at hx
        exact Ne.symm hx
  refine ⟨fun y hy => ?_, fun y hy => ?_, fun y hy => ?_, ?_⟩
  · rcases key y hy with rfl | ⟨h1, h2⟩
    · simp only
      rw [List.getElem?_set_self (by have := h.lt hgm; simp; omega)]
    · rw [List.getElem?_set_ne (Ne.symm h2), List.getElem?_append_left (h.lt h1)]
      exact h.blk y h1
  · rcases key y hy with rfl | ⟨h1, _⟩
    · intro z hz
      rcases List.mem_append.1 hz with hz | hz
      · exact h.sub g hgm z hz
      · rw [List.mem_singleton.1 hz]; exact hd
    · exact h.sub y h1
  · rcases key y hy with rfl | ⟨h1, _⟩
    · have := h.len g hgm; simp; omega
    · exact Nat.le_succ_of_le (h.len y h1)
  · rw [List.pairwise_iff_getElem]
    intro a b ha hb hab
    rw [List.length_set] at ha hb
    have hat : ∀ (t : Nat) (ht : t < gs.length), ((gs.set i ⟨g.key, g.at', g.ds ++ [d]⟩)[t]'(by simpa using ht)).at' = gs[t].at' := by
      intro t ht
      by_cases hti : t = i
      · subst hti; simp [hgi]
      · rw [List.getElem_set_ne (Ne.symm hti)]
    rw [hat a ha, hat b hb]
    exact List.pairwise_iff_getElem.1 h.ne a b ha hb hab
theorem gM_push (gs : List Gr) (g : Gr) : gM gs ++ [(.str g.key, .sl (g.at' + 1) 0 g.ds.length g.ds.length)] = gM (gs ++ [g]) := by simp [gM]
theorem gM_set (gs : List Gr) (i : Nat) (g : Gr) : (gM gs).set i (.str g.key, .sl (g.at' + 1) 0 g.ds.length g.ds.length) = gM (gs.set i g) := by
  unfold gM; rw [List.map_set]
end Go.Proofs.YtkomcdohejibmaaGreatDoor
