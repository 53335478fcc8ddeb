/- A strings.Builder beside the table: its two blocks are nobody's; what it holds is said of the world. Own work of this seat. -/
import Derived.Test.YtpjbbpilgfihbaaGreatDoorAvZ
import Derived.Lib.Builder
import Derived.Lib.AppendStr
import Derived.Lib.UnsafeStr
import Derived.Below
set_option linter.unusedSimpArgs false
set_option linter.unusedVariables false
namespace Go.Av
open Go Go.RowKit

/-- all stands but block b and, where there is one, block r -/
structure Fr (w w' : World) (b : Nat) (r : Option Nat) : Prop where
  os : w'.os = w.os
  tape : w'.tape = w.tape
  output : w'.output = w.output
  size : w.heap.size ≤ w'.heap.size
  block : ∀ k, k < w.heap.size → k ≠ b → some k ≠ r → w'.heap[k]? = w.heap[k]?

def Lone (h : Mem) (ρ : Own) (b : Nat) : Prop := (∀ i t, ρ i ≠ some (b, t)) ∧ ∀ o, h b o = none
def rowOf (w : World) (b : Nat) : Option Nat := (w.cell? ⟨b, 1, none⟩).bind Value.ownBlock

/-- the builder's block b holds these bytes -/
def BldA (T e : TypeId) (B b : Nat) (l : List UInt8) (h : Mem) (ρ : Own) (w : World) : Prop :=
  Lib.IsBuilder T e B b (Lib.byteCells l) w ∧ Lone h ρ b ∧ ∀ r, rowOf w b = some r → Lone h ρ r

section
variable {h h' : Mem} {ρ ρ' : Own} {sto sto' : List Blk} {w w' : World} {T e : TypeId} {B b : Nat} {l : List UInt8}

theorem Lone.later (m : Mine h ρ sto w) (x : Later h ρ sto w h' ρ' sto' w') {k : Nat} (hk : k < w.heap.size) (a : Lone h ρ k) : Lone h' ρ' k := by
  refine ⟨fun i t hi => ?_, fun o => ?_⟩
  · rcases x.newown i k t hi with ⟨j, t', hj⟩ | hs
    · exact a.1 j t' hj
    · omega
  · cases hq : h' k o with
    | none => rfl
    | some v =>
      rcases x.hnew k o (a.2 o) (by simp [hq]) with ⟨j, t', hj⟩ | hs
      · exact (a.1 j t' hj).elim
      · omega

/-- what a builder is, taken apart -/
theorem bld_parts (hb : Lib.IsBuilder T e B b (Lib.byteCells l) w) : ∃ p v, (p = .pointer none ∨ p = .pointer (some ⟨b, 0, none⟩)) ∧ B ≤ b ∧ w.heap[b]? = some (.cells #[p, v] T (0, 0)) ∧ w.ownsRow B e 1 v (Lib.byteCells l).length (Lib.byteCells l) ∧ v.ownBlock ≠ some b ∧
    rowOf w b = v.ownBlock := by
  rcases hb with ⟨h1, v, h2, h3, h4⟩ | ⟨h1, v, h2, h3, h4⟩
  · exact ⟨_, v, .inl rfl, h1, h2, h3, h4, by simp [rowOf, World.cell?, h2]⟩
  · exact ⟨_, v, .inr rfl, h1, h2, h3, h4, by simp [rowOf, World.cell?, h2]⟩

theorem bld_of {p v : Value} (hp : p = .pointer none ∨ p = .pointer (some ⟨b, 0, none⟩)) (h1 : B ≤ b) (h2 : w.heap[b]? = some (.cells #[p, v] T (0, 0))) (h3 : w.ownsRow B e 1 v (Lib.byteCells l).length (Lib.byteCells l)) (h4 : v.ownBlock ≠ some b) :
    Lib.IsBuilder T e B b (Lib.byteCells l) w := by
  rcases hp with rfl | rfl
  · exact .inl ⟨h1, v, h2, h3, h4⟩
  · exact .inr ⟨h1, v, h2, h3, h4⟩

theorem ownsRow_same {v : Value} {n : Nat} {xs : List Value} (hr : ∀ k, v.ownBlock = some k → w'.heap[k]? = w.heap[k]?) (x : w.ownsRow B e 1 v n xs) : w'.ownsRow B e 1 v n xs := by
  refine ⟨x.1, ?_⟩
  rcases x.2 with h | ⟨g, cap, cur, rfl, h2, h3, h4⟩
  · exact .inl h
  · exact .inr ⟨g, cap, cur, rfl, h2, (hr g rfl).trans h3, h4⟩

theorem bld_stb (T e : TypeId) (B b : Nat) (l : List UInt8) : Stb (BldA T e B b l) where
  later := by
    rintro h ρ sto w h' ρ' sto' w' m x ⟨h1, h2, h3⟩
    obtain ⟨p, v, p1, p2, p3, p4, p5, p6⟩ := bld_parts h1
    have hb : b < w.heap.size := (Array.getElem?_eq_some_iff.1 p3).1
    have hrow : ∀ k, v.ownBlock = some k → k < w.heap.size ∧ Lone h ρ k := fun k hk => ⟨(p4.lt k hk).2, h3 k (by rw [p6]; exact hk)⟩
    have e1 : w'.heap[b]? = w.heap[b]? := x.block b hb h2.1
    have e2 : ∀ k, v.ownBlock = some k → w'.heap[k]? = w.heap[k]? := fun k hk => x.block k (hrow k hk).1 (hrow k hk).2.1
    have p3' := e1.trans p3
    refine ⟨bld_of p1 p2 p3' (ownsRow_same e2 p4) p5, h2.later m x hb, fun r hr => ?_⟩
    have : rowOf w' b = v.ownBlock := by simp [rowOf, World.cell?, p3']
    rw [this] at hr
    exact (hrow r hr).2.later m x (hrow r hr).1
  fewer := by
    rintro h ρ ρ' w hf ⟨h1, h2, h3⟩
    have key : ∀ k, Lone h ρ k → Lone h ρ' k := fun k a => ⟨fun i t hi => by
      obtain ⟨j, t', hj⟩ := hf i k t hi
      exact a.1 j t' hj, a.2⟩
    exact ⟨h1, key b h2, fun r hr => key r (h3 r hr)⟩

theorem WQ_x (c : Cx) (x : Mem → Own → World → Prop) (hx : Stb x) : ∀ k, WQ { c with x := x, hx := hx } k = WQ c k
  | [] => by funext ex a w; cases ex <;> rfl
  | y :: k => by
    have ih := WQ_x c x hx k
    funext ex a w
    cases ex <;> cases y <;> simp only [WQ, ih]

variable {c : Cx} {k : List It} {en : Env} {s : List Blk}

/-- a builder is made -/
theorem bstart {o : Oper} {all os : List Oper} {t : Tmp} {i : TypeInfo} (ho : o.op = .alloc T) (hg : o.guard = none) (hd : o.dst = some t) {N : Nat} (hN : c.fn.ntmps = N) (hdt : t < N) (hi : c.P.info? T = some i)
    (hz : i.zero = some (.agg #[.pointer none, .slice none 0 0])) (e : TypeId)
    (hk : ∀ b, c.w.heap.size ≤ b → AWp { c with x := BldA T e c.w.heap.size b [], hx := bld_stb T e c.w.heap.size b [] } (.ops all os :: k) (put en (some t) (.raw (.pointer (some ⟨b, 0, none⟩)))) s) :
    AWp c (.ops all (o :: os) :: k) en s := by
  rintro a w ⟨h, ρ, hm, hl, he, hdf, hsz, hX⟩
  have hr : (execOp a.eval o).run c.P w = .ok (.value (.pointer (some ⟨w.heap.size, 0, none⟩))) (w.alloc (.cells #[.pointer none, .slice none 0 0] T)) := by
    simp [execOp, ho, Instr.alloc, zeroValue, typeInfo, hi, hz, newVar, newRow, Value.cells]
  have sm := Same.alloc w (.cells #[.pointer none, .slice none 0 0] T)
  have hb : (w.alloc (.cells #[.pointer none, .slice none 0 0] T)).heap[w.heap.size]? = some (.cells #[.pointer none, .slice none 0 0] T (0, 0)) := heap_alloc_new w _
  have hlone : Lone h ρ w.heap.size := ⟨fun i t hi => by have := hm.lt hi; omega, fun o => by
    cases hq : h w.heap.size o with
    | none => rfl
    | some v => have := hm.memlt hq; omega⟩
  have hbld : BldA T e c.w.heap.size w.heap.size [] h ρ (w.alloc (.cells #[.pointer none, .slice none 0 0] T)) := by
    refine ⟨bld_of (.inl rfl) hl.size hb ⟨rfl, .inl ⟨rfl, rfl⟩⟩ (by simp [Value.ownBlock]), hlone, fun r hr => ?_⟩
    have h0 : rowOf (w.alloc (.cells #[.pointer none, .slice none 0 0] T)) w.heap.size = none := by
      simp only [rowOf, World.cell?, hb]; rfl
    rw [h0] at hr
    cases hr
  have := hk w.heap.size hl.size (a.put (some t) (.pointer (some ⟨w.heap.size, 0, none⟩))) (w.alloc (.cells #[.pointer none, .slice none 0 0] T))
    ⟨h, ρ, hm.same sm, hl.trans (Later.same sm), he.put (by rw [hsz, hN]; simpa [dOk] using hdt) (.raw _), by rw [put_defers']; exact hdf, by rw [put_size]; exact hsz, hbld⟩
  rw [WQ_x] at this
  show wpList c.P all.toArray (WQ c k) (o :: os) a w
  unfold wpList
  rw [if_pos (by simp [Region.wanted, hg])]
  refine .inl ?_
  unfold Oper.wp
  rw [hr]
  show wpList c.P all.toArray (WQ c k) os (a.put o.dst _) _
  rw [hd]
  exact this

theorem Mine.fr (m : Mine h ρ sto w) {r : Option Nat} (f : Fr w w' b r) (hb : Lone h ρ b) (hr : ∀ k, r = some k → Lone h ρ k) : Mine h ρ sto w' := by
  have hne : ∀ k, (∃ i t, ρ i = some (k, t)) ∨ (∃ o v, h k o = some v) → k ≠ b ∧ some k ≠ r := by
    intro k hk
    refine ⟨fun e => ?_, fun e => ?_⟩
    · subst e
      rcases hk with ⟨i, t, hi⟩ | ⟨o, v, ho⟩
      · exact hb.1 i t hi
      · rw [hb.2 o] at ho; cases ho
    · have hl := hr k e.symm
      rcases hk with ⟨i, t, hi⟩ | ⟨o, v, ho⟩
      · exact hl.1 i t hi
      · rw [hl.2 o] at ho; cases ho
  refine ⟨fun k o v e => ?_, fun id blk e => ?_, m.out, m.inj, m.disj⟩
  · obtain ⟨h1, h2⟩ := hne k (.inr ⟨o, v, e⟩)
    exact ⟨(World.cell?_of_block (f.block k (m.memlt e) h1 h2)).trans (m.mem k o v e).1, (m.mem k o v e).2⟩
  · exact (m.own id blk e).mono (fun _ _ _ x => x) (fun _ _ x => x) rfl (fun g t hg => f.block g (m.lt hg) (hne g (.inl ⟨id, t, hg⟩)).1 (hne g (.inl ⟨id, t, hg⟩)).2)

/-- WriteString -/
def WriteC (P : Program) (f : FuncId) (T e : TypeId) : Prop := hasBody P f = true ∧ ∀ (B b : Nat) (bs : List Value) (s : ByteArray) (w : World), Lib.IsBuilder T e B b bs w → bs.length + s.size ≤ 140737488355328 → B ≤ w.heap.size →
  Calls P f #[.pointer (some ⟨b, 0, none⟩), .string s] w fun en w' => en = .returned (.tuple #[.int .i64 s.size, .nilIface]) ∧ Lib.BuilderAt T e B b (.pointer (some ⟨b, 0, none⟩)) (bs ++ Lib.strCells s) w' ∧ Fr w w' b (rowOf w b) ∧
    ∀ r, rowOf w' b = some r → rowOf w b = some r ∨ w.heap.size ≤ r

theorem bwrite {f : FuncId} (hw : WriteC c.P f T e) {x : List UInt8} {d : Option Tmp} {all os : List Oper} (hx : c.x = BldA T e B b l) (hB : B = c.w.heap.size) {N : Nat} (hN : c.fn.ntmps = N) (hd : dOk N d = true) (hlen : l.length + x.length ≤ 140737488355328)
    (hk : AWp { c with x := BldA T e B b (l ++ x), hx := bld_stb T e B b (l ++ x) } (.ops all os :: k) (put en d (.tup [.int .i64 x.length, .raw .nilIface])) s) :
    ACall c f [.raw (.pointer (some ⟨b, 0, none⟩)), .str x] d all os k en s := by
  intro a w h ρ vs hm hl he hdf hsz hX hv
  rw [hx] at hX
  obtain ⟨h1, h2, h3⟩ := hX
  refine ⟨hw.1, ?_⟩
  have hvs : vs = [.pointer (some ⟨b, 0, none⟩), .string ⟨x.toArray⟩] := by
    cases hv with | cons r1 r2 => cases r2 with | cons r2 r3 => cases r3; rw [inv_raw r1, inv_str r2]
  subst hvs
  obtain ⟨p, v, p1, p2, p3, p4, p5, p6⟩ := bld_parts h1
  refine (hw.2 B b _ ⟨x.toArray⟩ w h1 (by rw [Lib.byteCells_length]; exact hlen) (by have := hl.size; omega)).mono ?_
  rintro en' w' ⟨rfl, hb, hf, hnew⟩
  have hm' := hm.fr hf h2 h3
  have hrow : ∀ r, rowOf w b = some r → B ≤ r := fun r hr => by rw [p6] at hr; exact (p4.lt r hr).1
  have hl' : Later c.h c.ρ c.sto c.w h ρ s w' := ⟨hl.hle, hl.hnew, hl.keep, hf.os.trans hl.os, hf.tape.trans hl.tape, hf.output.trans hl.output, Nat.le_trans hl.size hf.size, fun k' hk' hno => by
    rw [hf.block k' (Nat.lt_of_lt_of_le hk' hl.size) (by omega) (fun e => by have := hrow k' e.symm; omega)]
    exact hl.block k' hk' hno, hl.newown⟩
  have hcells : Lib.byteCells l ++ Lib.strCells ⟨x.toArray⟩ = Lib.byteCells (l ++ x) := by simp [Lib.byteCells, Lib.strCells]
  rw [hcells] at hb
  have hbd : BldA T e B b (l ++ x) h ρ w' := by
    have hbi : Lib.IsBuilder T e B b (Lib.byteCells (l ++ x)) w' := .inr hb
    obtain ⟨p', v', q1, q2, q3, q4, q5, q6⟩ := bld_parts hbi
    refine ⟨hbi, h2, fun r hr => ?_⟩
    rcases hnew r hr with hold | hrs
    · exact h3 r hold
    · exact ⟨fun i t hi => by have := hm.lt hi; omega, fun o => by
        cases hq : h r o with
        | none => rfl
        | some v => have := hm.memlt hq; omega⟩
  have := hk (a.put d _) w' ⟨h, ρ, hm', hl', he.put (by rw [hsz, hN]; exact hd) (.tup _ _ (.cons (.int _ _) (.cons (.raw _) .nil))), by rw [put_defers']; exact hdf, by rw [put_size]; exact hsz, hbd⟩
  rw [WQ_x] at this
  exact this

/-- String, behind which nothing but its result is spoken of -/
def StringC (P : Program) (f : FuncId) (T e : TypeId) : Prop := hasBody P f = true ∧ ∀ (B b : Nat) (l : List UInt8) (w : World), Lib.IsBuilder T e B b (Lib.byteCells l) w → B ≤ w.heap.size →
  Calls P f #[.pointer (some ⟨b, 0, none⟩)] w fun en w' => en = .returned (.string ⟨l.toArray⟩) ∧ Below B w w'

theorem bstring {f : FuncId} (hw : StringC c.P f T e) {d : Option Tmp} {all os : List Oper} (hx : c.x = BldA T e B b l) (hB : B = c.w.heap.size) (hs0 : c.sto = []) (hm0 : Mine c.h c.ρ c.sto c.w) {N : Nat} (hN : c.fn.ntmps = N) (hd : dOk N d = true)
    (hk : AWp { c with x := X0, hx := stb0 } (.ops all os :: k) (put [] d (.str l)) []) :
    ACall c f [.raw (.pointer (some ⟨b, 0, none⟩))] d all os k en s := by
  intro a w h ρ vs hm hl he hdf hsz hX hv
  rw [hx] at hX
  obtain ⟨h1, h2, h3⟩ := hX
  refine ⟨hw.1, ?_⟩
  have hvs : vs = [.pointer (some ⟨b, 0, none⟩)] := by
    cases hv with | cons r1 r2 => cases r2; rw [inv_raw r1]
  subst hvs
  refine (hw.2 B b l w h1 (by have := hl.size; omega)).mono ?_
  rintro en' w' ⟨rfl, hb⟩
  have hρ0 : ∀ i, c.ρ i = none := fun i => hm0.out i (by rw [hs0]; simp)
  have hcell : ∀ k', k' < c.w.heap.size → w'.heap[k']? = c.w.heap[k']? := fun k' hk' => by
    rw [hb.block k' (by omega)]
    exact hl.block k' hk' (fun i t hi => by rw [hρ0 i] at hi; cases hi)
  have hmine : Mine c.h (fun _ => none) [] w' := by
    refine ⟨fun k' o v e' => ?_, fun id blk e' => by simp at e', fun _ _ => rfl, fun i j g t t' e' => by simp at e', fun i g t e' => by simp at e'⟩
    exact ⟨(World.cell?_of_block (hcell k' (hm0.memlt e'))).trans (hm0.mem k' o v e').1, (hm0.mem k' o v e').2⟩
  have hlat : Later c.h c.ρ c.sto c.w c.h (fun _ => none) [] w' := by
    refine ⟨fun _ _ _ x => x, fun _ _ x y => (y x).elim, fun v x lf => ?_, hb.os.trans hl.os, hb.tape.trans hl.tape, hb.output.trans hl.output, Nat.le_trans hl.size hb.size, fun k' hk' _ => hcell k' hk', fun i g t e' => by simp at e'⟩
    have := lf.2
    rw [hs0] at this
    cases x <;> simp [LfC] at this
  have := hk (a.put d (.string ⟨l.toArray⟩)) w' ⟨c.h, fun _ => none, hmine, hlat, ?_, by rw [put_defers']; exact hdf, by rw [put_size]; exact hsz, trivial⟩
  · rw [WQ_x] at this
    exact this
  · have he0 : EnvOk c.h (fun _ => none) [] [] a := fun t => .any _
    exact he0.put (by rw [hsz, hN]; exact hd) (.str _)
end

/-- .. and its end, where what is said of the world has changed -/
theorem aagain_x {c0 c : Cx} {B : Code} {k : List It} {e : Env} {s : List Blk} (hc : c = { c0 with x := c.x, hx := c.hx }) (h : AHd c B k e s) : AWp c (.inv (Hd c0.P B (WQ c0 k)) :: k) e s := fun a w hs => by
  have h1 := h a w hs
  have e1 : WQ c k = WQ c0 k := by rw [hc]; exact WQ_x c0 c.x c.hx k
  have e2 : c.P = c0.P := by rw [hc]
  rw [e1, e2] at h1
  exact h1
end Go.Av
