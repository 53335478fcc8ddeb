/- All operations together. Own work of this seat. -/
import Derived.Test.YtpjbbpilgfihbaaGreatDoorN1
import Derived.Lib.ConvBytes
import Derived.Laws.AppendOwn
import Derived.Deep.AppendSrc
import Derived.WideMake
import Derived.Laws.StructEq
import Derived.Laws.Cover3
set_option linter.unusedSimpArgs false
set_option linter.unusedVariables false
namespace Go.Av
open Go Go.RowKit

section
variable {h : Mem} {ρ : Own} {sto : List Blk} {w : World} {P : Program}

theorem sto_get {id : Nat} {e : Nat} {l : List AV} (hb : sto.getD id .dead = .arr e l) : sto[id]? = some (.arr e l) := by
  rw [List.getD_eq_getElem?_getD] at hb
  cases hq : sto[id]? with
  | none => simp [hq] at hb
  | some b => simp [hq] at hb; rw [hb]

theorem extract_ok {x : Operand} {i : Nat} {o : Oper} {e : Env} {a : Act} (ho : o.op = .extract x i) (m : Mine h ρ sto w) (he : EnvOk h ρ sto e a) :
    Res.Sound P h ρ sto w ((execOp a.eval o).run P w) (xextract (ev e x) i) := by
  have hx := ev_ok he x
  have hrun : (execOp a.eval o).run P w = ((Instr.extract (a.eval x) i).run P w).andThen fun v w' => .ok (.value v) w' := by simp [execOp, ho]
  rw [hrun]
  generalize a.eval x = u at *
  unfold xextract
  split
  · rename_i l h1
    rw [h1] at hx
    obtain ⟨vs, rfl, rl⟩ := inv_tup hx
    intro hi
    have hlen := rl.length
    have : i < vs.length := by omega
    refine okv_pure m (u := vs[i]) (by simp [Instr.extract, this]) ?_
    have := rl.getD i undef
    simpa [List.getD, ‹i < vs.length›] using this
  · trivial

theorem pick_ok {c x y : Operand} {o : Oper} {e : Env} {a : Act} (ho : o.op = .pick c x y) (m : Mine h ρ sto w) (he : EnvOk h ρ sto e a) :
    Res.Sound P h ρ sto w ((execOp a.eval o).run P w) (xpick (ev e c) (ev e x) (ev e y)) := by
  have hc := ev_ok he c
  unfold xpick
  split
  · rename_i b h1
    rw [h1] at hc
    have h2 := inv_bool hc
    cases b with
    | true => exact okv_pure m (by simp [execOp, ho, h2, asBool]) (ev_ok he x)
    | false => exact okv_pure m (by simp [execOp, ho, h2, asBool]) (ev_ok he y)
  · trivial

theorem not_ok {x : Operand} {t : TypeId} {o : Oper} {e : Env} {a : Act} (ho : o.op = .unOp .not t x) (m : Mine h ρ sto w) (he : EnvOk h ρ sto e a) :
    Res.Sound P h ρ sto w ((execOp a.eval o).run P w) (xnot (ev e x)) := by
  have hx := ev_ok he x
  unfold xnot
  split
  · rename_i b h1
    rw [h1] at hx
    exact okv_pure m (by simp [execOp, ho, inv_bool hx, Op.unary]) (.bool _)
  · trivial

theorem neg_ok {x : Operand} {t : TypeId} {o : Oper} {e : Env} {a : Act} (ho : o.op = .unOp .neg t x) (m : Mine h ρ sto w) (he : EnvOk h ρ sto e a) :
    Res.Sound P h ρ sto w ((execOp a.eval o).run P w) (xneg (ev e x)) := by
  have hx := ev_ok he x
  unfold xneg
  split
  · rename_i k n h1
    rw [h1] at hx
    intro hi
    have : k.wrap (0 - n) = 0 - n := wrap_inr hi
    exact okv_pure m (u := .int k (0 - n)) (by simp only [execOp, ho, inv_int hx, Op.unary, Op.intArith, this]; rfl) (.int _ _)
  · trivial

theorem index_ok {t : TypeId} {x i : Operand} {o : Oper} {e : Env} {a : Act} (ho : o.op = .index t x i) (m : Mine h ρ sto w) (he : EnvOk h ρ sto e a) :
    Res.Sound P h ρ sto w ((execOp a.eval o).run P w) (xindex (P.underlying t) (P.underlying (elemD (P.underlying t))) (tsize P (elemD (P.underlying t))) (ev e x) (ev e i)) := by
  have hx := ev_ok he x
  have hi := ev_ok he i
  have hrun : (execOp a.eval o).run P w = ((Instr.index t (a.eval x) (a.eval i)).run P w).andThen fun v w' => .ok (.value v) w' := by simp [execOp, ho]
  rw [hrun]
  generalize a.eval x = u at *
  generalize a.eval i = v at *
  unfold xindex
  split
  · rename_i l k n h1 h2 h3
    rw [h2] at hx; rw [h3] at hi
    have e1 := inv_str hx
    have e2 := inv_int hi
    intro ⟨hn, hlt⟩
    have hn' : n.toNat < l.length := by omega
    refine okv_pure m (u := .int .u8 ((l.getD n.toNat 0).toNat)) ?_ (.int _ _)
    have hget : (ByteArray.mk l.toArray)[n.toNat]? = some (l.getD n.toNat 0) := by
      have hsz : (ByteArray.mk l.toArray).size = l.length := rfl
      have : n.toNat < (ByteArray.mk l.toArray).size := by rw [hsz]; exact hn'
      rw [getElem?_pos (ByteArray.mk l.toArray) n.toNat this]
      congr 1
      simp [List.getD, hn']
      rfl
    rw [e1, e2]
    simp [Instr.index, asIntOf, run_underlying h1, hn, hget]
  · rename_i len el l k n h1 h2 h3
    rw [h1]
    rw [h2] at hx; rw [h3] at hi
    obtain ⟨vs, rfl, rl⟩ := inv_agg hx
    have e2 := inv_int hi
    subst e2
    intro ⟨hd, hn, ok⟩
    obtain ⟨u, hu, ru⟩ := part_run (P := P) (w := w) hd rl ok
    refine okv_pure m (u := u) ?_ ru
    cases hq : P.underlying el with
    | none => simp [has, elemD, hq] at hd
    | some d =>
      have hs := sizeOf_run hq w
      simp only [elemD] at hu
      simp [Instr.index, asIntOf, run_underlying h1, hn, hs, hu]
  · trivial

theorem field_ok {t : TypeId} {x : Operand} {f : Nat} {o : Oper} {e : Env} {a : Act} (ho : o.op = .field t x f) (m : Mine h ρ sto w) (he : EnvOk h ρ sto e a) :
    Res.Sound P h ρ sto w ((execOp a.eval o).run P w) (xfieldF P (ev e x) (fieldD (P.underlying t) f)) := by
  have hx := ev_ok he x
  have hrun : (execOp a.eval o).run P w = ((Instr.field t (a.eval x) f).run P w).andThen fun v w' => .ok (.value v) w' := by simp [execOp, ho]
  rw [hrun]
  generalize a.eval x = u at *
  unfold xfieldF
  split
  · rename_i off ft hf
    split
    · rename_i l h1
      rw [h1] at hx
      obtain ⟨vs, rfl, rl⟩ := inv_agg hx
      intro ⟨hd, ok⟩
      obtain ⟨u, hu, ru⟩ := part_run (P := P) (w := w) hd rl ok
      refine okv_pure m (u := u) ?_ ru
      unfold fieldD at hf
      split at hf
      · rename_i fs hfs
        cases hff : fs[f]? with
        | none => simp [hff] at hf
        | some fd =>
          simp [hff] at hf
          obtain ⟨rfl, rfl⟩ := hf
          simp [Instr.field, run_underlying hfs, hff, asAgg, hu]
      · simp at hf
    · trivial
  · trivial

theorem ptr_live (m : Mine h ρ sto w) {u : Value} {id n j off : Nat} {e : Nat} {l : List AV} (hb : sto.getD id .dead = .arr e l) (r : RV h (Lf ρ sto) false u (.ptr id n j off)) (hn : n = l.length) (k : Nat) :
    ∃ g o, u = .pointer (some ⟨g, o, none⟩) ∧ RV h (Lf ρ sto) false (.pointer (some ⟨g, o + k, none⟩)) (.ptr id n j (off + k)) := by
  obtain ⟨g, tot, cur, tt, h1, h2, h3, h4, h5, h6, h7, h8, h9, h10, h11, h12⟩ := ptr_place m hb r hn
  refine ⟨g, _, h2, .leaf ⟨rfl, ?_⟩⟩
  simp only [LfC, h9]
  exact ⟨by omega, fun _ => ⟨h8, g, tot, h1, by rw [Nat.add_assoc]⟩⟩

/-- a pointer moved by so many cells: what the operation is to yield -/
theorem ptrAddIf_ok {p : Prop} {k : Nat} {u : Value} {av : AV} (m : Mine h ρ sto w) (r : RV h (Lf ρ sto) false u av) {res : Result Next}
    (hr : p → ∀ g o, u = .pointer (some ⟨g, o, none⟩) → res = .ok (.value (.pointer (some ⟨g, o + k, none⟩))) w) :
    Res.Sound P h ρ sto w res (xptrAddIf p sto av k) := by
  unfold xptrAddIf
  split
  · rename_i id n j off
    split
    · rename_i ee l hb
      intro ⟨hp, hn⟩
      obtain ⟨g, o, h1, h2⟩ := ptr_live m hb r hn k
      exact okv_pure m (hr hp g o h1) h2
    · trivial
  · rename_i ee l j off
    intro hp
    obtain ⟨b, o, vs, h1, h2, h3, h4, h5⟩ := inv_pin r
    refine okv_pure m (hr hp b _ h1) ?_
    rw [show o + (j * ee + off) + k = o + (j * ee + (off + k)) by omega]
    exact .pin b o ee l vs j (off + k) h2 h3 h4 h5
  · trivial

theorem fieldAddr_ok {t : TypeId} {x : Operand} {f : Nat} {o : Oper} {e : Env} {a : Act} (ho : o.op = .fieldAddr t x f) (m : Mine h ρ sto w) (he : EnvOk h ρ sto e a) :
    Res.Sound P h ρ sto w ((execOp a.eval o).run P w) (xfieldAddr P (fieldD (P.underlying t) f) sto (ev e x)) := by
  have hx := ev_ok he x
  have hrun : (execOp a.eval o).run P w = ((Instr.fieldAt t (a.eval x) f).run P w).andThen fun v w' => .ok (.value v) w' := by simp [execOp, ho]
  rw [hrun]
  unfold xfieldAddr
  split
  · rename_i off ft hf
    refine ptrAddIf_ok m hx fun hp g o hu => ?_
    unfold fieldD at hf
    split at hf
    · rename_i fs hfs
      cases hff : fs[f]? with
      | none => simp [hff] at hf
      | some fd =>
        simp [hff] at hf
        obtain ⟨rfl, rfl⟩ := hf
        have hs := sizeOf_run' hp w
        have hne : tsize P fd.type ≠ 0 := by omega
        rw [hu]
        simp [Instr.fieldAt, run_underlying hfs, hff, Instr.sureAddr, fieldPlace, hs, hne, Addr.add_mid]
    · simp at hf
  · trivial

theorem indexAddr_ok {t : TypeId} {x i : Operand} {o : Oper} {e : Env} {a : Act} (ho : o.op = .indexAddr t x i) (m : Mine h ρ sto w) (he : EnvOk h ρ sto e a) :
    Res.Sound P h ρ sto w ((execOp a.eval o).run P w) (xindexAddr (P.underlying t) (tsize P (elemD (P.underlying t))) sto (ev e x) (ev e i)) := by
  have hx := ev_ok he x
  have hi := ev_ok he i
  have hrun : (execOp a.eval o).run P w = ((Instr.indexAt t (a.eval x) (a.eval i)).run P w).andThen fun v w' => .ok (.value v) w' := by simp [execOp, ho]
  rw [hrun]
  unfold xindexAddr
  split
  · rename_i len el k n h1 h2
    rw [h1]
    rw [h2] at hi
    have e2 := inv_int hi
    refine ptrAddIf_ok m hx fun hp g o hu => ?_
    obtain ⟨hp1, hp2⟩ := hp
    have hs := sizeOf_run' hp1 w
    simp only [elemD] at hs ⊢
    rw [hu, e2]
    simp [Instr.indexAt, asIntOf, run_underlying h1, Instr.sureAddr, hp2, hs, Addr.add_mid]
  · rename_i el k n h1 h2
    rw [h1]
    rw [h2] at hi
    have e2 := inv_int hi
    simp only [elemD]
    split
    · rename_i ee l h3
      rw [h3] at hx
      intro ⟨hsz, hee, hn⟩
      have hs := sizeOf_run' hsz w
      rcases inv_fz hx with ⟨rfl, _⟩ | ⟨b, oo, c, vs, h4, h5, h6, h7, h8⟩
      · simp at hn; omega
      · have hpin := RV.pin (fl := false) b oo ee l vs n.toNat 0 h5 h6 h7 (by omega)
        refine okv_pure m ?_ hpin
        rw [h4, e2, hee]
        simp [Instr.indexAt, asIntOf, run_underlying h1, hn, hs, Addr.add_mid]
    · rename_i id off len cap h3
      rw [h3] at hx
      split
      · rename_i ee l hb
        intro ⟨hsz, hee, hcap, hn0, hn, hlc⟩
        have hs := sizeOf_run' hsz w
        have hso : sto[id]? = some (.arr ee l) := by
          rw [List.getD_eq_getElem?_getD] at hb
          cases hq : sto[id]? with
          | none => simp [hq] at hb
          | some b => simp [hq] at hb; rw [hb]
        have hl := (inv_sl hx).2
        simp only [LfC, hso] at hl
        obtain ⟨_, hl⟩ := hl
        rcases hl hcap with ⟨h5, _⟩ | ⟨g, tot, h5, h6, h7⟩
        · omega
        · refine okv_pure m (u := .pointer (some ⟨g, off * ee + n.toNat * ee, none⟩)) ?_ (.leaf ⟨rfl, ?_⟩)
          · rw [h6, e2, hee]
            simp [Instr.indexAt, asIntOf, run_underlying h1, hn0, hn, hs, Addr.add_mid]
          · simp only [LfC, hso]
            exact ⟨by omega, fun _ => ⟨by omega, g, tot, h5, by simp [Nat.add_mul]⟩⟩
      · trivial
    · trivial
  · trivial

theorem makeFunc_ok {f : Fn} {first cap : Array Operand} {o : Oper} {e : Env} {a : Act} (ho : o.op = .makeFunc f first cap) (m : Mine h ρ sto w) (he : EnvOk h ρ sto e a) :
    Res.Sound P h ρ sto w ((execOp a.eval o).run P w) (match first.toList with | [] => .ok (.fn f (evs e cap.toList)) | _ => .stuck) := by
  split
  · rename_i h1
    have hf : first = #[] := by cases first; simp at h1; rw [h1]
    have hc := evs_ok he cap.toList
    refine okv_pure m (u := .func f #[] (cap.toList.map a.eval).toArray) ?_ (.fn f _ _ hc)
    have e1 : cap.map a.eval = (cap.toList.map a.eval).toArray := by rw [← Array.toList_map, Array.toArray_toList]
    simp [execOp, ho, Instr.makeFunc, hf, e1]
  · trivial

theorem call_ok {c : Call} {f : Operand} (hf : c.callee = .value f) {o : Oper} {e : Env} {a : Act} (ho : o.op = .call c) (m : Mine h ρ sto w) (he : EnvOk h ρ sto e a) :
    Res.Sound P h ρ sto w ((execOp a.eval o).run P w) (xcall (ev e f) (evs e c.args.toList)) := by
  have hx := ev_ok he f
  unfold xcall
  split
  · rename_i fid cap h1
    rw [h1] at hx
    obtain ⟨vs, h2, rl⟩ := inv_fn hx
    have ha := evs_ok he c.args.toList
    refine ⟨c.args.toList.map a.eval ++ vs, ha.append rl, fun hb => ?_⟩
    unfold hasBody at hb
    cases hq : P.funcs[fid]? with
    | none => simp [hq] at hb
    | some fn =>
      simp only [hq] at hb
      have h3 : (fn.name == "runtime.NumGoroutine") = false := by cases h : fn.name == "runtime.NumGoroutine" <;> simp_all
      have h4 : fn.body.isNone = false := by cases h : fn.body <;> simp_all
      have e3 : c.args.map a.eval ++ vs.toArray = (c.args.toList.map a.eval ++ vs).toArray := by
        rw [← List.append_toArray, ← Array.toList_map, Array.toArray_toList]
      have h5 : (callFunc fid (c.args.map a.eval ++ vs.toArray)).run P w = .ok (.enter fid (c.args.map a.eval ++ vs.toArray)) w := by
        unfold callFunc
        simp only [Sem.run_bind, run_program, Result.andThen_ok, hq, h3, h4, Bool.false_eq_true, if_false, Sem.run_pure]
      rw [← e3, ← h5]
      simp [execOp, ho, resolve, hf, h2, Deferred.ofValue, invoke]
  · trivial

theorem len_ok {c : Call} (hf : c.callee = .builtin .len) {o : Oper} {e : Env} {a : Act} (ho : o.op = .call c) (m : Mine h ρ sto w) (he : EnvOk h ρ sto e a) :
    Res.Sound P h ρ sto w ((execOp a.eval o).run P w) (xlen2 P e sto c.args.toList c.argTypes.toList) := by
  have hrun : (execOp a.eval o).run P w = ((Builtin.len_ c.argTypes o.type (c.args.map a.eval)).run P w).andThen fun v w' => .ok (.value v) w' := by
    simp [execOp, ho, resolve, hf, invoke, builtin]
  rw [hrun]
  unfold xlen2
  split
  · rename_i x xs t ts h1 h2
    have hx := ev_ok he x
    have e1 : (c.args.map a.eval)[0]? = some (a.eval x) := by
      rw [← Array.getElem?_toList, Array.toList_map, h1]; rfl
    have e2 : c.argTypes[0]? = some t := by rw [← Array.getElem?_toList, h2]; rfl
    generalize a.eval x = u at *
    unfold xlen
    split
    · rename_i s hd hv
      rw [hv] at hx
      refine okv_pure m (u := .int .i64 s.length) ?_ (.int _ _)
      have : (ByteArray.mk s.toArray).size = s.length := rfl
      simp [Builtin.len_, e1, e2, run_underlying hd, inv_str hx, goInt, this]
    · rename_i el n l hd hv
      rw [hv] at hx
      refine okv_pure m (u := .int .i64 l.length) ?_ (.int _ _)
      rcases inv_fz hx with ⟨rfl, rfl⟩ | ⟨b, oo, c', vs, rfl, _⟩ <;> simp [Builtin.len_, e1, e2, run_underlying hd, goInt]
    · rename_i el id off n cap hd hv
      rw [hv] at hx
      split
      · rename_i ee l hb
        intro hcap
        have hso : sto[id]? = some (.arr ee l) := sto_get hb
        have hl := (inv_sl hx).2
        simp only [LfC, hso] at hl
        refine okv_pure m (u := .int .i64 n) ?_ (.int _ _)
        rcases hl.2 hcap with ⟨h5, _, _, rfl⟩ | ⟨g, tot, h5, rfl, h7⟩
        · subst h5; simp [Builtin.len_, e1, e2, run_underlying hd, goInt]
        · simp [Builtin.len_, e1, e2, run_underlying hd, goInt]
      · trivial
    · rename_i el hd hv
      rw [hv] at hx
      refine okv_pure m (u := .int .i64 0) ?_ (.int _ _)
      simp [Builtin.len_, e1, e2, run_underlying hd, inv_raw hx, goInt]
    · rename_i n el hd
      refine okv_pure m (u := .int .i64 n) ?_ (.int _ _)
      simp [Builtin.len_, e1, e2, run_underlying hd, goInt]
    · trivial
  · trivial

/-- the cells of a value, laid into an array from a place on -/
theorem fold_cells : ∀ (vs : List Value) (off k : Nat) (cs : Array Value), off + k + vs.length ≤ cs.size →
    ((vs.zipIdx k).foldl (fun (cs : Array Value) (x : Value × Nat) => cs.setIfInBounds (off + x.2) x.1) cs).toList = splice cs.toList (off + k) vs
  | [], off, k, cs, _ => by simp [splice]
  | v :: r, off, k, cs, hl => by
    simp only [List.length_cons] at hl
    simp only [List.zipIdx_cons, List.foldl_cons]
    rw [fold_cells r off (k + 1) _ (by simp; omega)]
    simp only [Array.toList_setIfInBounds]
    apply List.ext_getElem?
    intro i
    have e0 : off + (k + 1) = off + k + 1 := by omega
    rw [e0, splice_get (by simp; omega), splice_get (by simp; omega)]
    simp only [List.getElem?_set, List.length_cons]
    by_cases h1 : i < off + k
    · have h2 : ¬ off + k = i := by omega
      have h3 : i < off + k + 1 := by omega
      simp [h1, h2, h3]
    · by_cases h2 : i = off + k
      · subst h2
        have : off + k < cs.size := by omega
        simp [this]
      · have h3 : ¬ i < off + k + 1 := by omega
        have h4 : ¬ off + k = i := by omega
        have h5 : i - (off + k) = (i - (off + k + 1)) + 1 := by omega
        simp only [h1, h3, h4, if_false]
        by_cases h6 : i < off + k + 1 + r.length
        · rw [if_pos h6, if_pos (by omega), h5]; simp
        · rw [if_neg h6, if_neg (by omega)]

theorem fill_ok {place : Nat → Option (Nat × Nat)} {fl : Bool} : ∀ {parts : List (Nat × Value)} {avs : List (Nat × AV)} {cells : Array Value} {cs cs' : List AV},
    parts.map (·.1) = avs.map (·.1) → RL h (Lf ρ sto) fl (parts.map (·.2)) (avs.map (·.2)) → RL h (Lf ρ sto) fl cells.toList cs → xfill place cs avs = some cs' →
    ∃ cells', Instr.fill place cells parts = some cells' ∧ RL h (Lf ρ sto) fl cells'.toList cs' ∧ cs'.length = cs.length ∧ (cs.all one = true → cs'.all one = true)
  | [], [], cells, cs, cs', _, _, rc, hf => by
    simp [xfill] at hf; subst hf
    exact ⟨cells, rfl, rc, rfl, fun x => x⟩
  | [], _ :: _, _, _, _, he, _, _, _ => by simp at he
  | _ :: _, [], _, _, _, he, _, _, _ => by simp at he
  | (i, v) :: parts, (j, a) :: avs, cells, cs, cs', he, rp, rc, hf => by
    simp at he
    obtain ⟨rfl, he⟩ := he
    cases rp with
    | cons r1 r2 =>
      simp only [xfill] at hf
      cases hp : place i with
      | none => simp [hp] at hf
      | some os =>
        obtain ⟨off, sz⟩ := os
        simp only [hp] at hf
        cases hc : ((cellsOf a).length == sz && decide (off + sz ≤ cs.length) && (cellsOf a).all one) with
        | false => simp [hc] at hf
        | true =>
          simp only [hc, cond_true] at hf
          simp only [Bool.and_eq_true, beq_iff_eq, decide_eq_true_eq] at hc
          obtain ⟨⟨h1, h2⟩, h3⟩ := hc
          have rv := cells_ok r1 h3
          have hlen := rv.length
          have hcl := rc.length
          have hsz : v.cells.size = sz := by rw [← h1, ← hlen]; simp
          have hfit : off + sz ≤ cells.size := by simp at hcl; omega
          have hnot : ¬ (v.cells.size ≠ sz ∨ off + v.cells.size > cells.size) := by omega
          have hpc : putCells cs off (cellsOf a) = splice cs off (cellsOf a) := putCells_eq _ _ _ (by omega)
          have hfold : (v.cells.zipIdx.foldl (fun cs (c, j) => cs.setIfInBounds (off + j) c) cells).toList = splice cells.toList off v.cells.toList := by
            have := fold_cells v.cells.toList off 0 cells (by simp; omega)
            rw [← Array.foldl_toList, Array.toList_zipIdx]
            simpa using this
          obtain ⟨cells', g1, g2, g3, g4⟩ := fill_ok (cells := v.cells.zipIdx.foldl (fun cs (c, j) => cs.setIfInBounds (off + j) c) cells) he r2 (by rw [hfold, hpc]; exact rc.splice rv off) hf
          refine ⟨cells', ?_, g2, by rw [g3, hpc, splice_length (by omega)], fun hall => g4 ?_⟩
          · simp only [Instr.fill, hp]
            rw [if_neg (by simpa using hnot)]
            exact g1
          · rw [hpc]
            simp only [splice, List.all_append, Bool.and_eq_true]
            rw [List.all_eq_true] at hall
            exact ⟨⟨List.all_eq_true.2 fun x hx => hall x (List.mem_of_mem_take hx), h3⟩, List.all_eq_true.2 fun x hx => hall x (List.mem_of_mem_drop hx)⟩

theorem parts_ok {e : Env} {a : Act} (he : EnvOk h ρ sto e a) : ∀ (parts : List (Nat × Operand)),
    (parts.map fun p => (p.1, a.eval p.2)).map (·.1) = (evp e parts).map (·.1) ∧ RL h (Lf ρ sto) false ((parts.map fun p => (p.1, a.eval p.2)).map (·.2)) ((evp e parts).map (·.2))
  | [] => ⟨rfl, .nil⟩
  | (i, x) :: r => by
    obtain ⟨h1, h2⟩ := parts_ok he r
    exact ⟨by simp [evp] at h1 ⊢; exact h1, .cons (ev_ok he x) h2⟩

theorem build_ok {t : TypeId} {parts : Array (Nat × Operand)} {o : Oper} {e : Env} {a : Act} (ho : o.op = .build t parts) (m : Mine h ρ sto w) (he : EnvOk h ρ sto e a) :
    Res.Sound P h ρ sto w ((execOp a.eval o).run P w) (xbuild P (P.underlying t) (zav P t) (evp e parts.toList)) := by
  obtain ⟨hp1, hp2⟩ := parts_ok he parts.toList
  have hrun : (execOp a.eval o).run P w = ((Instr.build t (parts.map fun (i, x) => (i, a.eval x))).run P w).andThen fun v w' => .ok (.value v) w' := by simp [execOp, ho]
  have hpl : (parts.map fun (i, x) => (i, a.eval x)).toList = parts.toList.map fun p => (p.1, a.eval p.2) := by simp
  have key : ∀ {place : Nat → Option (Nat × Nat)} {cs : List AV}, xfill place (zav P t) (evp e parts.toList) = some cs → 0 < (zav P t).length →
      (∀ (i : TypeInfo) (z : Value), P.info? t = some i → i.zero = some z → ∀ cells', Instr.fill place z.cells (parts.toList.map fun p => (p.1, a.eval p.2)) = some cells' → P.built t (parts.toList.map fun p => (p.1, a.eval p.2)) = some cells') →
      Okv h ρ sto w ((execOp a.eval o).run P w) (.agg cs) sto := by
    intro place cs hf hz hb
    unfold zav zcells at hf hz
    cases hi : P.info? t with
    | none => simp [hi] at hz
    | some i =>
      cases hzz : i.zero with
      | none => simp [hi, hzz] at hz
      | some z =>
        simp only [hi, hzz, Option.bind_some] at hf
        obtain ⟨cells', g1, g2, _⟩ := fill_ok hp1 hp2 (consts_ok z.cells.toList) hf
        have hbuilt := hb i z hi hzz cells' g1
        have := run_build (P := P) w t (parts.map fun (i, x) => (i, a.eval x)) cells' (by rw [hpl]; exact hbuilt)
        refine okv_pure m (u := .agg cells') (by rw [hrun, this]; rfl) ?_
        have := RV.agg (fl := false) cells'.toList cs g2
        simpa using this
  unfold xbuild
  split
  · rename_i fs hd
    split
    · rename_i cs hf
      intro ⟨hz, hall⟩
      refine key hf hz fun i z hi hz cells' hfl => ?_
      have hmap : ∀ (l : List Field), allHas P l → l.mapM (fun f => (P.info? f.type).map fun i => (f.offset, i.size)) = some (l.map fun f => (f.offset, tsize P f.type)) := by
        intro l
        induction l with
        | nil => intro _; rfl
        | cons f l ih =>
          intro ⟨h1, h2⟩
          cases hq : P.underlying f.type with
          | none => simp [has, hq] at h1
          | some d =>
            obtain ⟨j, hj⟩ := info_of_underlying hq
            simp [List.mapM_cons, hj, ih h2, tsize]
      unfold Program.built
      simp only [hi, hd, hz, hmap fs.toList hall]
      rw [← hfl]
      congr 1
      funext k
      simp [fieldPlace?]
    · trivial
  · rename_i n el hd
    split
    · rename_i cs hf
      intro ⟨hz, hhas⟩
      refine key hf hz fun i z hi hz cells' hfl => ?_
      cases hq : P.underlying el with
      | none => simp [has, hq] at hhas
      | some d =>
        obtain ⟨j, hj⟩ := info_of_underlying hq
        unfold Program.built
        simp only [hi, hd, hz, hj]
        rw [← hfl]
        simp [tsize, hj]
    · trivial
  · trivial

theorem cut_flat {row : Bool} {sz : Nat} : ∀ {n : Nat} {cs : List AV}, cs.length = n * sz → (row = false → sz = 1) → cs.all one = true → flat (cut row sz n cs) = cs
  | 0, cs, hl, _, _ => by simp at hl; subst hl; rfl
  | n + 1, cs, hl, hr, h1 => by
    rw [Nat.succ_mul] at hl
    have ih := cut_flat (row := row) (sz := sz) (n := n) (cs := cs.drop sz) (by simp; omega) hr (by
      rw [List.all_eq_true] at h1 ⊢
      exact fun x hx => h1 x (List.mem_of_mem_drop hx))
    simp only [cut, flat, ih]
    cases row with
    | true => simp [cellsOf]
    | false =>
      have := hr rfl
      subst this
      match cs, hl with
      | c :: r, _ =>
        simp at h1
        simp [cellsOf_one h1.1]
      | [], e => simp at e

theorem cut_len {row : Bool} {sz : Nat} : ∀ {n : Nat} {cs : List AV}, (cut row sz n cs).length = n
  | 0, cs => rfl
  | n + 1, cs => by simp [cut, cut_len]

theorem cut_cells {row : Bool} {sz : Nat} : ∀ {n : Nat} {cs : List AV}, cs.length = n * sz → (row = false → sz = 1) → cs.all one = true → ∀ x ∈ cut row sz n cs, (cellsOf x).length = sz
  | 0, cs, _, _, _, x, hx => by simp [cut] at hx
  | n + 1, cs, hl, hr, h1, x, hx => by
    rw [Nat.succ_mul] at hl
    simp only [cut, List.mem_cons] at hx
    rcases hx with rfl | hx
    · cases row with
      | true => simp [cellsOf]; omega
      | false =>
        have := hr rfl
        subst this
        match cs, hl with
        | c :: r, _ =>
          simp at h1
          simp [cellsOf_one h1.1]
        | [], e => simp at e
    · exact cut_cells (n := n) (cs := cs.drop sz) (by simp; omega) hr (by
        rw [List.all_eq_true] at h1 ⊢
        exact fun x hx => h1 x (List.mem_of_mem_drop hx)) x hx

theorem rep_len (z : List AV) : ∀ n, (rep z n).length = n * z.length
  | 0 => by simp [rep]
  | n + 1 => by simp [rep, rep_len z n, Nat.succ_mul]; omega

theorem rep_get {z : List AV} : ∀ {n i : Nat}, i < n * z.length → (rep z n)[i]? = z[i % z.length]?
  | 0, i, hi => by simp at hi
  | n + 1, i, hi => by
    rw [Nat.succ_mul] at hi
    simp only [rep]
    by_cases h1 : i < z.length
    · rw [List.getElem?_append_left h1, Nat.mod_eq_of_lt h1]
    · rw [List.getElem?_append_right (by omega), rep_get (by omega)]
      rw [Nat.mod_eq_sub_mod (by omega : i ≥ z.length)]

/-- 'n' zero values, cell by cell -/
theorem zeros_ok {z : List Value} {fl : Bool} (n : Nat) (hz : 0 < z.length) : RL h (Lf ρ sto) fl ((Array.range (n * z.length)).map (z.toArray[· % z.length]!)).toList (rep (z.map ofConst) n) := by
  refine RL.of_get (by simp [rep_len]) fun k v a h1 h2 => ?_
  have hk : k < n * z.length := by
    rcases Nat.lt_or_ge k (n * z.length) with x | x
    · exact x
    · simp [x] at h1
  have hm : k % z.length < z.length := Nat.mod_lt _ hz
  rw [rep_get (by simpa using hk)] at h2
  simp [hk] at h1
  simp [hm] at h2
  have : v = z[k % z.length] := by rw [← h1]; simp [hm]
  rw [this, ← h2]
  exact ofConst_ok _

theorem frz_one {fl u a} (r : RV h (Lf ρ sto) fl u a) (hf : frozen a = true) : RV h (Lf ρ sto) true u a := by
  cases r with
  | leaf l => cases a <;> first | exact l.2.elim | exact absurd hf (by simp [frozen])
  | int k n => exact .int k n
  | bool b => exact .bool b
  | str s => exact .str s
  | raw => exact .raw _
  | any => exact .any _
  | fznil e => exact .fznil e
  | fz b o c e l vs h1 h2 h3 h4 => exact .fz b o c e l vs h1 h2 h3 h4
  | pin b o e l vs i off h1 h2 h3 h4 => exact .pin b o e l vs i off h1 h2 h3 h4
  | agg => cases hf
  | tup => cases hf
  | fn => cases hf

theorem frz_all {fl : Bool} : ∀ {l : List AV} {vs : List Value}, RL h (Lf ρ sto) fl vs l → l.all frozen = true → RL h (Lf ρ sto) true vs l
  | [], _, r, _ => by cases r; exact .nil
  | a :: l, _, r, hf => by
    cases r with
    | cons r1 r2 =>
      simp at hf
      exact .cons (frz_one r1 hf.1) (frz_all r2 (by simpa using hf.2))

theorem buildSlice_ok1 {frz : Bool} {t : TypeId} {len : Nat} {parts : Array (Nat × Operand)} {o : Oper} {e : Env} {a : Act} (ho : o.op = .buildSlice t len parts) (m : Mine h ρ sto w) (he : EnvOk h ρ sto e a) :
    Res.Sound P h ρ sto w ((execOp a.eval o).run P w) (match P.underlying t with | some (.slice el) => xbuildSlice frz (isRow (P.underlying el)) (tsize P el) sto (zav P el) len (evp e parts.toList) | _ => .stuck) := by
  obtain ⟨hp1, hp2⟩ := parts_ok he parts.toList
  have hrun : (execOp a.eval o).run P w = ((Instr.buildSlice t len (parts.map fun (i, x) => (i, a.eval x))).run P w).andThen fun v w' => .ok (.value v) w' := by simp [execOp, ho]
  have hpl : (parts.map fun (i, x) => (i, a.eval x)).toList = parts.toList.map fun p => (p.1, a.eval p.2) := by simp
  split
  · rename_i el hel
    unfold xbuildSlice
    split
    · rename_i cs hf
      have key : (0 < tsize P el ∧ 0 < len ∧ (zav P el).length = tsize P el ∧ len * tsize P el ≤ 16777216 ∧ (rep (zav P el) len).all one = true ∧ (isRow (P.underlying el) = false → tsize P el = 1)) →
          ∃ cells, (execOp a.eval o).run P w = .ok (.value (.slice (some ⟨w.heap.size, 0, none⟩) len len)) (w.alloc (.cells cells el)) ∧ RL h (Lf ρ sto) false cells.toList cs ∧
            cs.length = len * tsize P el ∧ cs.all one = true := by
        rintro ⟨h1, h0, h2, h3, h4, h5⟩
        cases hi : P.info? el with
        | none => simp [tsize, hi] at h1
        | some ie =>
          have htz : tsize P el = ie.size := by simp [tsize, hi]
          cases hz : ie.zero with
          | none => simp [zav, zcells, hi, hz] at h2; omega
          | some z =>
            have hzl : zcells P el = z.cells.toList := by simp [zcells, hi, hz]
            have hzs : z.cells.toList.length = ie.size := by
              rw [← hzl, ← htz, ← h2]; simp [zav]
            have hzp : 0 < z.cells.toList.length := by omega
            have hzz := zeros_ok (h := h) (ρ := ρ) (sto := sto) (z := z.cells.toList) (fl := false) len hzp
            rw [show z.cells.toList.map ofConst = zav P el by rw [zav, hzl]] at hzz
            obtain ⟨cells, g1, g2, g3, g4⟩ := fill_ok hp1 hp2 hzz hf
            refine ⟨cells, ?_, g2, ?_, g4 h4⟩
            · rw [hrun, run_buildSlice w t el len _ cells ie z hel hi hz (by rw [htz] at h3; omega) (by rw [← htz]; have := Nat.mul_pos h0 h1; omega) ?_]
              · rfl
              · rw [hpl]
                rw [htz] at g1
                rw [hzs] at g1
                have e3 : z.cells.size = ie.size := by rw [← hzs]; simp
                rw [e3]
                simpa using g1
            · rw [g3, rep_len, h2]
      cases frz with
      | true =>
        simp only [cond_true]
        intro ⟨hc, hfz⟩
        obtain ⟨cells, g1, g2, g3, g4⟩ := key hc
        have hr : isRow (P.underlying el) = false → tsize P el = 1 := hc.2.2.2.2.2
        have hfl : flat (cut (isRow (P.underlying el)) (tsize P el) len cs) = cs := cut_flat g3 hr g4
        have hm := m.freezeNew cells.toList el (all_one g2 g4)
        have e1 : cells.toList.toArray = cells := by simp
        rw [e1] at hm
        refine ⟨_, _, _, _, .inl g1, hm.1, hm.2, ?_⟩
        have hrl : RL (Mem.add h w.heap.size cells.toList) (Lf ρ sto) true cells.toList cs := (frz_all g2 hfz).mono hm.2.hle (fun _ _ x => x)
        have := RV.fz (h := Mem.add h w.heap.size cells.toList) (Lf := Lf ρ sto) (fl := false) w.heap.size 0 len (tsize P el) (cut (isRow (P.underlying el)) (tsize P el) len cs) cells.toList (by rw [hfl]; exact hrl) (cut_cells g3 hr g4)
          (fun k v hk => by simp [Mem.add] at hk ⊢; exact hk) (by rw [cut_len]; omega)
        rw [cut_len] at this
        exact this
      | false =>
        simp only [cond_false]
        intro hc
        obtain ⟨cells, g1, g2, g3, g4⟩ := key hc
        have hr : isRow (P.underlying el) = false → tsize P el = 1 := hc.2.2.2.2.2
        have hfl : flat (cut (isRow (P.underlying el)) (tsize P el) len cs) = cs := cut_flat g3 hr g4
        have hlen := g2.length
        have h16 := hc.2.2.2.1
        have hle : len ≤ len * tsize P el := Nat.le_mul_of_pos_right _ hc.1
        have hm := m.push (.cells cells el) (.arr (tsize P el) (cut (isRow (P.underlying el)) (tsize P el) len cs)) (some len) (by
          refine .inr ⟨w.heap.size, len, cells, el, by simp [upd], .of (heap_alloc_new w _), by rw [← g3, ← hlen]; simp, by rw [cut_len]; omega, by simp only [maxLen]; omega, hc.1, cut_cells g3 hr g4, all_one g2 g4, ?_⟩
          rw [hfl, cut_len, ← g3, ← hlen, List.take_length]
          exact g2.mono (fun _ _ _ x => x) (fun _ _ => Lf_push))
        refine ⟨_, _, _, _, .inl g1, hm.1, hm.2, .leaf ⟨rfl, ?_⟩⟩
        simp [LfC, upd, cut_len]
    · trivial
  · trivial

theorem buildSlice_ok {frz : Bool} {t : TypeId} {len : Nat} {parts : Array (Nat × Operand)} {o : Oper} {e : Env} {a : Act} (ho : o.op = .buildSlice t len parts) (m : Mine h ρ sto w) (he : EnvOk h ρ sto e a) :
    Res.Sound P h ρ sto w ((execOp a.eval o).run P w) (xbuildSliceD P frz sto len (evp e parts.toList) (P.underlying t)) := by
  have h1 := buildSlice_ok1 (P := P) (frz := frz) ho m he
  unfold xbuildSliceD
  split
  · rename_i el hel
    rw [hel] at h1
    split
    · rename_i hp
      have hpn : parts = #[] := by
        have : parts.toList = [] := by
          cases hq : parts.toList with
          | nil => rfl
          | cons x r => rw [hq] at hp; obtain ⟨i, x⟩ := x; simp [evp] at hp
        exact Array.ext' this
      subst hpn
      have key : 0 < tsize P el → (execOp a.eval o).run P w = .ok (.value (.slice (some ⟨w.heap.size, 0, none⟩) 0 0)) (w.alloc (.cells #[] el)) := fun h0 => by
        have hsize : (sizeOf el).run P w = .ok (tsize P el) w := sizeOf_run' h0 w
        simp [execOp, ho, Instr.buildSlice, run_underlying hel, hsize, Instr.fill, newRow, Array.range_zero']
      unfold xempty
      cases frz with
      | true =>
        intro h0
        have s := Same.alloc w (.cells #[] el)
        exact ⟨_, _, h, ρ, .inl (key h0), m.same s, Later.same s, .fz w.heap.size 0 0 _ [] [] .nil (by simp) (by simp) (Nat.le_refl _)⟩
      | false =>
        intro h0
        have hm := m.push (.cells #[] el) (.arr (tsize P el) []) (some 0) (by
          refine .inr ⟨w.heap.size, 0, #[], el, by simp [upd], .of (heap_alloc_new w _), by simp, by simp, by simp [maxLen], h0, by simp, by simp, ?_⟩
          simpa [flat] using RL.nil)
        refine ⟨_, _, _, _, .inl (key h0), hm.1, hm.2, .leaf ⟨rfl, ?_⟩⟩
        simp only [LfC, List.getElem?_concat_length]
        exact ⟨by simp, fun _ => .inl ⟨trivial, trivial, some (w.heap.size, 0), rfl⟩⟩
    · exact h1
  · trivial

theorem flat_scalar : ∀ {l : List AV}, l.all isByte = true → flat l = l
  | [], _ => rfl
  | a :: l, hb => by
    simp at hb
    have : cellsOf a = [a] := by cases a <;> first | rfl | (simp [isByte] at hb; done)
    rw [flat, this, flat_scalar (by simpa using hb.2)]; rfl

theorem byte_inv {fl u a} (r : RV h (Lf ρ sto) fl u a) (hb : isByte a = true) : ∃ n, u = .int .u8 n ∧ byteOf a = UInt8.ofNat n.toNat := by
  cases a <;> try (simp [isByte] at hb; done)
  rename_i k n
  have : k = .u8 := by cases k <;> simp [isByte] at hb ⊢
  subst this
  exact ⟨n, inv_int r, rfl⟩

theorem bytes_inv {fl : Bool} : ∀ {l : List AV} {vs : List Value}, RL h (Lf ρ sto) fl vs l → l.all isByte = true → ∃ ns : List Int, vs = ns.map (Value.int .u8) ∧ l.map byteOf = ns.map fun n => UInt8.ofNat n.toNat
  | [], _, r, _ => by cases r; exact ⟨[], rfl, rfl⟩
  | a :: l, _, r, hb => by
    cases r with
    | cons r1 r2 =>
      simp at hb
      obtain ⟨n, rfl, h2⟩ := byte_inv r1 hb.1
      obtain ⟨ns, rfl, h3⟩ := bytes_inv r2 (by simpa using hb.2)
      exact ⟨n :: ns, rfl, by simp [h2, h3]⟩

theorem foldl_bytes : ∀ (ns : List Int) (acc : List UInt8), ns.foldl (fun r n => r.push (UInt8.ofNat n.toNat)) (⟨acc.toArray⟩ : ByteArray) = ⟨(acc ++ ns.map fun n => UInt8.ofNat n.toNat).toArray⟩
  | [], acc => by simp
  | n :: ns, acc => by
    have : (⟨acc.toArray⟩ : ByteArray).push (UInt8.ofNat n.toNat) = ⟨(acc ++ [UInt8.ofNat n.toNat]).toArray⟩ := by
      apply ByteArray.ext; simp [ByteArray.push]
    simp only [List.foldl_cons, this, foldl_bytes ns]
    simp

/-- the text of cells that are bytes -/
theorem text_run {src dst el : TypeId} (hs : P.underlying src = some (.slice el)) (he : isU8 (P.underlying el) = true) (hd : P.underlying dst = some .string) {b o c : Nat} {vs : List Value} {l : List AV} {fl : Bool}
    (r : RL h (Lf ρ sto) fl vs l) (hb : l.all isByte = true) (hc : ∀ (k : Nat) v, vs[k]? = some v → w.cell? ⟨b, o + k, none⟩ = some v) :
    (convert src dst (.slice (some ⟨b, o, none⟩) l.length c)).run P w = .ok (.string ⟨(l.map byteOf).toArray⟩) w := by
  obtain ⟨ns, rfl, h2⟩ := bytes_inv r hb
  have hu8 : P.underlying el = some (.int .u8) := by
    unfold isU8 at he; split at he
    · assumption
    · cases he
  rw [run_convert_bytes_string w src dst el _ _ c hs hu8 hd, run_bytesToString w _ _ c ns, h2]
  · have := foldl_bytes ns []
    simp only [List.nil_append] at this
    rw [← this]; rfl
  · have hlen := r.length
    have := run_loadCells_list (P := P) w ⟨b, o, none⟩ (ns.map (Value.int .u8)) (fun j v hv => by rw [Addr.add_mid]; exact hc j v hv)
    rw [hlen] at this
    exact this

theorem bytesWorld_eq (w : World) (e : TypeId) (s : ByteArray) : Lib.bytesWorld w e s = w.drew.alloc (.cells (Lib.bytesCells w e s) e ((Lib.bytesCells w e s).size, (Lib.bytesCells w e s).size + 1)) := by
  have hh : (Lib.bytesWorld w e s).heap = (w.drew.alloc (.cells (Lib.bytesCells w e s) e ((Lib.bytesCells w e s).size, (Lib.bytesCells w e s).size + 1))).heap := by
    refine Array.ext_getElem? fun j => ?_
    rcases Nat.lt_trichotomy j w.heap.size with hj | hj | hj
    · rw [Lib.bytesWorld_at_old w e s j hj]
      exact ((Same.drew w).trans (Same.alloc w.drew _)).block j hj |>.symm
    · subst hj
      rw [Lib.bytesWorld_at_new]
      exact (heap_alloc_new w.drew _).symm
    · rw [Array.getElem?_eq_none (by rw [Lib.bytesWorld_size]; omega), Array.getElem?_eq_none (by simp; omega)]
  unfold Lib.bytesWorld World.freeze at hh ⊢
  simp only [Nat.succ_ne_self, if_false, Nat.one_ne_zero] at hh ⊢
  rw [hh]
  rfl

theorem convert_ok {wr : Bool} {s d : TypeId} {x : Operand} {o : Oper} {e : Env} {a : Act} (ho : o.op = .convert s d x) (m : Mine h ρ sto w) (he : EnvOk h ρ sto e a) :
    Res.Sound P h ρ sto w ((execOp a.eval o).run P w) (xconv wr (P.underlying s) (P.underlying d) (P.underlying (elemD (P.underlying s))) (P.underlying (elemD (P.underlying d))) sto (ev e x)) := by
  have hx := ev_ok he x
  have hrun : (execOp a.eval o).run P w = ((convert s d (a.eval x)).run P w).andThen fun v w' => .ok (.value v) w' := by simp [execOp, ho]
  rw [hrun]
  generalize a.eval x = u at *
  unfold xconv
  split
  · rename_i k hd
    split
    · rename_i k1 k2 n hs hv
      rw [hv] at hx
      have hr : (convert s d u).run P w = .ok (.int k (k.wrap n)) w := by
        rw [inv_int hx]
        simp [convert, run_underlying hs, run_underlying hd, Conv.intToInt]
      cases wr with
      | true => exact okv_pure m (by rw [hr]; rfl) (.int _ _)
      | false =>
        intro hi
        exact okv_pure m (by rw [hr, wrap_inr hi]; rfl) (.int _ _)
    · trivial
  · rename_i hd
    split
    · rename_i t hs hv
      rw [hv] at hx
      exact okv_pure m (by rw [inv_str hx]; simp [convert, run_underlying hs, run_underlying hd]) (.str _)
    · rename_i el hs
      simp only [hs, elemD]
      cases hu : isU8 (P.underlying el) with
      | false => trivial
      | true =>
        simp only [cond_true]
        unfold xtext
        split
        · rename_i ee l hv
          rw [hv] at hx
          intro ⟨he1, hb⟩
          subst he1
          refine okv_pure m (u := .string ⟨(l.map byteOf).toArray⟩) ?_ (.str _)
          rcases inv_fz hx with ⟨rfl, rfl⟩ | ⟨b, oo, c, vs, rfl, h2, h3, h4, h5⟩
          · have hu8 : P.underlying el = some (.int .u8) := by
              unfold isU8 at hu; split at hu
              · assumption
              · cases hu
            rw [run_convert_bytes_string w s d el _ _ _ hs hu8 hd]
            simp [Conv.bytesToString]; rfl
          · have hfl : flat l = l := flat_scalar hb
            rw [hfl] at h2
            rw [text_run hs hu hd h2 hb (fun k v hk => (m.mem b _ v (h4 k v hk)).1)]; rfl
        · rename_i id off len cap hv
          rw [hv] at hx
          split
          · rename_i ee l hb
            intro ⟨he1, hcap, hlc, hby⟩
            subst he1
            have hso := sto_get hb
            have hl := (inv_sl hx).2
            simp only [LfC, hso] at hl
            have hu8 : P.underlying el = some (.int .u8) := by
              unfold isU8 at hu; split at hu
              · assumption
              · cases hu
            rcases hl.2 hcap with ⟨h6, h5, aa, rfl⟩ | ⟨g, tot, h5, rfl, h7⟩
            · subst h6
              refine okv_pure m (u := .string ⟨[].toArray⟩) ?_ (by simp; exact .str _)
              rw [run_convert_bytes_string w s d el _ _ _ hs hu8 hd]
              cases aa <;> simp [Conv.bytesToString, loadCells, loadCellsFrom] <;> rfl
            · rcases m.own id _ hso with ⟨_, hno⟩ | ⟨g', tot', cur, t, h3, h4, h5', h6, h7', h8, h9, h10, h11⟩
              · simp [hno] at h5
              · rw [h3] at h5
                simp only [Option.some.injEq, Prod.mk.injEq] at h5
                obtain ⟨rfl, rfl⟩ := h5
                have hr := (h11.drop off).take len
                have hfl : (flat l).drop off = flat (l.drop off) := by have := flat_drop h9 off; rwa [Nat.mul_one] at this
                have hfl2 : (flat (l.drop off)).take len = flat ((l.drop off).take len) := by
                  have := flat_take (l := l.drop off) (esz := 1) (fun x hx => h9 x (List.mem_of_mem_drop hx)) len; rwa [Nat.mul_one] at this
                rw [hfl, hfl2, flat_scalar hby] at hr
                have hlen : ((l.drop off).take len).length = len := by simp; omega
                refine okv_pure m (u := .string ⟨(((l.drop off).take len).map byteOf).toArray⟩) ?_ (.str _)
                have := text_run (P := P) (w := w) (b := g') (o := off * 1) (c := tot' - off) hs hu hd hr hby (fun k v hk => by
                  rw [h4.cell]
                  rw [List.getElem?_take] at hk
                  split at hk
                  · rw [List.getElem?_drop, List.getElem?_take] at hk
                    split at hk
                    · simpa using hk
                    · simp at hk
                  · simp at hk)
                rw [hlen] at this
                rw [this]; rfl
          · trivial
        · rename_i hv
          rw [hv] at hx
          have hu8 : P.underlying el = some (.int .u8) := by
            unfold isU8 at hu; split at hu
            · assumption
            · cases hu
          refine okv_pure m (u := .string ⟨[].toArray⟩) ?_ (.str _)
          rw [inv_raw hx, run_convert_bytes_string w s d el _ _ _ hs hu8 hd]
          simp [Conv.bytesToString]; rfl
        · trivial
    · rename_i k1 k2 n hs hv
      rw [hv] at hx
      intro ⟨h0, h1⟩
      refine okv_pure m (u := .string ⟨[UInt8.ofNat n.toNat].toArray⟩) ?_ (.str _)
      have henc : Utf8.encode n = ⟨[UInt8.ofNat n.toNat].toArray⟩ := by
        have hv : Utf8.valid n = true := by unfold Utf8.valid; simp; omega
        have hlt : n.toNat < 128 := by omega
        simp [Utf8.encode, hv, hlt]
      rw [inv_int hx, run_convert_int_string w s d k2 n (by rw [hs]; rfl) hd, henc]
      rfl
    · trivial
  · rename_i el hd
    split
    · rename_i hs
      simp only [hd, elemD]
      cases hu : isU8 (P.underlying el) with
      | false => trivial
      | true =>
        simp only [cond_true]
        unfold xbytes
        split
        · rename_i l hv
          rw [hv] at hx
          intro hl
          have hu8 : P.underlying el = some (.int .u8) := by
            unfold isU8 at hu; split at hu
            · assumption
            · cases hu
          have hrun2 := Lib.run_convert_string_bytes (P := P) w s d el ⟨l.toArray⟩ hs hd hu8
          rw [bytesWorld_eq] at hrun2
          rw [inv_str hx, hrun2]
          have hge := grownCap_ge w (ByteArray.size ⟨l.toArray⟩) 0 el
          have hmx := grownCap_le_maxLen w (ByteArray.size ⟨l.toArray⟩) 0 el (by show l.toArray.size ≤ _; simp [maxLen]; omega)
          have hsz : ByteArray.size ⟨l.toArray⟩ = l.length := by show l.toArray.size = _; simp
          rw [hsz] at hge hmx ⊢
          have hcs : (Lib.bytesCells w el ⟨l.toArray⟩).size = grownCap w l.length 0 el := by simp [Lib.bytesCells, hsz]; omega
          have hfl : flat (l.map fun b => AV.int .u8 b.toNat) = l.map fun b => AV.int .u8 b.toNat := flat_scalar (by simp [List.all_eq_true, isByte])
          have m0 := m.same (Same.drew w)
          have hm := m0.push (.cells (Lib.bytesCells w el ⟨l.toArray⟩) el ((Lib.bytesCells w el ⟨l.toArray⟩).size, (Lib.bytesCells w el ⟨l.toArray⟩).size + 1)) (.arr 1 (l.map fun b => .int .u8 b.toNat)) (some (grownCap w l.length 0 el)) (by
            refine .inr ⟨w.heap.size, grownCap w l.length 0 el, Lib.bytesCells w el ⟨l.toArray⟩, el, by simp [upd], ⟨_, heap_alloc_new w.drew _, .inr (Nat.le_refl _)⟩, by rw [hcs]; omega, by simpa using hge, hmx, by omega, ?_, ?_, ?_⟩
            · intro x hx
              obtain ⟨b, _, rfl⟩ := List.mem_map.1 hx
              rfl
            · intro v hv
              simp only [Lib.bytesCells, Array.toList_append, List.mem_append, Array.toList_map, List.mem_map, Array.toList_replicate, List.mem_replicate] at hv
              rcases hv with ⟨b, _, rfl⟩ | ⟨_, rfl⟩ <;> rfl
            · rw [hfl, Nat.mul_one, List.length_map]
              have : (Lib.bytesCells w el ⟨l.toArray⟩).toList.take l.length = l.map fun b => Value.int .u8 b.toNat := by
                simp only [Lib.bytesCells, Array.toList_append, Array.toList_map]
                rw [List.take_append_of_le_length (by simp), List.take_of_length_le (by simp)]
              rw [this]
              generalize Lf _ _ = LL
              generalize l = q
              induction q with
              | nil => exact .nil
              | cons b q ih => exact .cons (.int _ _) ih)
          refine ⟨_, _, _, _, .inl rfl, hm.1, (Later.same (Same.drew w)).trans hm.2, .leaf ⟨rfl, ?_⟩⟩
          simp only [LfC, List.getElem?_concat_length, List.length_map]
          exact ⟨by omega, fun _ => .inr ⟨w.heap.size, grownCap w l.length 0 el, by simp [upd], by simp, Nat.le_refl _⟩⟩
        · trivial
    · trivial
  · trivial

end
end Go.Av
/- Slices: cuts, makes, appends, copies. Own work of this seat. -/
set_option linter.unusedSimpArgs false
set_option linter.unusedVariables false
namespace Go.Av
open Go Go.RowKit

section
variable {h : Mem} {ρ : Own} {sto : List Blk} {w : World} {P : Program}

/-- what is read of a source: its cells, at whatever world with this heap -/
def SrcOk (P : Program) (h : Mem) (ρ : Own) (sto : List Blk) (w : World) (sz : Nat) (v : Value) (L : List AV) : Prop :=
  ∃ cells : List Value, (∀ w' : World, (Builtin.lenOf v).run P w' = .ok L.length w') ∧ (∀ w' : World, w'.heap = w.heap → ∀ k, k ≤ L.length → (Builtin.firstCells sz k v).run P w' = .ok (cells.take (k * sz)).toArray w') ∧
    RL h (Lf ρ sto) false cells (flat L) ∧ (∀ x ∈ L, (cellsOf x).length = sz) ∧ (∀ v ∈ cells, v.oneCell' = true)

theorem firstCells_at {w' : World} {sz k b o len cap : Nat} {cells : List Value} (hk : k * sz ≤ cells.length) (hc : ∀ (j : Nat) v, cells[j]? = some v → w'.cell? ⟨b, o + j, none⟩ = some v) :
    (Builtin.firstCells sz k (.slice (some ⟨b, o, none⟩) len cap)).run P w' = .ok (cells.take (k * sz)).toArray w' := by
  have := run_firstCells_some (P := P) w' sz k ⟨b, o, none⟩ len cap (cells.take (k * sz)) (by simp; omega) (fun j v hj => by
    rw [Addr.add_mid]
    rw [List.getElem?_take] at hj
    split at hj
    · exact hc j v hj
    · simp at hj)
  exact this

theorem cell_heap {w w' : World} (hh : w'.heap = w.heap) (a : Addr) : w'.cell? a = w.cell? a := by simp [World.cell?, hh]

theorem flat_bytes : ∀ s : List UInt8, flat (s.map byteAV) = s.map byteAV
  | [] => rfl
  | b :: s => by simp only [List.map_cons, flat]; rw [flat_bytes s]; rfl

theorem src_ok (m : Mine h ρ sto w) {sz : Nat} {v : Value} {x : AV} {L : List AV} {p : Prop} (hs : srcOf sto sz x = some (L, p)) (hp : p) (r : RV h (Lf ρ sto) false v x) : SrcOk P h ρ sto w sz v L := by
  unfold srcOf at hs
  split at hs
  · rename_i e l
    simp only [Option.some.injEq, Prod.mk.injEq] at hs
    obtain ⟨rfl, rfl⟩ := hs
    subst hp
    rcases inv_fz r with ⟨rfl, rfl⟩ | ⟨b, o, c, vs, rfl, h2, h3, h4, h5⟩
    · refine ⟨[], fun w' => by simp [Builtin.lenOf], fun w' _ k hk => ?_, .nil, by simp, by simp⟩
      simp [Builtin.firstCells]
    · have hl := flat_length h3
      have hvl := h2.length
      refine ⟨vs, fun w' => by simp [Builtin.lenOf], fun w' hw k hk => ?_, h2.thaw (fun _ _ _ x => x), h3, ?_⟩
      · have : k * e ≤ l.length * e := Nat.mul_le_mul_right _ hk
        exact firstCells_at (by omega) (fun j v hj => by rw [cell_heap hw]; exact (m.mem b _ v (h4 j v hj)).1)
      · intro v hv
        obtain ⟨j, hj, rfl⟩ := List.mem_iff_getElem.1 hv
        exact (m.mem b _ _ (h4 j _ (by simp [hj]))).2
  · rename_i id off n cap
    unfold srcB at hs
    split at hs
    · rename_i e l hb
      simp only [Option.some.injEq, Prod.mk.injEq] at hs
      obtain ⟨rfl, rfl⟩ := hs
      obtain ⟨he, hcap, hn⟩ := hp
      have hso := sto_get hb
      have hl := (inv_sl r).2
      simp only [LfC, hso] at hl
      rcases hl.2 hcap with ⟨h6, _, a, rfl⟩ | ⟨g, tot, h5, rfl, h7⟩
      · subst h6
        generalize at0 a = a at r ⊢
        refine ⟨[], fun w' => by simp [Builtin.lenOf], fun w' _ k hk => ?_, by simpa [flat] using RL.nil, by simp, by simp⟩
        have : k = 0 := by simpa using hk
        subst this
        cases a <;> simp [Builtin.firstCells, loadCells, loadCellsFrom]
      · rcases m.own id _ hso with ⟨_, hno⟩ | ⟨g', tot', cur, t, h3, h4, h5', h6, h7', h8, h9, h10, h11⟩
        · simp [hno] at h5
        · rw [h3] at h5
          simp only [Option.some.injEq, Prod.mk.injEq] at h5
          obtain ⟨rfl, rfl⟩ := h5
          have hes : e = sz ∨ l = [] := he
          have hfd := flat_drop h9 off
          have hft := flat_take (l := l.drop off) (esz := e) (fun x hx => h9 x (List.mem_of_mem_drop hx)) n
          have hr : RL h (Lf ρ sto) false (((cur.toList.take (l.length * e)).drop (off * e)).take (n * e)) (flat ((l.drop off).take n)) := by
            rw [← hft, ← hfd]; exact (h11.drop _).take _
          have hlen : ((l.drop off).take n).length = n := by simp; omega
          have hcells : ∀ x ∈ (l.drop off).take n, (cellsOf x).length = e := fun x hx => h9 x (List.mem_of_mem_drop (List.mem_of_mem_take hx))
          have hvl := hr.length
          have hfl := flat_length hcells
          rw [hlen] at hfl
          have hall : ∀ (j : Nat) v, (((cur.toList.take (l.length * e)).drop (off * e)).take (n * e))[j]? = some v → w.cell? ⟨g', off * e + j, none⟩ = some v := by
            intro j v hj
            rw [h4.cell]
            rw [List.getElem?_take] at hj
            split at hj
            · rw [List.getElem?_drop, List.getElem?_take] at hj
              split at hj
              · simpa using hj
              · simp at hj
            · simp at hj
          have hone : ∀ v ∈ ((cur.toList.take (l.length * e)).drop (off * e)).take (n * e), v.oneCell' = true := fun v hv => h10 v (List.mem_of_mem_take (List.mem_of_mem_drop (List.mem_of_mem_take hv)))
          rcases hes with rfl | hnil
          · refine ⟨_, fun w' => by rw [hlen]; simp [Builtin.lenOf], fun w' hw k hk => ?_, hr, hcells, hone⟩
            rw [hlen] at hk
            have : k * e ≤ n * e := Nat.mul_le_mul_right _ hk
            exact firstCells_at (by omega) (fun j v hj => by rw [cell_heap hw]; exact hall j v hj)
          · subst hnil
            have hn0 : n = 0 := by simp at hcap; omega
            subst hn0
            refine ⟨[], fun w' => by simp [Builtin.lenOf], fun w' hw k hk => ?_, by simpa [flat] using RL.nil, by simp, by simp⟩
            have : k = 0 := by simpa using hk
            subst this
            simp [Builtin.firstCells, loadCells, loadCellsFrom]
    · simp at hs
  · simp only [Option.some.injEq, Prod.mk.injEq] at hs
    obtain ⟨rfl, rfl⟩ := hs
    rw [inv_raw r]
    exact ⟨[], fun w' => by simp [Builtin.lenOf], fun w' _ k hk => by simp [Builtin.firstCells], .nil, by simp, by simp⟩
  · rename_i s
    simp only [Option.some.injEq, Prod.mk.injEq] at hs
    obtain ⟨rfl, rfl⟩ := hs
    subst hp
    rw [inv_str r]
    have hflat : flat (s.map byteAV) = s.map byteAV := flat_bytes s
    refine ⟨s.map fun b => .int .u8 b.toNat, fun w' => ?_, fun w' _ k hk => ?_, ?_, ?_, ?_⟩
    · have : (ByteArray.mk s.toArray).size = s.length := rfl
      simp [Builtin.lenOf, this]
    · simp only [Builtin.firstCells, Nat.mul_one, Sem.run_pure]
      congr 1
      have : ((ByteArray.mk s.toArray).extract 0 k).data = (s.take k).toArray := by
        simp [ByteArray.data_extract, List.extract]
      rw [this]
      simp [List.map_take]
    · rw [hflat]
      refine RL.of_get (by simp) fun k v a h1 h2 => ?_
      simp only [List.getElem?_map] at h1 h2
      cases hq : s[k]? with
      | none => simp [hq] at h1
      | some b => simp [hq] at h1 h2; subst h1; subst h2; exact .int _ _
    · intro x hx; simp at hx; obtain ⟨b, _, rfl⟩ := hx; rfl
    · intro v hv; simp at hv; obtain ⟨b, _, rfl⟩ := hv; rfl
  · simp at hs

theorem sz_info {el : TypeId} (hp : 0 < tsize P el) : ∃ i, P.info? el = some i ∧ i.size = tsize P el ∧ i.bytes = tbytes P el := by
  cases hi : P.info? el with
  | none => simp [tsize, hi] at hp
  | some i => exact ⟨i, rfl, by simp [tsize, hi], by simp [tbytes, hi]⟩

theorem zero_info {el : TypeId} (hp : 0 < tsize P el) (hz : (zav P el).length = tsize P el) : ∃ i z, P.info? el = some i ∧ i.size = tsize P el ∧ i.bytes = tbytes P el ∧ i.zero = some z ∧ zcells P el = z.cells.toList ∧ z.cells.size = tsize P el := by
  obtain ⟨i, hi, h1, h2⟩ := sz_info hp
  cases hq : i.zero with
  | none => simp [zav, zcells, hi, hq] at hz; omega
  | some z =>
    have hc : zcells P el = z.cells.toList := by simp [zcells, hi, hq]
    refine ⟨i, z, hi, h1, h2, hq, hc, ?_⟩
    have : (zcells P el).length = tsize P el := by simpa [zav] using hz
    rw [hc] at this; simpa using this

theorem SrcOk.src {sz : Nat} {tx : TypeId} {v : Value} {L : List AV} (hu : notInt (P.underlying tx) = true) (s : SrcOk P h ρ sto w sz v L) :
    ∃ cells, Src P sz tx v L.length cells w ∧ RL h (Lf ρ sto) false cells (flat L) ∧ (∀ x ∈ L, (cellsOf x).length = sz) ∧ (∀ v ∈ cells, v.oneCell' = true) := by
  obtain ⟨cells, h1, h2, h3, h4, h5⟩ := s
  have hl : cells.length = L.length * sz := by rw [h3.length, flat_length h4]
  have ht : cells.take (L.length * sz) = cells := by rw [← hl, List.take_length]
  refine ⟨cells, ⟨?_, h1, ?_, ?_, hl, h5⟩, h3, h4, h5⟩
  · unfold notInt at hu
    split at hu
    · rename_i hq; exact .inl ⟨_, hq⟩
    · rename_i hq; exact .inr hq
    · cases hu
  · rw [h2 w rfl _ (Nat.le_refl _), ht]
  · rw [h2 w.drew rfl _ (Nat.le_refl _), ht]

/-- append where there is room -/
theorem append_room {t tx ty el : TypeId} (ht : P.underlying t = some (.slice el)) (hp : 0 < tsize P el) {g o sLen sCap : Nat} {cur : Array Value} {tt : TypeId}
    (hg : HRow w g cur tt) {src : Value} {n : Nat} {cells : List Value} (hs : Src P (tsize P el) tx src n cells w) (hroom : sLen + n ≤ sCap) (hfit : o + (sLen + n) * tsize P el ≤ cur.size) :
    (Builtin.append_ #[t, tx] ty #[.slice (some ⟨g, o, none⟩) sLen sCap, src]).run P w = .ok (.slice (some ⟨g, o, none⟩) (sLen + n) sCap) (w.setRow g (splice cur.toList (o + sLen * tsize P el) cells).toArray) := by
  obtain ⟨i, hi, his, hib⟩ := sz_info hp
  rw [Nat.add_mul] at hfit
  have hst := run_storeCells_row P g (o + sLen * tsize P el) tt cells 0 cur w hg (by rw [Nat.add_zero, hs.newsLen]; omega) hs.one
  simp only [Nat.add_zero] at hst
  have hadd : (⟨g, o, none⟩ : Addr).add (sLen * tsize P el) = ⟨g, o + sLen * tsize P el, none⟩ := Addr.add_mid _ _ _
  rcases hs.kind with ⟨e', hk⟩ | hk <;> simp [Builtin.append_, run_underlying ht, run_underlying hk, sizeOf, typeInfo, hi, his, hs.len, hroom, hs.cells, hadd, hst, splice]
/-- append of nothing to nothing -/
theorem append_none {t tx ty el : TypeId} (ht : P.underlying t = some (.slice el)) (hp : 0 < tsize P el) {a : Option Addr} {src : Value} {cells : List Value} (hs : Src P (tsize P el) tx src 0 cells w) :
    (Builtin.append_ #[t, tx] ty #[.slice a 0 0, src]).run P w = .ok (.slice a 0 0) w := by
  obtain ⟨i, hi, his, hib⟩ := sz_info hp
  have hnil : cells = [] := List.eq_nil_of_length_eq_zero (by simpa using hs.newsLen)
  have hc := hs.cells
  subst hnil
  cases a <;> rcases hs.kind with ⟨e', hk⟩ | hk <;> simp [Builtin.append_, run_underlying ht, run_underlying hk, sizeOf, typeInfo, hi, his, hs.len, hc, storeCells]

theorem one_rep {z : Array Value} (h1 : ∀ v ∈ z.toList, v.oneCell' = true) (h0 : 0 < z.size) (n : Nat) : ∀ v ∈ (Builtin.zeroCells z n).toList, v.oneCell' = true := by
  intro v hv
  simp only [Builtin.zeroCells, Array.toList_map, List.mem_map] at hv
  obtain ⟨i, _, rfl⟩ := hv
  have hlt : i % z.size < z.size := Nat.mod_lt _ h0
  apply h1
  rw [getElem!_pos z _ hlt]
  exact Array.getElem_mem_toList hlt

/-- append where there is none: a new row -/
theorem append_grow {t tx ty el : TypeId} (ht : P.underlying t = some (.slice el)) (hp : 0 < tsize P el) (hz : (zav P el).length = tsize P el) (hone : (zav P el).all one = true) {base : Option Addr} {sLen sCap : Nat} {olds : List Value}
    (hold : (Builtin.firstCells (tsize P el) sLen (.slice base sLen sCap)).run P w.drew = .ok olds.toArray w.drew) {src : Value} {n : Nat} {cells : List Value} (hs : Src P (tsize P el) tx src n cells w) (hg : sCap < sLen + n)
    (hol : olds.length = sLen * tsize P el) (h1 : ∀ v ∈ olds, v.oneCell' = true) (hb : (sLen + n) * tbytes P el ≤ 140737488355328) (hm : sLen + n ≤ 9223372036854775807) :
    ∃ tot cur, (Builtin.append_ #[t, tx] ty #[.slice base sLen sCap, src]).run P w = .ok (.slice (some ⟨w.heap.size, 0, none⟩) (sLen + n) tot) (w.drew.alloc (.cells cur el)) ∧
      cur.size = tot * tsize P el ∧ sLen + n ≤ tot ∧ tot ≤ maxLen ∧ (∀ v ∈ cur.toList, v.oneCell' = true) ∧ cur.toList.take ((sLen + n) * tsize P el) = olds ++ cells := by
  obtain ⟨i, z, hi, his, hib, hiz, hzc, hzs⟩ := zero_info hp hz
  have hr := run_append_grow_src (P := P) w t tx ty el i z ht hi hiz base sLen sCap olds (by rw [his]; exact hold) src n cells (by rw [his]; exact hs) hg (by omega) (by rw [hib]; exact growslice_fits hg hb)
  have hge := grownCap_ge w (sLen + n) sCap el
  have hcm : grownCap w (sLen + n) sCap el ≤ maxLen := grownCap_le_maxLen w (sLen + n) sCap el (by simpa [maxLen] using hm)
  have hll : (olds ++ cells).length = (sLen + n) * tsize P el := by rw [List.length_append, hol, hs.newsLen, Nat.add_mul]
  refine ⟨_, _, hr, ?_, hge, hcm, ?_, ?_⟩
  · simp only [Array.size_append, List.size_toArray, hll, size_zeroCells, hzs, ← Nat.add_mul]
    congr 1; omega
  · intro v hv
    simp only [Array.toList_append, List.mem_append] at hv
    rcases hv with (hv | hv) | hv
    · exact h1 v hv
    · exact hs.one v hv
    · refine one_rep ?_ (by omega) _ v hv
      intro u hu
      rw [← hzc] at hu
      have hr : RL (fun _ _ => none) (Lf (fun _ => none) []) false (zcells P el) (zav P el) := consts_ok _
      exact all_one hr hone u hu
  · simp only [Array.toList_append, ← hll, List.take_left]

end
end Go.Av
/- append on plain data. Own work of this seat. -/
set_option linter.unusedSimpArgs false
set_option linter.unusedVariables false
namespace Go.Av
open Go Go.RowKit

section
variable {h : Mem} {ρ : Own} {sto : List Blk} {w : World} {P : Program}

/-- an empty block more, without a row -/
theorem Mine.pushNil (m : Mine h ρ sto w) (e : Nat) : Mine h ρ (sto ++ [.arr e []]) w ∧ Later h ρ sto w h ρ (sto ++ [.arr e []]) w := by
  have hρ : upd ρ sto.length none = ρ := funext fun i => by
    unfold upd; split
    · rename_i hi; rw [hi, m.out _ (Nat.le_refl _)]
    · rfl
  have hk : ∀ v a, Lf ρ sto v a → Lf ρ (sto ++ [.arr e []]) v a := fun v a l => by
    have := Lf_push (b := .arr e []) (x := none) l
    rw [hρ] at this; exact this
  refine ⟨⟨m.mem, ?_, fun id hid => m.out id (by simp at hid; omega), m.inj, m.disj⟩, ⟨fun _ _ _ x => x, fun _ _ a b => (b a).elim, hk, rfl, rfl, rfl, Nat.le_refl _, fun _ _ _ => rfl, fun i _ t x => .inl ⟨i, t, x⟩⟩⟩
  intro id blk e1
  by_cases hid : id < sto.length
  · rw [List.getElem?_append_left hid] at e1
    exact (m.own id blk e1).mono (fun _ _ _ x => x) hk rfl (fun _ _ _ => rfl)
  · have hlt := (List.getElem?_eq_some_iff.1 e1).1
    simp at hlt
    have : id = sto.length := by omega
    subst this
    simp at e1
    subst e1
    exact .inl ⟨rfl, m.out _ (Nat.le_refl _)⟩

theorem LfC_setNil {id e e' : Nat} (hb : sto[id]? = some (.arr e [])) (hn : ρ id = none) {v : Value} {a : AV} (l : LfC ρ sto v a) : LfC ρ (sto.set id (.arr e' [])) v a := by
  have hid := (List.getElem?_eq_some_iff.1 hb).1
  have other : ∀ i, i ≠ id → (sto.set id (.arr e' []))[i]? = sto[i]? := fun i hi => by rw [List.getElem?_set_ne (Ne.symm hi)]
  have this' : (sto.set id (.arr e' []))[id]? = some (.arr e' []) := by simp [hid]
  cases a <;> simp only [LfC] at l ⊢
  case sl i off len cap =>
    by_cases hi : i = id
    · subst hi; rw [this']; rw [hb] at l; simpa [hn] using l
    · rw [other i hi]; exact l
  case ptr i n j off =>
    by_cases hi : i = id
    · subst hi; rw [this']; rw [hb] at l; simp [hn] at l
    · rw [other i hi]; exact l
  case mp i =>
    by_cases hi : i = id
    · subst hi; rw [hb] at l; rw [this']; trivial
    · rw [other i hi]; exact l

theorem set_same {id : Nat} {b : Blk} (hb : sto[id]? = some b) : sto.set id b = sto := by
  apply List.ext_getElem?
  intro i
  rw [List.getElem?_set]
  split
  · rename_i h1; subst h1; rw [hb]; simp [(List.getElem?_eq_some_iff.1 hb).1]
  · rfl

/-- an empty block: if it has no row, the width of its elements is free -/
theorem Mine.setNil (m : Mine h ρ sto w) {id e : Nat} (e' : Nat) (hb : sto[id]? = some (.arr e [])) (he : e = e' ∨ ([] : List AV) = [] ∧ e = 0) : Mine h ρ (sto.set id (.arr e' [])) w ∧ Later h ρ sto w h ρ (sto.set id (.arr e' [])) w := by
  have hid := (List.getElem?_eq_some_iff.1 hb).1
  rcases he with rfl | ⟨_, rfl⟩
  · rw [set_same hb]; exact ⟨m, .refl ..⟩
  have hn : ρ id = none := by
    rcases m.own id _ hb with ⟨_, hno⟩ | ⟨g', tot', cur, tt, h3, h4, h5', h6, h7', h8, h9, h10, h11⟩
    · exact hno
    · omega
  have hk : ∀ v a, Lf ρ sto v a → Lf ρ (sto.set id (.arr e' [])) v a := fun v a l => ⟨l.1, LfC_setNil hb hn l.2⟩
  refine ⟨⟨m.mem, ?_, fun i hi => m.out i (by simpa using hi), m.inj, m.disj⟩, ⟨fun _ _ _ x => x, fun _ _ a b => (b a).elim, hk, rfl, rfl, rfl, Nat.le_refl _, fun _ _ _ => rfl, fun i _ t x => .inl ⟨i, t, x⟩⟩⟩
  intro i blk e1
  by_cases hi : i = id
  · subst hi
    simp [hid] at e1
    subst e1
    exact .inl ⟨rfl, hn⟩
  · rw [List.getElem?_set_ne (Ne.symm hi)] at e1
    exact (m.own i blk e1).mono (fun _ _ _ x => x) hk rfl (fun _ _ _ => rfl)

section
variable {t tx ty el : TypeId} {src : Value} {cells : List Value} {L : List AV} {r : Result Next}

theorem drew_grow (w : World) (o : Obj) : Same w (w.drew.alloc o) := (Same.drew w).trans (Same.alloc w.drew o)

theorem drew_lt (w : World) (o : Obj) : w.heap.size < (w.drew.alloc o).heap.size := by simp

/-- append to nothing -/
theorem appNil_ok (m : Mine h ρ sto w) (ht : P.underlying t = some (.slice el)) (hs : Src P (tsize P el) tx src L.length cells w) (hrl : RL h (Lf ρ sto) false cells (flat L)) (hsz : ∀ x ∈ L, (cellsOf x).length = tsize P el)
    (hr : r = ((Builtin.append_ #[t, tx] ty #[.slice none 0 0, src]).run P w).andThen fun v w' => .ok (.value v) w') (hp : 0 < tsize P el) (hz : (zav P el).length = tsize P el) (hone : (zav P el).all one = true)
    (hb : L.length * tbytes P el ≤ 140737488355328) (hm : L.length ≤ 9223372036854775807) : Okv h ρ sto w r (.sl sto.length 0 L.length L.length) (sto ++ [.arr (tsize P el) L]) := by
  by_cases hL : L.length = 0
  · have : L = [] := List.eq_nil_of_length_eq_zero hL
    subst this
    rw [append_none ht hp hs] at hr
    obtain ⟨m1, l1⟩ := m.pushNil (tsize P el)
    exact ⟨_, _, _, _, .inl hr, m1, l1, .leaf ⟨rfl, by simp only [LfC, List.getElem?_concat_length]; exact ⟨by simp, fun _ => .inl ⟨rfl, rfl, none, rfl⟩⟩⟩⟩
  · obtain ⟨tot, cur, hrun, h1, h2, h3, h4, h5⟩ := append_grow (ty := ty) ht hp hz hone (base := none) (sLen := 0) (sCap := 0) (olds := []) (by simp [Builtin.firstCells]) hs (by omega) (by simp) (by simp) (by simpa using hb) (by simpa using hm)
    rw [hrun] at hr
    simp only [Nat.zero_add, List.nil_append] at h2 h5 hr
    have m0 := m.same (Same.drew w)
    have hm := m0.push (.cells cur el) (.arr (tsize P el) L) (some tot) (by
      refine .inr ⟨w.heap.size, tot, cur, el, by simp [upd], .of (heap_alloc_new w.drew _), h1, h2, h3, hp, hsz, h4, ?_⟩
      rw [h5]
      exact hrl.mono (fun _ _ _ x => x) (fun _ _ => Lf_push))
    refine ⟨_, _, _, _, .inl hr, hm.1, (Later.same (Same.drew w)).trans hm.2, .leaf ⟨rfl, ?_⟩⟩
    simp [LfC, upd]

/-- append at the end of a block -/
theorem appTop_ok (m : Mine h ρ sto w) (ht : P.underlying t = some (.slice el)) (hs : Src P (tsize P el) tx src L.length cells w) (hrl : RL h (Lf ρ sto) false cells (flat L)) (hsz : ∀ x ∈ L, (cellsOf x).length = tsize P el)
    {dst : Value} {id e : Nat} {l : List AV} (hb : sto[id]? = some (.arr e l)) (hd : LfC ρ sto dst (.sl id 0 l.length l.length))
    (hr : r = ((Builtin.append_ #[t, tx] ty #[dst, src]).run P w).andThen fun v w' => .ok (.value v) w') (hp : 0 < tsize P el) (hz : (zav P el).length = tsize P el) (hone : (zav P el).all one = true)
    (he : e = tsize P el ∨ l = [] ∧ e = 0)
    (hby : (l.length + L.length) * tbytes P el ≤ 140737488355328) (hm : l.length + L.length ≤ 9223372036854775807) : Okv h ρ sto w r (.sl id 0 (l.length + L.length) (l.length + L.length)) (sto.set id (.arr (tsize P el) (l ++ L))) := by
  have hid := (List.getElem?_eq_some_iff.1 hb).1
  simp only [LfC, hb] at hd
  rcases hd.2 (by omega) with ⟨h5, _, a, rfl⟩ | ⟨g, tot, h5, rfl, h7⟩
  · have : l = [] := List.eq_nil_of_length_eq_zero h5
    subst this
    by_cases hL : L.length = 0
    · have : L = [] := List.eq_nil_of_length_eq_zero hL
      subst this
      rw [append_none ht hp hs] at hr
      obtain ⟨m1, l1⟩ := m.setNil (tsize P el) hb he
      exact ⟨_, _, _, _, .inl hr, m1, l1, .leaf ⟨rfl, by simp only [LfC, List.append_nil, List.getElem?_set_self hid]; exact ⟨by simp, fun _ => .inl ⟨rfl, rfl, a, rfl⟩⟩⟩⟩
    · obtain ⟨tot, cur, hrun, h1, h2, h3, h4, h5⟩ := append_grow (ty := ty) ht hp hz hone (base := at0 a) (sLen := 0) (sCap := 0) (olds := []) (by generalize at0 a = a; cases a <;> simp [Builtin.firstCells, loadCells, loadCellsFrom]) hs (by omega) (by simp) (by simp) (by simpa using hby) (by simpa using hm)
      rw [hrun] at hr
      simp only [Nat.zero_add, List.nil_append, List.length_nil] at h2 h5 hr ⊢
      have hm := m.move (e' := tsize P el) (l' := L) hb (by simp; omega) tot (drew_grow w (.cells cur el)) (drew_lt w _) (by
        refine .inr ⟨w.heap.size, tot, cur, el, by simp [upd], .of (heap_alloc_new w.drew _), h1, h2, h3, hp, hsz, h4, ?_⟩
        rw [h5]
        exact hrl.mono (fun _ _ _ x => x) (fun v a lf => ⟨lf.1, LfC_set hb (fun i hi => by simp [upd, hi]) (Or.inr (by simp; omega) : (_ ∧ _ ∧ _) ∨ _) lf.2⟩))
      refine ⟨_, _, _, _, .inl hr, hm.1, hm.2, .leaf ⟨rfl, ?_⟩⟩
      simp [LfC, upd, hid]
  · rcases m.own id _ hb with ⟨_, hno⟩ | ⟨g', tot', cur, tt, h3, h4, h5', h6, h7', h8, h9, h10, h11⟩
    · simp [hno] at h5
    · rw [h3] at h5
      simp only [Option.some.injEq, Prod.mk.injEq] at h5
      obtain ⟨rfl, rfl⟩ := h5
      have hee : e = tsize P el := by rcases he with he | ⟨_, he⟩ <;> omega
      subst hee
      simp only [Nat.zero_mul, Nat.sub_zero] at hr h7
      have hfl := flat_length h9
      have hcl : cells.length = L.length * tsize P el := hs.newsLen
      have hcurl : cur.toList.length = tot' * tsize P el := by simp [h5']
      have hle : l.length * tsize P el ≤ tot' * tsize P el := Nat.mul_le_mul_right _ h6
      by_cases hroom : l.length + L.length ≤ tot'
      · have hle2 : (l.length + L.length) * tsize P el ≤ tot' * tsize P el := Nat.mul_le_mul_right _ hroom
        rw [append_room (ty := ty) ht hp h4 hs hroom (by rw [h5']; omega), Nat.zero_add] at hr
        have hspl : (splice cur.toList (l.length * tsize P el) cells).length = cur.size := by
          rw [splice_length (by rw [hcl, hcurl, ← Nat.add_mul]; exact hle2)]; simp
        have hw := h4.set (cs := (splice cur.toList (l.length * tsize P el) cells).toArray) (by simp [hspl])
        have hset : ∀ v a, Lf ρ sto v a → Lf ρ (sto.set id (.arr (tsize P el) (l ++ L))) v a := fun v a lf => ⟨lf.1, LfC_set hb (fun _ _ => rfl) (by
          by_cases hL : L.length = 0
          · exact .inl ⟨rfl, by simp [hL], rfl⟩
          · exact .inr (by simp; omega)) lf.2⟩
        have hm := m.write (w' := w.setRow g' (splice cur.toList (l.length * tsize P el) cells).toArray) hb h3 (b' := .arr (tsize P el) (l ++ L)) (by
            by_cases hL : L.length = 0
            · exact .inl ⟨rfl, by simp [hL]⟩
            · exact .inr (by simp; omega)) rfl rfl rfl (by simp) (fun k hk => setRow_other w g' k _ hk) (by
          refine .inr ⟨g', tot', _, tt, h3, hw, by simp [hspl, h5'], by simpa using hroom, h7', hp, ?_, ?_, ?_⟩
          · intro y hy
            rcases List.mem_append.1 hy with hy | hy
            · exact h9 y hy
            · exact hsz y hy
          · intro y hy
            simp only [List.toList_toArray, splice, List.mem_append] at hy
            rcases hy with (hy | hy) | hy
            · exact h10 y (List.mem_of_mem_take hy)
            · exact hs.one y hy
            · exact h10 y (List.mem_of_mem_drop hy)
          · have e1 : (splice cur.toList (l.length * tsize P el) cells).take ((l ++ L).length * tsize P el) = cur.toList.take (l.length * tsize P el) ++ cells := by
              unfold splice
              have : ((l ++ L).length * tsize P el) = (cur.toList.take (l.length * tsize P el) ++ cells).length := by
                rw [List.length_append, List.length_append, List.length_take, hcurl, Nat.min_eq_left hle, hcl, Nat.add_mul]
              rw [this, List.take_left]
            simp only [List.toList_toArray]
            rw [e1, flat_append]
            exact (h11.append hrl).mono (fun _ _ _ x => x) hset)
        refine ⟨_, _, _, _, .inl hr, hm.1, hm.2, .leaf ⟨rfl, ?_⟩⟩
        simp [LfC, hid, h3]
      · have hrd := firstCells_at (P := P) (w' := w.drew) (sz := tsize P el) (k := l.length) (b := g') (o := 0) (len := l.length) (cap := tot') (cells := cur.toList.take (l.length * tsize P el)) (by rw [List.length_take, hcurl]; omega) (fun j v hj => by
          rw [cell_heap (w := w) (w' := w.drew) rfl, h4.cell]
          rw [List.getElem?_take] at hj
          split at hj
          · simpa using hj
          · simp at hj)
        rw [List.take_take, Nat.min_self] at hrd
        obtain ⟨tot, cur', hrun, k1, k2, k3, k4, k5⟩ := append_grow (ty := ty) ht hp hz hone hrd hs (by omega) (by rw [List.length_take, hcurl, Nat.min_eq_left hle]) (fun v hv => h10 v (List.mem_of_mem_take hv)) hby hm
        rw [hrun] at hr
        have hm := m.move (e' := tsize P el) (l' := l ++ L) hb (by simp; omega) tot (drew_grow w (.cells cur' el)) (drew_lt w _) (by
          refine .inr ⟨w.heap.size, tot, cur', el, by simp [upd], .of (heap_alloc_new w.drew _), k1, by simpa using k2, k3, hp, ?_, k4, ?_⟩
          · intro y hy
            rcases List.mem_append.1 hy with hy | hy
            · exact h9 y hy
            · exact hsz y hy
          · rw [List.length_append, k5, flat_append]
            exact (h11.append hrl).mono (fun _ _ _ x => x) (fun v a lf => ⟨lf.1, LfC_set hb (fun i hi => by simp [upd, hi]) (Or.inr (by simp; omega) : (_ ∧ _ ∧ _) ∨ _) lf.2⟩))
        refine ⟨_, _, _, _, .inl hr, hm.1, hm.2, .leaf ⟨rfl, ?_⟩⟩
        simp [LfC, upd, hid]

end
end
end Go.Av
/- Writes in place: append over a block's places, copy. Own work of this seat. -/
set_option linter.unusedSimpArgs false
set_option linter.unusedVariables false
namespace Go.Av
open Go Go.RowKit

section
variable {h : Mem} {ρ : Own} {sto : List Blk} {w : World} {P : Program}

theorem flat_splice' {e : Nat} {l L : List AV} (hl : ∀ x ∈ l, (cellsOf x).length = e) (hL : ∀ x ∈ L, (cellsOf x).length = e) (k : Nat) : flat (splice' l k L) = splice (flat l) (k * e) (flat L) := by
  unfold splice' splice
  rw [flat_append, flat_append, flat_take hl, flat_length hL, ← Nat.add_mul, flat_drop hl]

theorem splice'_length {l L : List AV} {k : Nat} (hk : k + L.length ≤ l.length) : (splice' l k L).length = l.length := splice_length hk

theorem splice_ok (m : Mine h ρ sto w) {id e : Nat} {l L : List AV} (hb : sto[id]? = some (.arr e l)) {g tot : Nat} {cur : Array Value} {tt : TypeId} (h3 : ρ id = some (g, tot)) (h4 : HRow w g cur tt)
    (h5 : cur.size = tot * e) (h6 : l.length ≤ tot) (h7 : tot ≤ maxLen) (h8 : 0 < e) (h9 : ∀ x ∈ l, (cellsOf x).length = e) (h10 : ∀ v ∈ cur.toList, v.oneCell' = true) (h11 : RL h (Lf ρ sto) false (cur.toList.take (l.length * e)) (flat l))
    {cells : List Value} (hrl : RL h (Lf ρ sto) false cells (flat L)) (hsz : ∀ x ∈ L, (cellsOf x).length = e) (hone : ∀ v ∈ cells, v.oneCell' = true) {k : Nat} (hk : k + L.length ≤ l.length) :
    Mine h ρ (sto.set id (.arr e (splice' l k L))) (w.setRow g (splice cur.toList (k * e) cells).toArray) ∧ Later h ρ sto w h ρ (sto.set id (.arr e (splice' l k L))) (w.setRow g (splice cur.toList (k * e) cells).toArray) := by
  have hcl : cells.length = L.length * e := by rw [hrl.length, flat_length hsz]
  have hlen := splice'_length hk
  have hcurl : cur.toList.length = tot * e := by simp [h5]
  have hle : l.length * e ≤ tot * e := Nat.mul_le_mul_right _ h6
  have hke : (k + L.length) * e ≤ l.length * e := Nat.mul_le_mul_right _ hk
  rw [Nat.add_mul] at hke
  have hspl : (splice cur.toList (k * e) cells).length = cur.size := by
    rw [splice_length (by rw [hcl, hcurl]; omega)]; simp
  have hw := h4.set (cs := (splice cur.toList (k * e) cells).toArray) (by simp [hspl])
  refine m.write (w' := w.setRow g (splice cur.toList (k * e) cells).toArray) hb h3 (b' := .arr e (splice' l k L)) (.inl ⟨rfl, hlen⟩) rfl rfl rfl (by simp) (fun k' hk' => setRow_other w g k' _ hk') ?_
  refine .inr ⟨g, tot, _, tt, h3, hw, by simp [hspl, h5], by rw [hlen]; exact h6, h7, h8, ?_, ?_, ?_⟩
  · intro y hy
    simp only [splice', List.mem_append] at hy
    rcases hy with (hy | hy) | hy
    · exact h9 y (List.mem_of_mem_take hy)
    · exact hsz y hy
    · exact h9 y (List.mem_of_mem_drop hy)
  · intro y hy
    simp only [List.toList_toArray, splice, List.mem_append] at hy
    rcases hy with (hy | hy) | hy
    · exact h10 y (List.mem_of_mem_take hy)
    · exact hone y hy
    · exact h10 y (List.mem_of_mem_drop hy)
  · rw [hlen, flat_splice' h9 hsz]
    have e1 : (splice cur.toList (k * e) cells).take (l.length * e) = splice (cur.toList.take (l.length * e)) (k * e) cells := by
      apply List.ext_getElem?
      intro i
      rw [List.getElem?_take, splice_get (by rw [hcl, hcurl]; omega), splice_get (by rw [List.length_take, hcurl, Nat.min_eq_left hle, hcl]; omega)]
      simp only [List.getElem?_take]
      by_cases hi : i < l.length * e
      · simp [hi]
      · have : ¬ i < k * e := by omega
        have h2' : ¬ i < k * e + cells.length := by rw [hcl]; omega
        simp only [hi, this, h2', if_false]
    simp only [List.toList_toArray]
    rw [e1]
    exact (h11.splice hrl _).mono (fun _ _ _ x => x) (fun v a lf => ⟨lf.1, LfC_set hb (fun _ _ => rfl) (Or.inl ⟨rfl, hlen, rfl⟩ : (_ ∧ _ ∧ _) ∨ _) lf.2⟩)

section
variable {t tx ty el : TypeId} {src : Value} {cells : List Value} {L : List AV} {r : Result Next}

/-- append over places of a block -/
theorem appMid_ok (m : Mine h ρ sto w) (ht : P.underlying t = some (.slice el)) (hs : Src P (tsize P el) tx src L.length cells w) (hrl : RL h (Lf ρ sto) false cells (flat L)) (hsz : ∀ x ∈ L, (cellsOf x).length = tsize P el)
    {dst : Value} {id off len cap : Nat} {l : List AV} (hb : sto[id]? = some (.arr (tsize P el) l)) (hd : LfC ρ sto dst (.sl id off len cap))
    (hr : r = ((Builtin.append_ #[t, tx] ty #[dst, src]).run P w).andThen fun v w' => .ok (.value v) w') (hp : 0 < tsize P el) (hne : len ≠ cap) (hcap : off + cap = l.length) (hroom : len + L.length ≤ cap) :
    Okv h ρ sto w r (.sl id off (len + L.length) cap) (sto.set id (.arr (tsize P el) (splice' l (off + len) L))) := by
  have hid := (List.getElem?_eq_some_iff.1 hb).1
  simp only [LfC, hb] at hd
  rcases hd.2 hcap with ⟨h5, h6, _⟩ | ⟨g, tot, h5, rfl, h7⟩
  · omega
  · rcases m.own id _ hb with ⟨_, hno⟩ | ⟨g', tot', cur, tt, h3, h4, h5', h6, h7', h8, h9, h10, h11⟩
    · simp [hno] at h5
    · rw [h3] at h5
      simp only [Option.some.injEq, Prod.mk.injEq] at h5
      obtain ⟨rfl, rfl⟩ := h5
      have hle : (off + (len + L.length)) * tsize P el ≤ tot' * tsize P el := Nat.mul_le_mul_right _ (by omega)
      rw [Nat.add_mul] at hle
      rw [append_room (ty := ty) ht hp h4 hs (by omega) (by rw [h5']; exact hle), ← Nat.add_mul] at hr
      have hm := splice_ok m hb h3 h4 h5' h6 h7' h8 h9 h10 h11 hrl hsz hs.one (k := off + len) (by omega)
      refine ⟨_, _, _, _, .inl hr, hm.1, hm.2, .leaf ⟨rfl, ?_⟩⟩
      have hlen : (splice' l (off + len) L).length = l.length := splice'_length (by omega)
      simp only [LfC, List.getElem?_set_self hid, hlen]
      exact ⟨by omega, fun _ => .inr ⟨g', tot', h3, rfl, hroom⟩⟩
end

theorem append_ok {c : Call} (hf : c.callee = .builtin .append) {o : Oper} {e : Env} {a : Act} (ho : o.op = .call c) (m : Mine h ρ sto w) (he : EnvOk h ρ sto e a) :
    Res.Sound P h ρ sto w ((execOp a.eval o).run P w) (xapp2 P e sto c.args.toList c.argTypes.toList) := by
  have hrun : (execOp a.eval o).run P w = ((Builtin.append_ c.argTypes o.type (c.args.map a.eval)).run P w).andThen fun v w' => .ok (.value v) w' := by
    simp [execOp, ho, resolve, hf, invoke, builtin]
  unfold xapp2
  split
  · rename_i x y t u h1 h2
    have hx := ev_ok he x
    have hy := ev_ok he y
    have e1 : c.args.map a.eval = #[a.eval x, a.eval y] := by
      apply Array.ext'; rw [Array.toList_map, h1]; rfl
    have e2 : c.argTypes = #[t, u] := by apply Array.ext'; rw [h2]
    rw [e1, e2] at hrun
    generalize a.eval x = vx at *
    generalize a.eval y = vy at *
    generalize hr : (execOp a.eval o).run P w = r at *
    unfold xapp
    split
    · rename_i el ht
      cases hu : notInt (P.underlying u) with
      | false => trivial
      | true =>
        simp only [cond_true]
        unfold xappS
        split
        · rename_i L p hs
          have key : p → ∃ cells, Src P (tsize P el) u vy L.length cells w ∧ RL h (Lf ρ sto) false cells (flat L) ∧ (∀ x ∈ L, (cellsOf x).length = tsize P el) := fun hp => by
            obtain ⟨cells, k1, k2, k3, _⟩ := (src_ok (P := P) m hs hp hy).src hu
            exact ⟨cells, k1, k2, k3⟩
          unfold xappD
          split
          · rename_i hv
            rw [hv] at hx
            have := inv_raw hx
            subst this
            intro ⟨hp, h0, h3, h4, h5, h6⟩
            obtain ⟨cells, k1, k2, k3⟩ := key hp
            exact appNil_ok m ht k1 k2 k3 hrun h0 h3 h4 h5 h6
          · rename_i id off len cap hv
            rw [hv] at hx
            have hl := (inv_sl hx).2
            unfold xappB
            split
            · rename_i ee l hb
              have hb' := sto_get hb
              cases hq : len == cap with
              | true =>
                simp only [cond_true]
                intro ⟨hp, h0, h3, h4, h5, h6, h7, h8, h9⟩
                have hlc : len = cap := by simpa using hq
                subst hlc h5 h6
                obtain ⟨cells, k1, k2, k3⟩ := key hp
                exact appTop_ok m ht k1 k2 k3 hb' hl hrun h0 h3 h4 h7 h8 h9
              | false =>
                simp only [cond_false]
                intro ⟨hp, h0, h3, h4, h5⟩
                subst h3
                obtain ⟨cells, k1, k2, k3⟩ := key hp
                exact appMid_ok m ht k1 k2 k3 hb' hl hrun h0 (by simpa using hq) h4 h5
            · trivial
          · trivial
        · trivial
    · trivial
  · trivial

theorem copy_ok {c : Call} (hf : c.callee = .builtin .copy) {o : Oper} {e : Env} {a : Act} (ho : o.op = .call c) (m : Mine h ρ sto w) (he : EnvOk h ρ sto e a) :
    Res.Sound P h ρ sto w ((execOp a.eval o).run P w) (xcopy2 P e sto c.args.toList c.argTypes.toList) := by
  have hrun : (execOp a.eval o).run P w = ((Builtin.copy_ c.argTypes o.type (c.args.map a.eval)).run P w).andThen fun v w' => .ok (.value v) w' := by
    simp [execOp, ho, resolve, hf, invoke, builtin]
  unfold xcopy2
  split
  · rename_i x y t u h1 h2
    have hx := ev_ok he x
    have hy := ev_ok he y
    have e1 : c.args.map a.eval = #[a.eval x, a.eval y] := by
      apply Array.ext'; rw [Array.toList_map, h1]; rfl
    have e2 : c.argTypes = #[t, u] := by apply Array.ext'; rw [h2]
    rw [e1, e2] at hrun
    generalize a.eval x = vx at *
    generalize a.eval y = vy at *
    generalize hr : (execOp a.eval o).run P w = r at *
    split
    · rename_i el ht
      unfold xcopyS
      split
      · rename_i L p hs
        split
        · rename_i id off len cap hv
          rw [hv] at hx
          have hl := (inv_sl hx).2
          unfold xcopyB
          split
          · rename_i ee l hb
            have hb' := sto_get hb
            intro ⟨hp, h0, h3, h4, h5⟩
            subst h3
            obtain ⟨cells, k1, k2, k3, k4, k5⟩ := src_ok (P := P) m hs hp hy
            have hid := (List.getElem?_eq_some_iff.1 hb').1
            simp only [LfC, hb'] at hl
            have hsize : (sizeOf el).run P w = .ok (tsize P el) w := sizeOf_run' h0 w
            have hmin : Nat.min L.length len ≤ L.length := Nat.min_le_left _ _
            have hcells := k2 w rfl (Nat.min L.length len) hmin
            have hcl : cells.length = L.length * tsize P el := by rw [k3.length, flat_length k4]
            rcases hl.2 h4 with ⟨h6, h5', ad, rfl⟩ | ⟨g, tot, h5', rfl, h7⟩
            · subst h6
              have hst : splice' l off (L.take 0) = l := by simp [splice']
              rw [hst, set_same hb']
              refine ⟨.int .i64 (min L.length 0 : Nat), _, _, _, .inl ?_, m, .refl .., .int _ _⟩
              simp at hcells
              generalize at0 ad = ad at hrun ⊢
              cases ad <;> simp [hrun, Builtin.copy_, run_underlying ht, k1, hsize, hcells, goInt, storeCells]
            · rcases m.own id _ hb' with ⟨_, hno⟩ | ⟨g', tot', cur, tt, j3, j4, j5, j6, j7, j8, j9, j10, j11⟩
              · simp [hno] at h5'
              · rw [j3] at h5'
                simp only [Option.some.injEq, Prod.mk.injEq] at h5'
                obtain ⟨rfl, rfl⟩ := h5'
                have hL : (L.take len).length = min L.length len := by simp [Nat.min_comm]
                have hrl2 : RL h (Lf ρ sto) false (cells.take (Nat.min L.length len * tsize P el)) (flat (L.take len)) := by
                  have : L.take len = L.take (Nat.min L.length len) := by
                    rcases Nat.le_total L.length len with hh | hh
                    · rw [show Nat.min L.length len = L.length from Nat.min_eq_left hh, List.take_length, List.take_of_length_le hh]
                    · rw [show Nat.min L.length len = len from Nat.min_eq_right hh]
                  rw [this, ← flat_take k4]
                  exact k3.take _
                have hcl2 : (cells.take (Nat.min L.length len * tsize P el)).length = min L.length len * tsize P el := by
                  rw [hrl2.length, flat_length (fun x hx => k4 x (List.mem_of_mem_take hx)), hL]
                have hle : (off + min L.length len) * tsize P el ≤ tot' * tsize P el := Nat.mul_le_mul_right _ (by omega)
                rw [Nat.add_mul] at hle
                have hone : ∀ v ∈ cells.take (Nat.min L.length len * tsize P el), v.oneCell' = true := fun v hv => k5 v (List.mem_of_mem_take hv)
                have hst := run_storeCells_row P g' (off * tsize P el) tt (cells.take (Nat.min L.length len * tsize P el)) 0 cur w j4 (by rw [Nat.add_zero, hcl2, j5]; exact hle) hone
                simp only [Nat.add_zero] at hst
                have hm := splice_ok m hb' j3 j4 j5 j6 j7 j8 j9 j10 j11 hrl2 (fun x hx => k4 x (List.mem_of_mem_take hx)) hone (k := off) (by rw [hL]; omega)
                refine ⟨.int .i64 (min L.length len : Nat), _, _, _, .inl ?_, hm.1, hm.2, .int _ _⟩
                rw [hrun]
                simp only [Builtin.copy_, List.getElem?_toArray, List.getElem?_cons_zero, List.getElem?_cons_succ, Sem.run_bind, run_underlying ht, Result.andThen_ok, k1, hsize, hcells, Sem.run_pure, goInt, hst, List.toList_toArray]
                rfl
          · trivial
        · trivial
      · trivial
    · trivial
  · trivial
end
end Go.Av
/- Parts of slices and strings. Own work of this seat. -/
set_option linter.unusedSimpArgs false
set_option linter.unusedVariables false
namespace Go.Av
open Go Go.RowKit

section
variable {h : Mem} {ρ : Own} {sto : List Blk} {w : World} {P : Program} {e : Env} {a : Act}

theorem lo_val (he : EnvOk h ρ sto e a) {lo : Option Operand} {x : Int} (hlo : loOf (evo e lo) = some x) : (lo.map a.eval = none ∧ x = 0) ∨ ∃ k, lo.map a.eval = some (.int k x) := by
  cases lo with
  | none => simp [evo, loOf] at hlo; exact .inl ⟨rfl, hlo.symm⟩
  | some o =>
    have ho := ev_ok he o
    simp only [evo] at hlo
    unfold loOf at hlo
    split at hlo
    · rename_i hh; simp at hh
    · rename_i k b hh
      simp only [Option.some.injEq] at hh hlo
      subst hlo
      rw [hh] at ho
      exact .inr ⟨k, by simp [inv_int ho]⟩
    · simp at hlo
theorem hi_val (he : EnvOk h ρ sto e a) {hi : Option Operand} {n : Nat} {y : Int} (hhi : hiOf n (evo e hi) = some y) : (hi.map a.eval = none ∧ y = n) ∨ ∃ k, hi.map a.eval = some (.int k y) := by
  cases hi with
  | none => simp [evo, hiOf] at hhi; exact .inl ⟨rfl, hhi.symm⟩
  | some o =>
    have ho := ev_ok he o
    simp only [evo] at hhi
    unfold hiOf at hhi
    split at hhi
    · rename_i hh; simp at hh
    · rename_i k b hh
      simp only [Option.some.injEq] at hh hhi
      subst hhi
      rw [hh] at ho
      exact .inr ⟨k, by simp [inv_int ho]⟩
    · simp at hhi

theorem bounds_ok (he : EnvOk h ρ sto e a) {lo hi : Option Operand} {x y : Int} {n c : Nat} (isS : Bool) (hlo : loOf (evo e lo) = some x) (hhi : hiOf n (evo e hi) = some y) (h0 : 0 ≤ x) (h1 : x ≤ y) (h2 : y ≤ c) :
    (Instr.sliceBounds isS n c (lo.map a.eval) (hi.map a.eval) none).run P w = .ok (x.toNat, y.toNat, c) w := by
  have b1 : ∀ k code, (Instr.sliceBound (.int k y) c code).run P w = .ok y.toNat w := fun k code => run_sliceBound w k y c code (by omega) h2
  have b2 : ∀ k code, (Instr.sliceBound (.int k x) y.toNat code).run P w = .ok x.toNat w := fun k code => run_sliceBound w k x _ code h0 (by omega)
  rcases lo_val he hlo with ⟨e1, e2⟩ | ⟨k, e1⟩ <;> rcases hi_val he hhi with ⟨e3, e4⟩ | ⟨k', e3⟩ <;> rw [e1, e3]
  · subst e2 e4; simp [Instr.sliceBounds]
  · subst e2; simp [Instr.sliceBounds, b1]
  · subst e4
    have b3 : ∀ k code, (Instr.sliceBound (.int k x) n code).run P w = .ok x.toNat w := fun k code => by have := b2 k code; simpa using this
    simp [Instr.sliceBounds, b3]
  · simp [Instr.sliceBounds, b1, b2]

theorem cutL_eq {α : Type} (l : List α) {lo hi : Option AV} {x y : Int} (hlo : loOf lo = some x) (hhi : hiOf l.length hi = some y) : cutL l lo hi = (l.take y.toNat).drop x.toNat := by
  unfold loOf at hlo
  unfold hiOf at hhi
  split at hlo <;> split at hhi <;> simp_all [cutL]
  all_goals subst_vars
  all_goals simp

theorem sliceAt_run {t el : TypeId} (ht : P.underlying t = some (.slice el)) (hp : 0 < tsize P el) {ad : Option Addr} {n c x y m : Nat} {lo hi mx : Option Value} (hb : (Instr.sliceBounds true n c lo hi mx).run P w = .ok (x, y, m) w) :
    (Instr.sliceAt t (.slice ad n c) lo hi mx).run P w = .ok (.slice (if m = x then ad else ad.map (·.add (x * tsize P el))) (y - x) (m - x)) w := by
  have hsize : (sizeOf el).run P w = .ok (tsize P el) w := sizeOf_run' hp w
  simp [Instr.sliceAt, Instr.slice, run_underlying ht, hb, hsize]

theorem sliceAt_str {t : TypeId} (ht : P.underlying t = some .string) {s : ByteArray} {x y m : Nat} {lo hi : Option Value} (hb : (Instr.sliceBounds false s.size s.size lo hi none).run P w = .ok (x, y, m) w) :
    (Instr.sliceAt t (.string s) lo hi none).run P w = .ok (.string (s.extract x y)) w := by
  simp [Instr.sliceAt, Instr.slice, run_underlying ht, hb]

theorem cut_ok {t : TypeId} {x : Operand} {lo hi mx : Option Operand} {o : Oper} (ho : o.op = .slice t x lo hi mx) (m : Mine h ρ sto w) (he : EnvOk h ρ sto e a) :
    Res.Sound P h ρ sto w ((execOp a.eval o).run P w) (xcut P sto (ev e x) (evo e lo) (evo e hi) (evo e mx) (P.underlying t)) := by
  have hrun : (execOp a.eval o).run P w = ((Instr.sliceAt t (a.eval x) (lo.map a.eval) (hi.map a.eval) (mx.map a.eval)).run P w).andThen fun v w' => .ok (.value v) w' := by
    simp [execOp, ho]
  have hx := ev_ok he x
  generalize a.eval x = vx at *
  generalize hr : (execOp a.eval o).run P w = r at *
  unfold xcut
  split
  · rename_i hm ht
    have hmx : mx = none := by cases mx <;> simp [evo] at hm ⊢
    subst hmx
    split
    · rename_i l hv
      rw [hv] at hx
      have := inv_str hx
      subst this
      unfold xcutS
      split
      · rename_i xx yy hl hh
        intro ⟨h0, h1, h2⟩
        have hsz : (ByteArray.mk l.toArray).size = l.length := rfl
        have hb := bounds_ok (P := P) (w := w) he false hl hh h0 h1 h2
        refine okv_pure m (u := .string ⟨((l.take yy.toNat).drop xx.toNat).toArray⟩) ?_ (by rw [cutL_eq l hl hh]; exact .str _)
        rw [hrun, Option.map_none, sliceAt_str ht (by rw [hsz]; exact hb)]
        simp only [Result.andThen_ok]
        congr 3
        apply ByteArray.ext
        simp [ByteArray.data_extract, List.extract, List.drop_take]
      · trivial
    · trivial
  · rename_i el hm ht
    have hmx : mx = none := by cases mx <;> simp [evo] at hm ⊢
    subst hmx
    split
    · rename_i ee l hv
      rw [hv] at hx
      unfold xcutF
      split
      · rename_i xx yy hl hh
        intro ⟨hp, h3, h0, h1, h2⟩
        subst h3
        rw [cutL_eq l hl hh]
        rcases inv_fz hx with ⟨rfl, rfl⟩ | ⟨b, oo, c, vs, rfl, k1, k2, k3, k4⟩
        · have hb := bounds_ok (P := P) (w := w) (n := 0) (c := 0) he true hl hh h0 h1 h2
          have hx0 : xx.toNat = 0 := by simp at h2; omega
          refine okv_pure m (u := .slice none 0 0) ?_ (by simp; exact .fznil _)
          rw [hrun, Option.map_none, sliceAt_run ht hp hb]
          have : yy.toNat = 0 := by simp at h2; omega
          simp [hx0, this]
        · have hb := bounds_ok (P := P) (w := w) (c := c) he true hl hh h0 h1 (by omega)
          have hlen : ((l.take yy.toNat).drop xx.toNat).length = yy.toNat - xx.toNat := by simp; omega
          have hrl : RL h (Lf ρ sto) true ((vs.take (yy.toNat * tsize P el)).drop (xx.toNat * tsize P el)) (flat ((l.take yy.toNat).drop xx.toNat)) := by
            rw [← flat_drop (fun x hx => k2 x (List.mem_of_mem_take hx)), ← flat_take k2]
            exact (k1.take _).drop _
          have hvl : vs.length = l.length * tsize P el := by rw [k1.length, flat_length k2]
          by_cases hc : c = xx.toNat
          · have hnil : (l.take yy.toNat).drop xx.toNat = [] := List.eq_nil_of_length_eq_zero (by rw [hlen]; omega)
            rw [hnil]
            refine okv_pure m (u := .slice (some ⟨b, oo, none⟩) 0 0) ?_ (.fz b oo 0 _ [] [] .nil (by simp) (by simp) (Nat.le_refl _))
            rw [hrun, Option.map_none, sliceAt_run ht hp hb]
            have hyx : yy.toNat - xx.toNat = 0 := by omega
            simp [hc, hyx]
          · refine okv_pure m (u := .slice (some ⟨b, oo + xx.toNat * tsize P el, none⟩) ((l.take yy.toNat).drop xx.toNat).length (c - xx.toNat)) ?_ (.fz b _ _ _ _ _ hrl (fun x hx => k2 x (List.mem_of_mem_take (List.mem_of_mem_drop hx))) (fun k v hk => ?_) (by rw [hlen]; omega))
            · rw [hrun, Option.map_none, sliceAt_run ht hp hb, hlen]
              simp [hc, Addr.add_mid]
            · rw [List.getElem?_drop, List.getElem?_take] at hk
              split at hk
              · have := k3 _ v hk
                rwa [← Nat.add_assoc] at this
              · simp at hk
      · trivial
    · rename_i id off len cap hv
      rw [hv] at hx
      have hlf := (inv_sl hx).2
      unfold xcutB
      split
      · rename_i ee l xx yy hbk hl hh
        have hso := sto_get hbk
        intro ⟨hp, h3, h4, h5, h0, h1, h2⟩
        subst h3
        simp only [LfC, hso] at hlf
        rcases hlf.2 h4 with ⟨rfl, rfl, ad, rfl⟩ | ⟨g, tot, j1, rfl, j2⟩
        · have hb := bounds_ok (P := P) (w := w) (c := 0) he true hl hh h0 h1 (by simpa using h2)
          have hx0 : xx = 0 := by simp at h2; omega
          have hy0 : yy = 0 := by simp at h2; omega
          subst hx0 hy0
          refine okv_pure m (u := .slice (at0 ad) 0 0) ?_ (.leaf ⟨rfl, ?_⟩)
          · rw [hrun, Option.map_none, sliceAt_run ht hp hb]; simp
          · simp only [LfC, hso]
            exact ⟨by simp at h4 ⊢; omega, fun _ => .inl ⟨rfl, rfl, ad, rfl⟩⟩
        · have hown := m.own id _ hso
          rcases hown with ⟨_, hno⟩ | ⟨g', tot', cur, tt, i3, i4, i5, i6, i7, i8, i9, i10, i11⟩
          · simp [hno] at j1
          · rw [i3] at j1
            simp only [Option.some.injEq, Prod.mk.injEq] at j1
            obtain ⟨rfl, rfl⟩ := j1
            have hb := bounds_ok (P := P) (w := w) (c := tot' - off) he true hl hh h0 h1 (by omega)
            by_cases hc : tot' - off = xx.toNat
            · have hyx : yy.toNat - xx.toNat = 0 := by omega
              refine okv_pure m (u := .slice (some ⟨g', off * tsize P el, none⟩) 0 0) ?_ (.leaf ⟨rfl, ?_⟩)
              · rw [hrun, Option.map_none, sliceAt_run ht hp hb]
                simp [hc, hyx]
              · simp only [LfC, hso]
                exact ⟨by omega, fun _ => .inl ⟨by omega, by omega, some (g', off * tsize P el), rfl⟩⟩
            · refine okv_pure m (u := .slice (some ⟨g', (off + xx.toNat) * tsize P el, none⟩) (yy - xx).toNat (tot' - (off + xx.toNat))) ?_ (.leaf ⟨rfl, ?_⟩)
              · rw [hrun, Option.map_none, sliceAt_run ht hp hb]
                have : (yy - xx).toNat = yy.toNat - xx.toNat := by omega
                simp [hc, Addr.add_mid, Nat.add_mul, this, Nat.sub_add_eq]
              · simp only [LfC, hso]
                exact ⟨by omega, fun _ => .inr ⟨g', tot', i3, rfl, by omega⟩⟩
      · trivial
    · rename_i hv
      rw [hv] at hx
      have := inv_raw hx
      subst this
      unfold xcutN
      split
      · rename_i xx yy hl hh
        intro ⟨hp, h0, h1⟩
        subst h0 h1
        have hb := bounds_ok (P := P) (w := w) (n := 0) (c := 0) he true hl hh (by omega) (by omega) (by omega)
        refine okv_pure m (u := .slice none 0 0) ?_ (.raw _)
        rw [hrun, Option.map_none, sliceAt_run ht hp hb]; rfl
      · trivial
    · trivial
  · rename_i mm el hm ht
    obtain ⟨mo, rfl⟩ : ∃ mo, mx = some mo := by cases mx <;> simp [evo] at hm ⊢
    simp only [evo, Option.some.injEq] at hm
    subst hm
    have hmo := ev_ok he mo
    split
    · rename_i hlo
      have hlo' : lo = none := by cases lo <;> simp [evo] at hlo ⊢
      subst hlo'
      unfold xcut0
      split
      · rename_i k1 k2 e1 e2
        obtain ⟨ho', rfl⟩ : ∃ ho', hi = some ho' := by cases hi <;> simp [evo] at e1 ⊢
        simp only [evo, Option.some.injEq] at e1 e2
        have hho := ev_ok he ho'
        rw [e1] at hho
        rw [e2] at hmo
        have v1 := inv_int hho
        have v2 := inv_int hmo
        have hb : ∀ n c, (Instr.sliceBounds true n c none (some (.int k1 0)) (some (.int k2 0))).run P w = .ok (0, 0, 0) w := by
          intro n c
          have b1 := run_sliceBound (P := P) w k2 0 c .slice3Acap (by omega) (by omega)
          have b2 := run_sliceBound (P := P) w k1 0 0 .slice3B (by omega) (by omega)
          simp [Instr.sliceBounds, b1, b2]
        have hsl : 0 < tsize P el → ∀ ad n c, (Instr.sliceAt t (.slice ad n c) none (some (.int k1 0)) (some (.int k2 0))).run P w = .ok (.slice ad 0 0) w := by
          intro hp ad n c
          rw [sliceAt_run ht hp (hb n c)]; simp
        simp only [Option.map_some, Option.map_none, v1, v2] at hrun
        have new : ∀ (ad : Option (Nat × Nat)), r = .ok (.value (.slice (at0 ad) 0 0)) w → Okv h ρ sto w r (.sl sto.length 0 0 0) (sto ++ [.arr 0 []]) := fun ad hh => by
          obtain ⟨m1, l1⟩ := m.pushNil 0
          exact ⟨_, _, _, _, .inl hh, m1, l1, .leaf ⟨rfl, by simp only [LfC, List.getElem?_concat_length]; exact ⟨by simp, fun _ => .inl ⟨trivial, trivial, ad, rfl⟩⟩⟩⟩
        split
        · rename_i ee l hv
          rw [hv] at hx
          intro hp
          rcases inv_fz hx with ⟨_, rfl⟩ | ⟨b, oo, c, vs, rfl, _⟩
          · exact new none (by rw [hrun, hsl hp]; rfl)
          · exact new (some (b, oo)) (by rw [hrun, hsl hp]; rfl)
        · rename_i id off len cap hv
          rw [hv] at hx
          have hlf := (inv_sl hx).2
          split
          · rename_i ee l hbk
            intro ⟨hp, hcap⟩
            simp only [LfC, sto_get hbk] at hlf
            rcases hlf.2 hcap with ⟨_, _, ad, rfl⟩ | ⟨g, tot, _, rfl, _⟩
            · exact new ad (by rw [hrun, hsl hp]; rfl)
            · exact new (some (g, off * ee)) (by rw [hrun, hsl hp]; rfl)
          · trivial
        · rename_i hv
          rw [hv] at hx
          have := inv_raw hx
          subst this
          intro hp
          exact okv_pure m (u := .slice none 0 0) (by rw [hrun, hsl hp]; rfl) (.raw _)
        · trivial
      · trivial
    · rename_i lo' hlo
      obtain ⟨lo2, rfl⟩ : ∃ lo2, lo = some lo2 := by cases lo <;> simp [evo] at hlo ⊢
      simp only [evo, Option.some.injEq] at hlo
      subst hlo
      unfold xcut3
      split
      · rename_i xx yy mm e1 e2 e3
        obtain ⟨hi2, rfl⟩ : ∃ hi2, hi = some hi2 := by cases hi <;> simp [evo, ixOf] at e2 ⊢
        have val : ∀ {y : Operand} {n : Int}, ixOf (some (ev e y)) = some n → ∃ k, a.eval y = .int k n := fun {y n} hy => by
          have hh := ev_ok he y
          unfold ixOf at hy
          split at hy
          · rename_i k b hq
            simp only [Option.some.injEq] at hq hy
            rw [hq] at hh
            exact ⟨k, by rw [inv_int hh, hy]⟩
          · simp at hy
        obtain ⟨k1, v1⟩ := val e1
        obtain ⟨k2, v2⟩ := val e2
        obtain ⟨k3, v3⟩ := val e3
        simp only [Option.map_some, v1, v2, v3] at hrun
        have hb : 0 ≤ xx → xx ≤ yy → yy ≤ mm → ∀ n c : Nat, mm ≤ c → (Instr.sliceBounds true n c (some (.int k1 xx)) (some (.int k2 yy)) (some (.int k3 mm))).run P w = .ok (xx.toNat, yy.toNat, mm.toNat) w := by
          intro h0 h1 h2 n c h3
          have b1 := run_sliceBound (P := P) w k3 mm c .slice3Acap (by omega) h3
          have b2 := run_sliceBound (P := P) w k2 yy mm.toNat .slice3B (by omega) (by omega)
          have b3 := run_sliceBound (P := P) w k1 xx yy.toNat .slice3C (by omega) (by omega)
          simp [Instr.sliceBounds, b1, b2, b3]
        split
        · rename_i ee l hv
          rw [hv] at hx
          intro ⟨hp, h0, h1, h2, h3⟩
          rcases inv_fz hx with ⟨rfl, rfl⟩ | ⟨b, oo, c, vs, rfl, _, _, _, h4⟩
          · rw [sliceAt_run ht hp (hb h0 h1 h2 0 0 (by simpa using h3))] at hrun
            exact okv_pure m hrun (.any _)
          · rw [sliceAt_run ht hp (hb h0 h1 h2 _ c (by omega))] at hrun
            exact okv_pure m hrun (.any _)
        · rename_i id off len cap hv
          rw [hv] at hx
          have hlf := (inv_sl hx).2
          split
          · rename_i ee l hbk
            intro ⟨hp, hcap, hlc, h0, h1, h2, h3⟩
            have hso := sto_get hbk
            simp only [LfC, hso] at hlf
            rcases hlf.2 hcap with ⟨_, rfl, ad, rfl⟩ | ⟨g, tot, j1, rfl, _⟩
            · rw [sliceAt_run ht hp (hb h0 h1 h2 0 0 (by simpa using h3))] at hrun
              exact okv_pure m hrun (.any _)
            · rcases m.own id _ hso with ⟨_, hno⟩ | ⟨g', tot', cur, tt, i3, i4, i5, i6, _⟩
              · simp [hno] at j1
              · rw [i3] at j1
                simp only [Option.some.injEq, Prod.mk.injEq] at j1
                obtain ⟨rfl, rfl⟩ := j1
                rw [sliceAt_run ht hp (hb h0 h1 h2 _ (tot' - off) (by omega))] at hrun
                exact okv_pure m hrun (.any _)
          · trivial
        · trivial
      · trivial
  · trivial
end
end Go.Av
/- Maps of one's own: made, written, read. Own work of this seat. -/
set_option linter.unusedSimpArgs false
set_option linter.unusedVariables false
namespace Go.Av
open Go Go.RowKit

section
variable {h : Mem} {ρ : Own} {sto : List Blk} {w : World} {P : Program}

theorem ba_beq (s t : List UInt8) : ((⟨s.toArray⟩ : ByteArray) == ⟨t.toArray⟩) = (s == t) := by
  show (s.toArray == t.toArray) = (s == t)
  simp

theorem makeMap_ok {t : TypeId} {o : Oper} {a : Act} (ho : o.op = .makeMap t none) (m : Mine h ρ sto w) : Res.Sound P h ρ sto w ((execOp a.eval o).run P w) (xmkmap sto) := by
  intro _
  have hr : (execOp a.eval o).run P w = .ok (.value (.map (some w.heap.size))) (w.alloc (.map #[] 0)) := by
    simp [execOp, ho, run_makeMap_plain, Result.andThen]
  have hm := m.push (.map #[] 0) (.mp []) (some 0) ⟨w.heap.size, #[], 0, by simp [upd], (MapKept.heap_alloc w _).1, rfl, by simp⟩
  exact ⟨_, _, _, _, .inl hr, hm.1, hm.2, .leaf ⟨rfl, by simp [LfC, upd]⟩⟩

theorem isKey_ok {d : TypeDesc} {k : AV} {u : Value} {fl : Bool} (hk : isKey d k = true) (r : RV h (Lf ρ sto) fl u k) : MapKept.IsKey d u ∧ ∀ {h' : Mem} {Lf' : Value → AV → Prop} {f : Bool}, RV h' Lf' f u k := by
  cases k <;> cases d <;> simp [isKey] at hk
  · subst hk
    rw [inv_int r]
    exact ⟨rfl, .int _ _⟩
  · rw [inv_bool r]
    exact ⟨trivial, .bool _⟩
  · rw [inv_str r]
    exact ⟨trivial, .str _⟩

theorem keyEq_ok {d : TypeDesc} {k k' : AV} {u u' : Value} {fl fl' : Bool} {b : Bool} (hk : keyEq d k k' = some b) (r : RV h (Lf ρ sto) fl u k) (r' : RV h (Lf ρ sto) fl' u' k') : Instr.sameNow d u u' = some b ∧ (b = true → Instr.sameBits 10000 u' u = true) := by
  cases d <;> cases k <;> cases k' <;> simp [keyEq] at hk
  · subst hk
    rw [inv_bool r, inv_bool r']
    exact ⟨rfl, fun hb => by simpa [Instr.sameBits] using (by simpa using hb : _ = _).symm⟩
  · rename_i kd k1 n1 k2 n2
    rw [inv_int r, inv_int r']
    by_cases h1 : k1 = k2
    · subst h1
      simp at hk
      subst hk
      exact ⟨by simp [Instr.sameNow], fun hb => by simpa [Instr.sameBits] using (by simpa using hb : n1 = n2).symm⟩
    · simp [h1] at hk
  · subst hk
    rename_i s1 s2
    rw [inv_str r, inv_str r']
    refine ⟨by simp only [Instr.sameNow, ba_beq], fun hb => ?_⟩
    have : s1 = s2 := by simpa using hb
    subst this
    simp only [Instr.sameBits, ba_beq, beq_self_eq_true]

theorem mfind_ok {d : TypeDesc} {k : AV} {u : Value} {fl : Bool} (r : RV h (Lf ρ sto) fl u k) : ∀ {es : List (AV × AV)} {en : List MapEntry} {i : Nat} {x : Option (Nat × AV)}, en.length = es.length →
    (∀ (j : Nat) (x : AV × AV) (y : MapEntry), es[j]? = some x → en[j]? = some y → RV h (Lf ρ sto) true y.key x.1 ∧ RV h (Lf ρ sto) false y.val x.2) → mfind d k es i = some x →
    match x with
    | none => Instr.findNow d u en i = some none
    | some (j, v) => ∃ (y : MapEntry) (z : AV × AV), Instr.findNow d u en i = some (some (j, y.val)) ∧ i ≤ j ∧ en[j - i]? = some y ∧ es[j - i]? = some z ∧ z.2 = v ∧ Instr.sameBits 10000 y.key u = true
  | [], en, i, x, hl, _, hx => by
    simp only [mfind, Option.some.injEq] at hx
    subst hx
    have : en = [] := List.eq_nil_of_length_eq_zero (by simpa using hl)
    subst this; rfl
  | z :: es, [], i, x, hl, _, _ => by simp at hl
  | z :: es, y :: en, i, x, hl, hr, hx => by
    have h0 := hr 0 z y rfl rfl
    simp only [mfind] at hx
    split at hx
    · rename_i hq
      obtain ⟨s1, s2⟩ := keyEq_ok hq r h0.1
      simp only [Option.some.injEq] at hx
      subst hx
      exact ⟨y, z, by simp [Instr.findNow, s1], Nat.le_refl _, by simp, by simp, rfl, s2 rfl⟩
    · rename_i hq
      obtain ⟨s1, _⟩ := keyEq_ok hq r h0.1
      have ih := mfind_ok r (es := es) (en := en) (i := i + 1) (x := x) (by simpa using hl) (fun j a b h1 h2 => hr (j + 1) a b h1 h2) hx
      cases x with
      | none => simpa [Instr.findNow, s1] using ih
      | some jv =>
        obtain ⟨j, v⟩ := jv
        obtain ⟨y', z', i1, i2, i3, i4, i5, i6⟩ := ih
        have e : j - i = (j - (i + 1)) + 1 := by omega
        exact ⟨y', z', by simpa [Instr.findNow, s1] using i1, by omega, by rw [e]; simpa using i3, by rw [e]; simpa using i4, i5, i6⟩
    · cases hx

theorem mapUpdate_ok {t : TypeId} {x k v : Operand} {o : Oper} {e : Env} {a : Act} (ho : o.op = .mapUpdate t x k v) (m : Mine h ρ sto w) (he : EnvOk h ρ sto e a) :
    Res.Sound P h ρ sto w ((execOp a.eval o).run P w) (xmput P sto (ev e x) (ev e k) (ev e v) (P.underlying t)) := by
  have hx := ev_ok he x
  have hk := ev_ok he k
  have hv := ev_ok he v
  have hrun : (execOp a.eval o).run P w = ((Instr.mapUpdate t (a.eval x) (a.eval k) (a.eval v)).run P w).andThen fun _ w' => .ok .skip w' := by
    simp [execOp, ho]
  rw [hrun]
  generalize a.eval x = ux at *
  generalize a.eval k = uk at *
  generalize a.eval v = uv at *
  generalize ev e k = ka at *
  generalize ev e v = va at *
  unfold xmput
  split
  · rename_i kt et ht
    split
    · rename_i d id hkt hm
      rw [hm] at hx
      unfold xmputB
      split
      · rename_i es hb
        have hb' : sto[id]? = some (.mp es) := by
          rw [List.getD_eq_getElem?_getD] at hb
          cases hq : sto[id]? with
          | none => simp [hq] at hb
          | some b => simp [hq] at hb; rw [hb]
        cases hik : isKey d ka with
        | false => trivial
        | true =>
          simp only [cond_true]
          obtain ⟨ik, rk⟩ := isKey_ok hik hk
          have hl := (inv_mp hx).2
          simp only [LfC, hb'] at hl
          obtain ⟨g, hg, rfl⟩ := hl
          obtain ⟨g', en, clock, o1, o2, o3, o4⟩ := m.own id _ hb'
          have : g' = g := by rw [hg] at o1; simpa using o1.symm
          subst this
          have hc : (Instr.checkKey false 10000 kt uk).run P w = .ok () w := MapKept.run_checkKey hkt ik false 9999
          have key : ∀ (en' : Array MapEntry) (clock' : Nat) (es' : List (AV × AV)), (Instr.mapUpdate t (.map (some g')) uk uv).run P w = .ok () { w with heap := w.heap.setIfInBounds g' (.map en' clock') } → en'.toList.length = es'.length →
              (∀ (j : Nat) (x : AV × AV) (y : MapEntry), es'[j]? = some x → en'.toList[j]? = some y → RV h (Lf ρ sto) true y.key x.1 ∧ RV h (Lf ρ sto) false y.val x.2) →
              Okv h ρ sto w (((Instr.mapUpdate t (.map (some g')) uk uv).run P w).andThen fun _ w' => .ok .skip w') (.raw undef) (sto.set id (.mp es')) := by
            intro en' clock' es' hr hlen hrel
            obtain ⟨hs1, hs2⟩ := MapKept.heap_set (o' := .map en' clock') o2
            have hm := m.write (w' := { w with heap := w.heap.setIfInBounds g' (.map en' clock') }) hb' (b' := .mp es') hg trivial rfl rfl rfl (by simp) (fun k' hk' => hs2 k' hk') (by
              refine ⟨g', en', clock', hg, hs1, hlen, fun j x y h1 h2 => ?_⟩
              obtain ⟨p, q⟩ := hrel j x y h1 h2
              have hkp : ∀ v a, Lf ρ sto v a → Lf ρ (sto.set id (.mp es')) v a := fun v a lf => ⟨lf.1, LfC_set hb' (fun _ _ => rfl) rfl lf.2⟩
              exact ⟨p.mono (fun _ _ _ x => x) hkp, q.mono (fun _ _ _ x => x) hkp⟩)
            rw [hr]
            exact ⟨_, _, _, _, .inr ⟨rfl, rfl⟩, hm.1, hm.2, .raw _⟩
          unfold xmputF
          split
          · rename_i i vo hf
            intro _
            obtain ⟨y, z, f1, f2, f3, f4, f5, f6⟩ := mfind_ok hk o3 o4 hf
            simp only [Nat.sub_zero] at f3 f4
            have f3' : en[i]? = some y := by simpa using f3
            refine key (en.modify i fun e => { e with key := uk, val := uv }) clock (es.set i (ka, va)) ?_ (by simp [o3]) ?_
            · simp [Instr.mapUpdate, run_underlying ht, MapKept.run_getObj_map o2, hc, MapKept.run_findKey hkt f1, f3', Instr.keyThatStays, f6, MapKept.run_setObj_map _ o2, Result.andThen]
            · intro j x' y' h1 h2
              rw [Array.getElem?_toList, Array.getElem?_modify] at h2
              by_cases hj : i = j
              · subst hj
                rw [if_pos rfl, f3'] at h2
                have hlt := (List.getElem?_eq_some_iff.1 f4).1
                rw [List.getElem?_set_self hlt] at h1
                simp at h1 h2
                subst h1 h2
                exact ⟨rk, hv⟩
              · rw [if_neg hj] at h2
                rw [List.getElem?_set_ne hj] at h1
                exact o4 j x' y' h1 (by simpa using h2)
          · rename_i hf
            intro _
            have f1 := mfind_ok hk o3 o4 hf
            simp only at f1
            refine key (en.push { key := uk, val := uv, born := clock }) (clock + 1) (es ++ [(ka, va)]) ?_ (by simpa using o3) ?_
            · simp [Instr.mapUpdate, run_underlying ht, MapKept.run_getObj_map o2, hc, MapKept.run_findKey hkt f1, MapKept.run_setObj_map _ o2, Result.andThen]
            · intro j x' y' h1 h2
              rw [Array.toList_push] at h2
              by_cases hj : j < es.length
              · rw [List.getElem?_append_left hj] at h1
                rw [List.getElem?_append_left (by omega)] at h2
                exact o4 j x' y' h1 h2
              · have hjl := (List.getElem?_eq_some_iff.1 h1).1
                simp at hjl
                have : j = es.length := by omega
                subst this
                rw [List.getElem?_append_right (Nat.le_refl _)] at h1
                rw [List.getElem?_append_right (by omega), o3] at h2
                simp at h1 h2
                subst h1 h2
                exact ⟨rk, hv⟩
          · trivial
      · trivial
    · trivial
  · trivial

theorem lookup_ok {t : TypeId} {x k : Operand} {c : Bool} {o : Oper} {e : Env} {a : Act} (ho : o.op = .lookup t x k c) (m : Mine h ρ sto w) (he : EnvOk h ρ sto e a) :
    Res.Sound P h ρ sto w ((execOp a.eval o).run P w) (xlook P sto (ev e x) (ev e k) c (P.underlying t)) := by
  have hx := ev_ok he x
  have hk := ev_ok he k
  have hrun : (execOp a.eval o).run P w = ((Instr.lookup t (a.eval x) (a.eval k) c).run P w).andThen fun v w' => .ok (.value v) w' := by
    simp [execOp, ho]
  rw [hrun]
  generalize a.eval x = ux at *
  generalize a.eval k = uk at *
  generalize ev e k = ka at *
  unfold xlook
  split
  · rename_i kt et ht
    split
    · rename_i d id hkt hm
      rw [hm] at hx
      unfold xlookB
      split
      · rename_i es hb
        have hb' : sto[id]? = some (.mp es) := by
          rw [List.getD_eq_getElem?_getD] at hb
          cases hq : sto[id]? with
          | none => simp [hq] at hb
          | some b => simp [hq] at hb; rw [hb]
        cases hik : isKey d ka with
        | false => trivial
        | true =>
          simp only [cond_true]
          obtain ⟨ik, rk⟩ := isKey_ok hik hk
          have hl := (inv_mp hx).2
          simp only [LfC, hb'] at hl
          obtain ⟨g, hg, rfl⟩ := hl
          obtain ⟨g', en, clock, o1, o2, o3, o4⟩ := m.own id _ hb'
          have : g' = g := by rw [hg] at o1; simpa using o1.symm
          subst this
          have hc : ∀ b, (Instr.checkKey b 10000 kt uk).run P w = .ok () w := fun b => MapKept.run_checkKey hkt ik b 9999
          unfold xlookF
          split
          · rename_i i vo hf
            obtain ⟨y, z, f1, f2, f3, f4, f5, f6⟩ := mfind_ok hk o3 o4 hf
            simp only [Nat.sub_zero] at f3 f4
            obtain ⟨_, q⟩ := o4 i z y f4 f3
            subst f5
            refine okv_pure m (u := if c then .tuple #[y.val, .bool true] else y.val) ?_ ?_
            · simp [Instr.lookup, run_underlying ht, MapKept.run_getObj_map o2, hc, MapKept.run_findKey hkt f1, Result.andThen]
            · cases c with
              | true => exact .tup [_, _] [_, _] (.cons q (.cons (.bool _) .nil))
              | false => exact q
          · rename_i hf
            intro hz
            have f1 := mfind_ok hk o3 o4 hf
            simp only at f1
            obtain ⟨i, zv, hi, hzi, hzl⟩ : ∃ i zv, P.info? et = some i ∧ i.zero = some zv ∧ zav P et = [ofConst zv] := by
              unfold zleaf at hz
              cases hq : P.info? et with
              | none => simp [hq] at hz
              | some i =>
                cases hq2 : i.zero with
                | none => simp [hq, hq2] at hz
                | some zv =>
                  refine ⟨i, zv, rfl, hq2, ?_⟩
                  simp only [hq, hq2, Option.bind_some] at hz
                  simp only [zav, zcells, hq, hq2, Option.bind_some]
                  cases zv <;> first | rfl | (simp at hz)
            have hzr : (zeroValue et).run P w = .ok zv w := by simp [zeroValue, typeInfo, hi, hzi]
            refine okv_pure m (u := if c then .tuple #[zv, .bool false] else zv) ?_ ?_
            · simp [Instr.lookup, run_underlying ht, MapKept.run_getObj_map o2, hc, MapKept.run_findKey hkt f1, hzr, Result.andThen]
            · rw [hzl]
              cases c with
              | true => exact .tup [_, _] [_, _] (.cons (ofConst_ok zv) (.cons (.bool _) .nil))
              | false => exact ofConst_ok zv
          · trivial
      · trivial
    · trivial
  · trivial
end
end Go.Av
/- make, max and min, nil checks; every operation. Own work of this seat. -/
set_option linter.unusedSimpArgs false
set_option linter.unusedVariables false
namespace Go.Av
open Go Go.RowKit

section
variable {h : Mem} {ρ : Own} {sto : List Blk} {w : World} {P : Program} {e : Env} {a : Act}

theorem zelem_cells {row : Bool} {z : List AV} {sz : Nat} (hz : z.length = sz) (hr : row = false → sz = 1) (h1 : z.all one = true) : cellsOf (zelem row z) = z := by
  cases row with
  | true => rfl
  | false =>
    have := hr rfl
    match z, (by omega : z.length = 1) with
    | [y], _ =>
      simp at h1
      exact cellsOf_one h1

theorem flat_rep {x : AV} {z : List AV} (hx : cellsOf x = z) : ∀ n, flat (List.replicate n x) = rep z n
  | 0 => rfl
  | n + 1 => by rw [List.replicate_succ]; simp only [flat, rep, hx, flat_rep hx n]

theorem rep_take {z : List AV} (n c : Nat) (hnc : n ≤ c) : (rep z c).take (n * z.length) = rep z n := by
  obtain ⟨d, rfl⟩ := Nat.exists_eq_add_of_le hnc
  induction n with
  | zero => simp [rep]
  | succ n ih =>
    rw [show n + 1 + d = (n + d) + 1 by omega]
    simp only [rep]
    rw [show (n + 1) * z.length = z.length + n * z.length by rw [Nat.succ_mul]; omega, List.take_length_add_append, ih (by omega)]

theorem make_ok {t : TypeId} {n c : Operand} {o : Oper} (ho : o.op = .makeSlice t n c) (m : Mine h ρ sto w) (he : EnvOk h ρ sto e a) :
    Res.Sound P h ρ sto w ((execOp a.eval o).run P w) (xmake P sto (P.underlying t) (ev e n) (ev e c)) := by
  have hrun : (execOp a.eval o).run P w = ((Instr.makeSlice t (a.eval n) (a.eval c)).run P w).andThen fun v w' => .ok (.value v) w' := by
    simp [execOp, ho]
  have hn := ev_ok he n
  have hc := ev_ok he c
  generalize hr : (execOp a.eval o).run P w = r at *
  unfold xmake
  split
  · rename_i el kn nn kc cc ht e1 e2
    rw [e1] at hn
    rw [e2] at hc
    rw [inv_int hn, inv_int hc] at hrun
    intro ⟨hp, hz, hrow, hone, h0, h1, h2, h3⟩
    obtain ⟨i, z, hi, his, hib, hiz, hzc, hzs⟩ := zero_info hp hz
    have hrm := run_make (P := P) w t el i z ht hi hiz kn kc nn cc h0 h1 (by rw [hib]; omega) h2
    rw [hrm, his] at hrun
    have hcells : RL h (Lf ρ sto) false (madeCells z.cells (cc.toNat * tsize P el)).toList (rep (zav P el) cc.toNat) := by
      have hzl : z.cells.toList.length = tsize P el := by simpa using hzs
      have := zeros_ok (h := h) (ρ := ρ) (sto := sto) (z := z.cells.toList) (fl := false) cc.toNat (by omega)
      rw [hzl] at this
      unfold madeCells zav
      rw [hzc, hzs]
      simpa using this
    have honec : ∀ v ∈ (madeCells z.cells (cc.toNat * tsize P el)).toList, v.oneCell' = true := by
      refine all_one hcells ?_
      rw [List.all_eq_true] at hone ⊢
      intro x hx
      obtain ⟨k, hk, rfl⟩ := List.mem_iff_getElem.1 hx
      have hk' : k < cc.toNat * (zav P el).length := by rwa [rep_len] at hk
      have := rep_get hk'
      rw [List.getElem?_eq_getElem hk] at this
      exact hone _ (List.mem_of_getElem? this.symm)
    have hzel := zelem_cells (row := isRow (P.underlying el)) hz hrow hone
    have hm := m.push (.cells (madeCells z.cells (cc.toNat * tsize P el)) el) (.arr (tsize P el) (List.replicate nn.toNat (zelem (isRow (P.underlying el)) (zav P el)))) (some cc.toNat) (by
      refine .inr ⟨w.heap.size, cc.toNat, _, el, by simp [upd], .of (heap_alloc_new w _), size_madeCells _ _, by simp; omega, by simp only [maxLen]; omega, hp, ?_, honec, ?_⟩
      · intro x hx
        rw [List.eq_of_mem_replicate hx, hzel, hz]
      · rw [flat_rep hzel, List.length_replicate, ← hz, ← rep_take nn.toNat cc.toNat (by omega), hz]
        exact (hcells.take _).mono (fun _ _ _ x => x) (fun _ _ => Lf_push))
    refine ⟨_, _, _, _, .inl hrun, hm.1, hm.2, .leaf ⟨rfl, ?_⟩⟩
    simp [LfC, upd]
  · trivial

theorem max_ok {big : Bool} {c : Call} (hf : c.callee = .builtin (bif big then .max else .min)) {o : Oper} (ho : o.op = .call c) (m : Mine h ρ sto w) (he : EnvOk h ρ sto e a) :
    Res.Sound P h ρ sto w ((execOp a.eval o).run P w) (xmax big (evs e c.args.toList)) := by
  unfold xmax
  split
  · rename_i k x k' y hx
    obtain ⟨o1, o2, hxy, h1, h2⟩ : ∃ o1 o2, c.args.toList = [o1, o2] ∧ ev e o1 = .int k x ∧ ev e o2 = .int k' y := by
      match hq : c.args.toList with
      | [] => rw [hq] at hx; simp [evs] at hx
      | [_] => rw [hq] at hx; simp [evs] at hx
      | [o1, o2] => rw [hq] at hx; simp [evs] at hx; exact ⟨o1, o2, rfl, hx.1, hx.2⟩
      | _ :: _ :: _ :: _ => rw [hq] at hx; simp [evs] at hx
    have e1 : c.args.map a.eval = #[a.eval o1, a.eval o2] := by
      apply Array.ext'; rw [Array.toList_map, hxy]; rfl
    have v1 := inv_int (by have := ev_ok he o1; rwa [h1] at this)
    have v2 := inv_int (by have := ev_ok he o2; rwa [h2] at this)
    by_cases hk : k = k'
    · subst hk
      simp only [decide_true, cond_true]
      refine okv_pure m ?_ (.int _ _)
      cases big <;> simp [execOp, ho, resolve, hf, invoke, builtin, e1, v1, v2, Builtin.max_, Builtin.min_, Builtin.max2, Builtin.min2]
    · simp only [hk, decide_false, cond_false]; trivial
  · trivial

theorem nil_ok {x : Operand} {o : Oper} (ho : o.op = .nilCheck x) (m : Mine h ρ sto w) (he : EnvOk h ρ sto e a) :
    Res.Sound P h ρ sto w ((execOp a.eval o).run P w) (xnil sto (ev e x)) := by
  have hx := ev_ok he x
  have key : ∀ ad, a.eval x = .pointer (some ad) → (execOp a.eval o).run P w = .ok (.value (.pointer (some ad))) w := fun ad hv => by
    simp [execOp, ho, hv]
  unfold xnil
  split
  · rename_i id n j off hv
    rw [hv] at hx
    split
    · rename_i ee l hb
      intro hn
      obtain ⟨g, tot, cur, t, h1, h2, _⟩ := ptr_place m hb hx hn
      refine okv_pure m (key _ h2) ?_
      rw [← h2]; exact hx
    · trivial
  · rename_i ee l j off hv
    rw [hv] at hx
    obtain ⟨b, oo, vs, h1, _⟩ := inv_pin hx
    refine okv_pure m (key _ h1) ?_
    rw [← h1]; exact hx
  · trivial

theorem clear_ok {c : Call} (hf : c.callee = .builtin .clear) {o : Oper} (ho : o.op = .call c) (m : Mine h ρ sto w) (he : EnvOk h ρ sto e a) :
    Res.Sound P h ρ sto w ((execOp a.eval o).run P w) (xclear2 P e sto c.args.toList c.argTypes.toList) := by
  have hrun : (execOp a.eval o).run P w = ((Builtin.clear_ c.argTypes o.type (c.args.map a.eval)).run P w).andThen fun v w' => .ok (.value v) w' := by
    simp [execOp, ho, resolve, hf, invoke, builtin]
  unfold xclear2
  split
  · rename_i x t h1 h2
    have hx := ev_ok he x
    have e1 : c.args.map a.eval = #[a.eval x] := by
      apply Array.ext'; rw [Array.toList_map, h1]; rfl
    have e2 : c.argTypes = #[t] := by apply Array.ext'; rw [h2]
    rw [e1, e2] at hrun
    generalize a.eval x = vx at *
    generalize hr : (execOp a.eval o).run P w = r at *
    split
    · rename_i el ht
      split
      · rename_i id off len cap hv
        rw [hv] at hx
        have hl := (inv_sl hx).2
        unfold xclearB
        split
        · rename_i ee l hb
          have hb' := sto_get hb
          intro ⟨hp, hz, hrow, hone, h3, h4, h5⟩
          subst h3
          have hid := (List.getElem?_eq_some_iff.1 hb').1
          simp only [LfC, hb'] at hl
          obtain ⟨i, z, hi, his, hib, hiz, hzc, hzs⟩ := zero_info hp hz
          have noop : ∀ ad c', vx = .slice ad 0 c' → len = 0 → Okv h ρ sto w r (.tup []) (sto.set id (.arr (tsize P el) (splice' l off (List.replicate len (zelem (isRow (P.underlying el)) (zav P el)))))) := by
            intro ad c' hvx hl0
            subst hvx hl0
            have hst : splice' l off (List.replicate 0 (zelem (isRow (P.underlying el)) (zav P el))) = l := by simp [splice']
            rw [hst, set_same hb']
            refine ⟨.tuple #[], _, _, _, .inl ?_, m, .refl .., .tup [] [] .nil⟩
            cases ad <;> simp [hrun, Builtin.clear_, run_underlying ht]
          rcases hl.2 h4 with ⟨rfl, h5', ad, rfl⟩ | ⟨g, tot, h5', rfl, h7⟩
          · exact noop _ _ rfl rfl
          · rcases m.own id _ hb' with ⟨_, hno⟩ | ⟨g', tot', cur, tt, j3, j4, j5, j6, j7, j8, j9, j10, j11⟩
            · simp [hno] at h5'
            · rw [j3] at h5'
              simp only [Option.some.injEq, Prod.mk.injEq] at h5'
              obtain ⟨rfl, rfl⟩ := h5'
              by_cases hl0 : len = 0
              · subst hl0; exact noop _ _ rfl rfl
              have hzel := zelem_cells (row := isRow (P.underlying el)) hz hrow hone
              have hzl : z.cells.toList.length = tsize P el := by simpa using hzs
              have hcells : RL h (Lf ρ sto) false (Builtin.zeroCells z.cells len).toList (flat (List.replicate len (zelem (isRow (P.underlying el)) (zav P el)))) := by
                have := zeros_ok (h := h) (ρ := ρ) (sto := sto) (z := z.cells.toList) (fl := false) len (by omega)
                rw [hzl] at this
                rw [flat_rep hzel]
                unfold Builtin.zeroCells zav
                rw [hzc, hzs]
                simpa using this
              have honec : ∀ v ∈ (Builtin.zeroCells z.cells len).toList, v.oneCell' = true := by
                refine one_rep ?_ (by omega) _
                intro u hu
                rw [← hzc] at hu
                have hr : RL (fun _ _ => none) (Lf (fun _ => none) []) false (zcells P el) (zav P el) := consts_ok _
                exact all_one hr hone u hu
              have hle : (off + len) * tsize P el ≤ tot' * tsize P el := Nat.mul_le_mul_right _ (by omega)
              rw [Nat.add_mul] at hle
              have hst := run_storeCells_row P g' (off * tsize P el) tt (Builtin.zeroCells z.cells len).toList 0 cur w j4 (by rw [Nat.add_zero, Array.length_toList, size_zeroCells, hzs, j5]; exact hle) honec
              simp only [Nat.add_zero] at hst
              have hm := splice_ok m hb' j3 j4 j5 j6 j7 j8 j9 j10 j11 hcells (fun x hx => by rw [List.eq_of_mem_replicate hx, hzel, hz]) honec (k := off) (by rw [List.length_replicate]; omega)
              refine ⟨.tuple #[], _, _, _, .inl ?_, hm.1, hm.2, .tup [] [] .nil⟩
              have hzv : (zeroValue el).run P w = .ok z w := by simp [zeroValue, typeInfo, hi, hiz]
              obtain ⟨len', rfl⟩ : ∃ len', len = len' + 1 := ⟨len - 1, by omega⟩
              rw [hrun]
              simp only [Builtin.clear_, List.getElem?_toArray, List.getElem?_cons_zero, Sem.run_bind, run_underlying ht, Result.andThen_ok, hzv, hst, Sem.run_pure]
              rfl
        · trivial
      · trivial
    · trivial
  · trivial

theorem bin2_ok {wr : Bool} {op : BinOp} {t yt : TypeId} {x y : Operand} {o : Oper} (ho : o.op = .binOp op t x y yt) (m : Mine h ρ sto w) (he : EnvOk h ρ sto e a) :
    Res.Sound P h ρ sto w ((execOp a.eval o).run P w) (xbin2 wr sto (P.underlying t) op (ev e x) (ev e y)) := by
  have hx := ev_ok he x
  have hy := ev_ok he y
  have hrun : (execOp a.eval o).run P w = ((do eqGuard op t x y (a.eval x) (a.eval y); Go.binOp op t (a.eval x) (a.eval y) : Sem Value).run P w).andThen fun v w' => .ok (.value v) w' := by
    simp [execOp, ho, andThen_assoc]
  unfold xbin2
  split
  · rename_i el h1 h2
    rw [h1] at hy
    have hv := inv_raw hy
    have keyE : ∀ ad l c, a.eval x = .slice ad l c → op = .eql → Okv h ρ sto w ((execOp a.eval o).run P w) (.bool ad.isNone) sto := fun ad l c hh hop => by
      subst hop
      refine okv_pure m ?_ (.bool _)
      have hg : (eqGuard .eql t x y (.slice ad l c) (.slice none 0 0)).run P w = .ok () w := by unfold eqGuard; rfl
      rw [hrun, hh, hv, Sem.run_bind, hg]
      show ((do pure (Value.bool (← Op.equal t (.slice ad l c) (.slice none 0 0))) : Sem Value).run P w).andThen _ = _
      rw [Sem.run_bind, run_equal_slice_nil w t el ad l c h2]; rfl
    have keyN : ∀ ad l c, a.eval x = .slice ad l c → op = .neq → Okv h ρ sto w ((execOp a.eval o).run P w) (.bool (!ad.isNone)) sto := fun ad l c hh hop => by
      subst hop
      refine okv_pure m ?_ (.bool _)
      have hg : (eqGuard .neq t x y (.slice ad l c) (.slice none 0 0)).run P w = .ok () w := by unfold eqGuard; rfl
      rw [hrun, hh, hv, Sem.run_bind, hg]
      show ((do pure (Value.bool (!(← Op.equal t (.slice ad l c) (.slice none 0 0)))) : Sem Value).run P w).andThen _ = _
      simp only [Sem.run_bind, run_equal_slice_nil w t el ad l c h2]; rfl
    have key : ∀ neg, ((neg = false ∧ op = .eql) ∨ (neg = true ∧ op = .neq)) → Res.Sound P h ρ sto w ((execOp a.eval o).run P w) (xnileq sto neg (ev e x)) := by
      intro neg hneg
      have k2 : ∀ ad l c, a.eval x = .slice ad l c → Okv h ρ sto w ((execOp a.eval o).run P w) (.bool (neg ^^ ad.isNone)) sto := fun ad l c hh => by
        rcases hneg with ⟨rfl, hop⟩ | ⟨rfl, hop⟩
        · simpa using keyE ad l c hh hop
        · simpa using keyN ad l c hh hop
      unfold xnileq
      split
      · rename_i ee y' l hv'
        rw [hv'] at hx
        rcases inv_fz hx with ⟨hh, _⟩ | ⟨b, oo, c, vs, hh, _⟩
        · simp at hh
        · show Okv _ _ _ _ _ _ _
          simpa using k2 _ _ _ hh
      · rename_i ee hv'
        rw [hv'] at hx
        intro _
        rcases inv_fz hx with ⟨_, hh⟩ | ⟨b, oo, c, vs, hh, _⟩
        · exact ⟨_, k2 _ _ _ hh⟩
        · exact ⟨_, k2 _ _ _ hh⟩
      · rename_i id off len cap hv'
        rw [hv'] at hx
        have hlf := (inv_sl hx).2
        split
        · rename_i ee l hb
          intro hcap
          simp only [LfC, sto_get hb] at hlf
          rcases hlf.2 hcap with ⟨_, _, ad, hh⟩ | ⟨g, tot, _, hh, _⟩
          · exact ⟨_, k2 _ _ _ hh⟩
          · exact ⟨_, k2 _ _ _ hh⟩
        · trivial
      · rename_i hv'
        rw [hv'] at hx
        have := k2 _ _ _ (inv_raw hx)
        show Okv _ _ _ _ _ _ _
        simpa using this
      · trivial
    split
    · exact key false (.inl ⟨rfl, rfl⟩)
    · exact key true (.inr ⟨rfl, rfl⟩)
    · trivial
  · exact xbin_ok ho m he

theorem RL.drop1 {fl : Bool} {L : Value → AV → Prop} {vs : List Value} {i : Nat} {x : AV} {xs : List AV} (r : RL h L fl (vs.drop i) (x :: xs)) : ∃ v, vs[i]? = some v ∧ RV h L fl v x ∧ RL h L fl (vs.drop (i + 1)) xs := by
  generalize hd : vs.drop i = ds at r
  cases r with
  | cons r1 r2 =>
    rename_i v ds'
    have h1 : vs[i]? = some v := by
      have := congrArg (·[0]?) hd
      simpa using this
    have h2 : vs.drop (i + 1) = ds' := by
      rw [← List.drop_drop, hd]; rfl
    exact ⟨v, h1, r1, by rw [h2]; exact r2⟩

theorem part_leaf {t : TypeId} {cs : Array Value} {i : Nat} {v : Value} {b : Bool} {x y : AV} (hl : leafEq (P.underlying t) x y = some b) (hv : cs[i]? = some v) : (part t cs i).run P w = .ok v w := by
  cases hq : P.underlying t with
  | none => rw [hq] at hl; simp [leafEq] at hl
  | some d =>
    have hr : isRow (some d) = false := by
      rw [hq] at hl
      cases d <;> first | rfl | (exfalso; revert hl; simp [leafEq]; done)
    unfold part
    rw [Sem.run_bind, isAgg_run hq w, hr]
    simp [hv]

theorem leaf_equal {t : TypeId} {d : Nat} {u v : Value} {x y : AV} {b : Bool} {L : Value → AV → Prop} {fl : Bool} (hl : leafEq (P.underlying t) x y = some b) (ru : RV h (Lf ρ sto) false u x) (rv : RV h (Lf ρ sto) false v y) :
    (Op.equalIn (d + 1) t u v).run P w = .ok b w := by
  unfold leafEq at hl
  split at hl
  · rename_i p q hd
    cases hl
    rw [inv_bool ru, inv_bool rv]
    exact equalIn_bool hd d p q
  · rename_i k0 k p k' q hd
    split at hl
    · rename_i hk
      subst hk
      cases hl
      rw [inv_int ru, inv_int rv]
      exact run_equalIn_int w d t k k0 p q hd
    · cases hl
  · rename_i p q hd
    cases hl
    rw [inv_str ru, inv_str rv, run_equalIn_string w d t _ _ hd]
    simp [ByteArray.toList_eq]
  · cases hl

theorem eqFields_ok {vs us : List Value} {d : Nat} : ∀ {fs : List Field} {i : Nat} {xs ys : List AV} {b : Bool}, offsOk i fs = true → RL h (Lf ρ sto) false (vs.drop i) xs → RL h (Lf ρ sto) false (us.drop i) ys → eqFs P fs xs ys = some b →
    (Op.eqFields (d + 1) vs.toArray us.toArray fs).run P w = .ok b w
  | [], i, xs, ys, b, _, _, _, hb => by
    simp only [eqFs, Option.some.injEq] at hb
    subst hb
    simp [Op.eqFields]
  | f :: fs, i, [], ys, b, _, _, _, hb => by simp [eqFs] at hb
  | f :: fs, i, _ :: _, [], b, _, _, _, hb => by simp [eqFs] at hb
  | f :: fs, i, x :: xs, y :: ys, b, ho, r1, r2, hb => by
    simp only [offsOk, Bool.and_eq_true, bne_iff_ne, ne_eq, beq_iff_eq] at ho
    obtain ⟨o1, o2, o3⟩ := ho
    obtain ⟨v, v1, v2, v3⟩ := r1.drop1
    obtain ⟨u, u1, u2, u3⟩ := r2.drop1
    rw [eqFs] at hb
    cases h1 : leafEq (P.underlying f.type) x y with
    | none => rw [h1] at hb; simp [bothB] at hb
    | some p =>
      cases h2 : eqFs P fs xs ys with
      | none => rw [h1, h2] at hb; simp [bothB] at hb
      | some q =>
        rw [h1, h2] at hb
        simp only [bothB, Option.some.injEq] at hb
        subst hb
        have ih := eqFields_ok (d := d) o3 v3 u3 h2
        unfold Op.eqFields
        rw [if_pos o1, o2]
        rw [Sem.run_bind, part_leaf (w := w) h1 (by simpa using v1)]
        simp only [Result.andThen_ok]
        rw [Sem.run_bind, part_leaf (w := w) h1 (by simpa using u1)]
        simp only [Result.andThen_ok]
        rw [Sem.run_bind, leaf_equal (L := Lf ρ sto) (fl := false) h1 v2 u2]
        simp only [Result.andThen_ok]
        cases p with
        | false => simp
        | true => simpa using ih

theorem bin3_ok {wr : Bool} {op : BinOp} {t yt : TypeId} {x y : Operand} {o : Oper} (ho : o.op = .binOp op t x y yt) (m : Mine h ρ sto w) (he : EnvOk h ρ sto e a) :
    Res.Sound P h ρ sto w ((execOp a.eval o).run P w) (xbin3 P t wr sto op (ev e x) (ev e y)) := by
  have hx := ev_ok he x
  have hy := ev_ok he y
  have hrun : (execOp a.eval o).run P w = ((do eqGuard op t x y (a.eval x) (a.eval y); Go.binOp op t (a.eval x) (a.eval y) : Sem Value).run P w).andThen fun v w' => .ok (.value v) w' := by
    simp [execOp, ho, andThen_assoc]
  unfold xbin3
  split
  · rename_i xs hxs
    rw [hxs] at hx
    split
    · rename_i ys hys
      rw [hys] at hy
      unfold xeqs
      split
      · rename_i fs hfs
        cases hb : eqFs P fs.toList xs ys with
        | none => unfold xeqop; trivial
        | some b =>
          obtain ⟨vs, hvs, r1⟩ := inv_agg hx
          obtain ⟨us, hus, r2⟩ := inv_agg hy
          have hrun2 : eqPlain P t = true → (op = .eql ∨ op = .neq) → (execOp a.eval o).run P w = .ok (.value (.bool (if op = .eql then b else !b))) w := by
            intro hp hop
            have hfo : P.fieldsOf t = fs := by simp [Program.fieldsOf, hfs]
            unfold eqPlain at hp
            rw [hfs] at hp
            simp only [Bool.and_eq_true, Bool.not_eq_true'] at hp
            obtain ⟨g1, g2, g3⟩ := hp
            have heq : (Op.equalIn 10000 t (.agg vs.toArray) (.agg us.toArray)).run P w = .ok b w := by
              rw [run_equalIn_struct w 9999 t _ _ (by rw [hfo]; exact hfs) g2, hfo]
              exact eqFields_ok (d := 9998) g3 (by simpa using r1) (by simpa using r2) hb
            rw [hrun, hvs, hus, Sem.run_bind, run_eqGuard_agg w op t x y _ _ g1]
            simp only [Result.andThen_ok]
            rcases hop with rfl | rfl
            · rw [run_eql_struct, heq]; rfl
            · rw [run_neq_struct, heq]; rfl
          unfold xeqop
          cases op with
          | eql => exact fun hp => okv_pure m (hrun2 hp (.inl rfl)) (.bool _)
          | neq => exact fun hp => okv_pure m (hrun2 hp (.inr rfl)) (.bool _)
          | _ => trivial
      · trivial
    · trivial
  · exact bin2_ok ho m he

/-- EVERY OPERATION. -/
theorem xop_sound {wr frz : Bool} {o : Oper} {e : Env} {a : Act} (m : Mine h ρ sto w) (he : EnvOk h ρ sto e a) :
    Res.Sound P h ρ sto w ((execOp a.eval o).run P w) (xop wr frz P e sto o.op) := by
  cases ho : o.op with
  | move x => exact okv_pure m (by simp [execOp, ho]) (ev_ok he x)
  | assign x => exact okv_pure m (by simp [execOp, ho]) (ev_ok he x)
  | pick c x y => exact pick_ok ho m he
  | binOp op t x y yt => exact bin3_ok ho m he
  | unOp op t x =>
    cases op with
    | not => exact not_ok ho m he
    | neg => exact neg_ok ho m he
    | _ => trivial
  | extract x i => exact extract_ok ho m he
  | index t x i => exact index_ok ho m he
  | field t x f => exact field_ok ho m he
  | box t x => exact box_ok ho m he
  | alloc t => exact alloc_ok ho m
  | fieldAddr t x f => exact fieldAddr_ok ho m he
  | indexAddr t x i => exact indexAddr_ok ho m he
  | load t x => exact load_ok ho m he
  | store t x v => exact store_ok ho m he
  | convert a b x => exact convert_ok ho m he
  | build t parts => exact build_ok ho m he
  | buildSlice t len parts => exact buildSlice_ok ho m he
  | makeFunc f first cap => exact makeFunc_ok ho m he
  | slice t x lo hi mx => exact cut_ok ho m he
  | makeSlice t n c => exact make_ok ho m he
  | nilCheck x => exact nil_ok ho m he
  | makeMap t r =>
    cases r with
    | none => exact makeMap_ok ho m
    | some x => trivial
  | mapUpdate t m' k v => exact mapUpdate_ok ho m he
  | lookup t m' k c => exact lookup_ok ho m he
  | call c =>
    simp only [xop]
    split
    · rename_i hc; exact len_ok hc ho m he
    · rename_i hc; exact append_ok hc ho m he
    · rename_i hc; exact copy_ok hc ho m he
    · rename_i hc; exact clear_ok hc ho m he
    · rename_i hc; exact max_ok (big := true) hc ho m he
    · rename_i hc; exact max_ok (big := false) hc ho m he
    · rename_i f hc; exact call_ok hc ho m he
    · trivial
  | _ => trivial
end
end Go.Av
