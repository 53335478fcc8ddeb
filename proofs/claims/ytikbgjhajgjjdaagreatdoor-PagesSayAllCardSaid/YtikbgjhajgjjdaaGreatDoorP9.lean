/- Maps of one's own: made, written, read. Own work of this seat. -/
import Derived.Test.YtikbgjhajgjjdaaGreatDoorP8
import Derived.WideMake
set_option linter.unusedSimpArgs false
set_option linter.unusedVariables false
namespace Go.Av
open Go Go.RowKit

section
variable {h : Mem} {ρ : Own} {sto : List Blk} {w : World} {P : Program}

theorem ba_beq (s t : List UInt8) : ((⟨s.toArray⟩ : ByteArray) == ⟨t.toArray⟩) = (s == t) := by
  show (s.toArray == t.toArray) = (s == t)
  simp

theorem makeMap_ok {t : TypeId} {o : Oper} {a : Act} (ho : o.op = .makeMap t none) (m : Mine h ρ sto w) : Res.Sound P h ρ sto w ((execOp a.eval o).run P w) (xmkmap sto) := by
  intro _
  have hr : (execOp a.eval o).run P w = .ok (.value (.map (some w.heap.size))) (w.alloc (.map #[] 0)) := by
    simp [execOp, ho, run_makeMap_plain, Result.andThen]
  have hm := m.push (.map #[] 0) (.mp []) (some 0) ⟨w.heap.size, #[], 0, by simp [upd], (MapKept.heap_alloc w _).1, rfl, by simp⟩
  exact ⟨_, _, _, _, .inl hr, hm.1, hm.2, .leaf ⟨rfl, by simp [LfC, upd]⟩⟩

theorem isKey_ok {d : TypeDesc} {k : AV} {u : Value} {fl : Bool} (hk : isKey d k = true) (r : RV h (Lf ρ sto) fl u k) : MapKept.IsKey d u ∧ ∀ {h' : Mem} {Lf' : Value → AV → Prop} {f : Bool}, RV h' Lf' f u k := by
  cases k <;> cases d <;> simp [isKey] at hk
  · subst hk
    rw [inv_int r]
    exact ⟨rfl, .int _ _⟩
  · rw [inv_bool r]
    exact ⟨trivial, .bool _⟩
  · rw [inv_str r]
    exact ⟨trivial, .str _⟩

theorem keyEq_ok {d : TypeDesc} {k k' : AV} {u u' : Value} {fl fl' : Bool} {b : Bool} (hk : keyEq d k k' = some b) (r : RV h (Lf ρ sto) fl u k) (r' : RV h (Lf ρ sto) fl' u' k') : Instr.sameNow d u u' = some b ∧ (b = true → Instr.sameBits 10000 u' u = true) := by
  cases d <;> cases k <;> cases k' <;> simp [keyEq] at hk
  · subst hk
    rw [inv_bool r, inv_bool r']
    exact ⟨rfl, fun hb => by simpa [Instr.sameBits] using (by simpa using hb : _ = _).symm⟩
  · rename_i kd k1 n1 k2 n2
    rw [inv_int r, inv_int r']
    by_cases h1 : k1 = k2
    · subst h1
      simp at hk
      subst hk
      exact ⟨by simp [Instr.sameNow], fun hb => by simpa [Instr.sameBits] using (by simpa using hb : n1 = n2).symm⟩
    · simp [h1] at hk
  · subst hk
    rename_i s1 s2
    rw [inv_str r, inv_str r']
    refine ⟨by simp only [Instr.sameNow, ba_beq], fun hb => ?_⟩
    have : s1 = s2 := by simpa using hb
    subst this
    simp only [Instr.sameBits, ba_beq, beq_self_eq_true]

theorem mfind_ok {d : TypeDesc} {k : AV} {u : Value} {fl : Bool} (r : RV h (Lf ρ sto) fl u k) : ∀ {es : List (AV × AV)} {en : List MapEntry} {i : Nat} {x : Option (Nat × AV)}, en.length = es.length →
    (∀ (j : Nat) (x : AV × AV) (y : MapEntry), es[j]? = some x → en[j]? = some y → RV h (Lf ρ sto) true y.key x.1 ∧ RV h (Lf ρ sto) false y.val x.2) → mfind d k es i = some x →
    match x with
    | none => Instr.findNow d u en i = some none
    | some (j, v) => ∃ (y : MapEntry) (z : AV × AV), Instr.findNow d u en i = some (some (j, y.val)) ∧ i ≤ j ∧ en[j - i]? = some y ∧ es[j - i]? = some z ∧ z.2 = v ∧ Instr.sameBits 10000 y.key u = true
  | [], en, i, x, hl, _, hx => by
    simp only [mfind, Option.some.injEq] at hx
    subst hx
    have : en = [] := List.eq_nil_of_length_eq_zero (by simpa using hl)
    subst this; rfl
  | z :: es, [], i, x, hl, _, _ => by simp at hl
  | z :: es, y :: en, i, x, hl, hr, hx => by
    have h0 := hr 0 z y rfl rfl
    simp only [mfind] at hx
    split at hx
    · rename_i hq
      obtain ⟨s1, s2⟩ := keyEq_ok hq r h0.1
      simp only [Option.some.injEq] at hx
      subst hx
      exact ⟨y, z, by simp [Instr.findNow, s1], Nat.le_refl _, by simp, by simp, rfl, s2 rfl⟩
    · rename_i hq
      obtain ⟨s1, _⟩ := keyEq_ok hq r h0.1
      have ih := mfind_ok r (es := es) (en := en) (i := i + 1) (x := x) (by simpa using hl) (fun j a b h1 h2 => hr (j + 1) a b h1 h2) hx
      cases x with
      | none => simpa [Instr.findNow, s1] using ih
      | some jv =>
        obtain ⟨j, v⟩ := jv
        obtain ⟨y', z', i1, i2, i3, i4, i5, i6⟩ := ih
        have e : j - i = (j - (i + 1)) + 1 := by omega
        exact ⟨y', z', by simpa [Instr.findNow, s1] using i1, by omega, by rw [e]; simpa using i3, by rw [e]; simpa using i4, i5, i6⟩
    · cases hx

theorem mapUpdate_ok {t : TypeId} {x k v : Operand} {o : Oper} {e : Env} {a : Act} (ho : o.op = .mapUpdate t x k v) (m : Mine h ρ sto w) (he : EnvOk h ρ sto e a) :
    Res.Sound P h ρ sto w ((execOp a.eval o).run P w) (xmput P sto (ev e x) (ev e k) (ev e v) (P.underlying t)) := by
  have hx := ev_ok he x
  have hk := ev_ok he k
  have hv := ev_ok he v
  have hrun : (execOp a.eval o).run P w = ((Instr.mapUpdate t (a.eval x) (a.eval k) (a.eval v)).run P w).andThen fun _ w' => .ok .skip w' := by
    simp [execOp, ho]
  rw [hrun]
  generalize a.eval x = ux at *
  generalize a.eval k = uk at *
  generalize a.eval v = uv at *
  generalize ev e k = ka at *
  generalize ev e v = va at *
  unfold xmput
  split
  · rename_i kt et ht
    split
    · rename_i d id hkt hm
      rw [hm] at hx
      unfold xmputB
      split
      · rename_i es hb
        have hb' : sto[id]? = some (.mp es) := by
          rw [List.getD_eq_getElem?_getD] at hb
          cases hq : sto[id]? with
          | none => simp [hq] at hb
          | some b => simp [hq] at hb; rw [hb]
        cases hik : isKey d ka with
        | false => trivial
        | true =>
          simp only [cond_true]
          obtain ⟨ik, rk⟩ := isKey_ok hik hk
          have hl := (inv_mp hx).2
          simp only [LfC, hb'] at hl
          obtain ⟨g, hg, rfl⟩ := hl
          obtain ⟨g', en, clock, o1, o2, o3, o4⟩ := m.own id _ hb'
          have : g' = g := by rw [hg] at o1; simpa using o1.symm
          subst this
          have hc : (Instr.checkKey false 10000 kt uk).run P w = .ok () w := MapKept.run_checkKey hkt ik false 9999
          have key : ∀ (en' : Array MapEntry) (clock' : Nat) (es' : List (AV × AV)), (Instr.mapUpdate t (.map (some g')) uk uv).run P w = .ok () { w with heap := w.heap.setIfInBounds g' (.map en' clock') } → en'.toList.length = es'.length →
              (∀ (j : Nat) (x : AV × AV) (y : MapEntry), es'[j]? = some x → en'.toList[j]? = some y → RV h (Lf ρ sto) true y.key x.1 ∧ RV h (Lf ρ sto) false y.val x.2) →
              Okv h ρ sto w (((Instr.mapUpdate t (.map (some g')) uk uv).run P w).andThen fun _ w' => .ok .skip w') (.raw undef) (sto.set id (.mp es')) := by
            intro en' clock' es' hr hlen hrel
            obtain ⟨hs1, hs2⟩ := MapKept.heap_set (o' := .map en' clock') o2
            have hm := m.write (w' := { w with heap := w.heap.setIfInBounds g' (.map en' clock') }) hb' (b' := .mp es') hg trivial rfl rfl rfl (by simp) (fun k' hk' => hs2 k' hk') (by
              refine ⟨g', en', clock', hg, hs1, hlen, fun j x y h1 h2 => ?_⟩
              obtain ⟨p, q⟩ := hrel j x y h1 h2
              have hkp : ∀ v a, Lf ρ sto v a → Lf ρ (sto.set id (.mp es')) v a := fun v a lf => ⟨lf.1, LfC_set hb' (fun _ _ => rfl) rfl lf.2⟩
              exact ⟨p.mono (fun _ _ _ x => x) hkp, q.mono (fun _ _ _ x => x) hkp⟩)
            rw [hr]
            exact ⟨_, _, _, _, .inr ⟨rfl, rfl⟩, hm.1, hm.2, .raw _⟩
          unfold xmputF
          split
          · rename_i i vo hf
            intro _
            obtain ⟨y, z, f1, f2, f3, f4, f5, f6⟩ := mfind_ok hk o3 o4 hf
            simp only [Nat.sub_zero] at f3 f4
            have f3' : en[i]? = some y := by simpa using f3
            refine key (en.modify i fun e => { e with key := uk, val := uv }) clock (es.set i (ka, va)) ?_ (by simp [o3]) ?_
            · simp [Instr.mapUpdate, run_underlying ht, MapKept.run_getObj_map o2, hc, MapKept.run_findKey hkt f1, f3', Instr.keyThatStays, f6, MapKept.run_setObj_map _ o2, Result.andThen]
            · intro j x' y' h1 h2
              rw [Array.getElem?_toList, Array.getElem?_modify] at h2
              by_cases hj : i = j
              · subst hj
                rw [if_pos rfl, f3'] at h2
                have hlt := (List.getElem?_eq_some_iff.1 f4).1
                rw [List.getElem?_set_self hlt] at h1
                simp at h1 h2
                subst h1 h2
                exact ⟨rk, hv⟩
              · rw [if_neg hj] at h2
                rw [List.getElem?_set_ne hj] at h1
                exact o4 j x' y' h1 (by simpa using h2)
          · rename_i hf
            intro _
            have f1 := mfind_ok hk o3 o4 hf
            simp only at f1
            refine key (en.push { key := uk, val := uv, born := clock }) (clock + 1) (es ++ [(ka, va)]) ?_ (by simpa using o3) ?_
            · simp [Instr.mapUpdate, run_underlying ht, MapKept.run_getObj_map o2, hc, MapKept.run_findKey hkt f1, MapKept.run_setObj_map _ o2, Result.andThen]
            · intro j x' y' h1 h2
              rw [Array.toList_push] at h2
              by_cases hj : j < es.length
              · rw [List.getElem?_append_left hj] at h1
                rw [List.getElem?_append_left (by omega)] at h2
                exact o4 j x' y' h1 h2
              · have hjl := (List.getElem?_eq_some_iff.1 h1).1
                simp at hjl
                have : j = es.length := by omega
                subst this
                rw [List.getElem?_append_right (Nat.le_refl _)] at h1
                rw [List.getElem?_append_right (by omega), o3] at h2
                simp at h1 h2
                subst h1 h2
                exact ⟨rk, hv⟩
          · trivial
      · trivial
    · trivial
  · trivial

theorem lookup_ok {t : TypeId} {x k : Operand} {c : Bool} {o : Oper} {e : Env} {a : Act} (ho : o.op = .lookup t x k c) (m : Mine h ρ sto w) (he : EnvOk h ρ sto e a) :
    Res.Sound P h ρ sto w ((execOp a.eval o).run P w) (xlook P sto (ev e x) (ev e k) c (P.underlying t)) := by
  have hx := ev_ok he x
  have hk := ev_ok he k
  have hrun : (execOp a.eval o).run P w = ((Instr.lookup t (a.eval x) (a.eval k) c).run P w).andThen fun v w' => .ok (.value v) w' := by
    simp [execOp, ho]
  rw [hrun]
  generalize a.eval x = ux at *
  generalize a.eval k = uk at *
  generalize ev e k = ka at *
  unfold xlook
  split
  · rename_i kt et ht
    split
    · rename_i d id hkt hm
      rw [hm] at hx
      unfold xlookB
      split
      · rename_i es hb
        have hb' : sto[id]? = some (.mp es) := by
          rw [List.getD_eq_getElem?_getD] at hb
          cases hq : sto[id]? with
          | none => simp [hq] at hb
          | some b => simp [hq] at hb; rw [hb]
        cases hik : isKey d ka with
        | false => trivial
        | true =>
          simp only [cond_true]
          obtain ⟨ik, rk⟩ := isKey_ok hik hk
          have hl := (inv_mp hx).2
          simp only [LfC, hb'] at hl
          obtain ⟨g, hg, rfl⟩ := hl
          obtain ⟨g', en, clock, o1, o2, o3, o4⟩ := m.own id _ hb'
          have : g' = g := by rw [hg] at o1; simpa using o1.symm
          subst this
          have hc : ∀ b, (Instr.checkKey b 10000 kt uk).run P w = .ok () w := fun b => MapKept.run_checkKey hkt ik b 9999
          unfold xlookF
          split
          · rename_i i vo hf
            obtain ⟨y, z, f1, f2, f3, f4, f5, f6⟩ := mfind_ok hk o3 o4 hf
            simp only [Nat.sub_zero] at f3 f4
            obtain ⟨_, q⟩ := o4 i z y f4 f3
            subst f5
            refine okv_pure m (u := if c then .tuple #[y.val, .bool true] else y.val) ?_ ?_
            · simp [Instr.lookup, run_underlying ht, MapKept.run_getObj_map o2, hc, MapKept.run_findKey hkt f1, Result.andThen]
            · cases c with
              | true => exact .tup [_, _] [_, _] (.cons q (.cons (.bool _) .nil))
              | false => exact q
          · rename_i hf
            intro hz
            have f1 := mfind_ok hk o3 o4 hf
            simp only at f1
            obtain ⟨i, zv, hi, hzi, hzl⟩ : ∃ i zv, P.info? et = some i ∧ i.zero = some zv ∧ zav P et = [ofConst zv] := by
              unfold zleaf at hz
              cases hq : P.info? et with
              | none => simp [hq] at hz
              | some i =>
                cases hq2 : i.zero with
                | none => simp [hq, hq2] at hz
                | some zv =>
                  refine ⟨i, zv, rfl, hq2, ?_⟩
                  simp only [hq, hq2, Option.bind_some] at hz
                  simp only [zav, zcells, hq, hq2, Option.bind_some]
                  cases zv <;> first | rfl | (simp at hz)
            have hzr : (zeroValue et).run P w = .ok zv w := by simp [zeroValue, typeInfo, hi, hzi]
            refine okv_pure m (u := if c then .tuple #[zv, .bool false] else zv) ?_ ?_
            · simp [Instr.lookup, run_underlying ht, MapKept.run_getObj_map o2, hc, MapKept.run_findKey hkt f1, hzr, Result.andThen]
            · rw [hzl]
              cases c with
              | true => exact .tup [_, _] [_, _] (.cons (ofConst_ok zv) (.cons (.bool _) .nil))
              | false => exact ofConst_ok zv
          · trivial
      · trivial
    · trivial
  · trivial
end
end Go.Av
