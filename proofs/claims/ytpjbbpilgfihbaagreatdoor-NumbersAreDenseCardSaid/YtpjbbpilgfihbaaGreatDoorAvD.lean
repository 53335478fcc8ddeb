/- Each operation makes of values what its counterpart makes of plain data. Own work of this seat. -/
import Derived.Test.YtpjbbpilgfihbaaGreatDoorAvC
set_option linter.unusedSimpArgs false
set_option linter.unusedVariables false
namespace Go.Av
open Go Go.RowKit

section
variable {h : Mem} {ρ : Own} {sto : List Blk} {w : World} {P : Program}

def EnvOk (h : Mem) (ρ : Own) (sto : List Blk) (e : Env) (a : Act) : Prop := ∀ t, RV h (Lf ρ sto) false (a.tmps.getD t undef) (get e t)

theorem inv_int {fl u k n} (r : RV h (Lf ρ sto) fl u (.int k n)) : u = .int k n := by cases r with | leaf l => exact l.2.elim | int => rfl
theorem inv_bool {fl u b} (r : RV h (Lf ρ sto) fl u (.bool b)) : u = .bool b := by cases r with | leaf l => exact l.2.elim | bool => rfl
theorem inv_str {fl u s} (r : RV h (Lf ρ sto) fl u (.str s)) : u = .string ⟨s.toArray⟩ := by cases r with | leaf l => exact l.2.elim | str => rfl
theorem inv_raw {fl u v} (r : RV h (Lf ρ sto) fl u (.raw v)) : u = v := by cases r with | leaf l => exact l.2.elim | raw => rfl
theorem inv_agg {fl u l} (r : RV h (Lf ρ sto) fl u (.agg l)) : ∃ vs : List Value, u = .agg vs.toArray ∧ RL h (Lf ρ sto) fl vs l := by
  cases r with | leaf l => exact l.2.elim | agg vs l r => exact ⟨vs, rfl, r⟩
theorem inv_tup {fl u l} (r : RV h (Lf ρ sto) fl u (.tup l)) : ∃ vs : List Value, u = .tuple vs.toArray ∧ RL h (Lf ρ sto) fl vs l := by
  cases r with | leaf l => exact l.2.elim | tup vs l r => exact ⟨vs, rfl, r⟩
theorem inv_fn {fl u f l} (r : RV h (Lf ρ sto) fl u (.fn f l)) : ∃ vs : List Value, u = .func f #[] vs.toArray ∧ RL h (Lf ρ sto) fl vs l := by
  cases r with | leaf l => exact l.2.elim | fn f vs l r => exact ⟨vs, rfl, r⟩
theorem inv_fz {fl u e l} (r : RV h (Lf ρ sto) fl u (.fz e l)) : (l = [] ∧ u = .slice none 0 0) ∨
    ∃ b o c vs, u = .slice (some ⟨b, o, none⟩) l.length c ∧ RL h (Lf ρ sto) true vs (flat l) ∧ (∀ x ∈ l, (cellsOf x).length = e) ∧ (∀ (k : Nat) v, vs[k]? = some v → h b (o + k) = some v) ∧ l.length ≤ c := by
  cases r with
  | leaf l => exact l.2.elim
  | fznil => exact .inl ⟨rfl, rfl⟩
  | fz b o c e l vs h1 h2 h3 h4 => exact .inr ⟨b, o, c, vs, rfl, h1, h2, h3, h4⟩
theorem inv_pin {fl u e l i off} (r : RV h (Lf ρ sto) fl u (.pin e l i off)) :
    ∃ b o vs, u = .pointer (some ⟨b, o + (i * e + off), none⟩) ∧ RL h (Lf ρ sto) true vs (flat l) ∧ (∀ x ∈ l, (cellsOf x).length = e) ∧ (∀ (k : Nat) v, vs[k]? = some v → h b (o + k) = some v) ∧ i < l.length := by
  cases r with
  | leaf l => exact l.2.elim
  | pin b o e l vs i off h1 h2 h3 h4 => exact ⟨b, o, vs, rfl, h1, h2, h3, h4⟩
theorem inv_sl {fl u id off len cap} (r : RV h (Lf ρ sto) fl u (.sl id off len cap)) : Lf ρ sto u (.sl id off len cap) := by cases r with | leaf l => exact l
theorem inv_ptr {fl u id n i off} (r : RV h (Lf ρ sto) fl u (.ptr id n i off)) : Lf ρ sto u (.ptr id n i off) := by cases r with | leaf l => exact l
theorem inv_mp {fl u id} (r : RV h (Lf ρ sto) fl u (.mp id)) : Lf ρ sto u (.mp id) := by cases r with | leaf l => exact l

theorem ofConst_ok {fl : Bool} (v : Value) : RV h (Lf ρ sto) fl v (ofConst v) := by
  cases v with
  | int k n => exact .int k n
  | bool b => exact .bool b
  | string s => exact .str s.data.toList
  | _ => exact .raw _

theorem ev_ok {e : Env} {a : Act} (he : EnvOk h ρ sto e a) (x : Operand) : RV h (Lf ρ sto) false (a.eval x) (ev e x) := by
  cases x with
  | tmp t => exact he t
  | const v => exact ofConst_ok v
  | global g => exact .raw _
  | func f => exact .fn (.func f) [] [] .nil

theorem evs_ok {e : Env} {a : Act} (he : EnvOk h ρ sto e a) (xs : List Operand) : RL h (Lf ρ sto) false (xs.map a.eval) (evs e xs) := by
  induction xs with
  | nil => exact .nil
  | cons x xs ih => exact .cons (ev_ok he x) ih

/-- a value that may lie in one cell -/
theorem one_ok {fl u a} (r : RV h (Lf ρ sto) fl u a) (h1 : one a = true) : u.oneCell' = true := by
  cases a with
  | int => rw [inv_int r]; rfl
  | bool => rw [inv_bool r]; rfl
  | str => rw [inv_str r]; rfl
  | raw v => rw [inv_raw r]; exact h1
  | agg => cases h1
  | tup => cases h1
  | any => cases h1
  | fn f l => obtain ⟨vs, rfl, _⟩ := inv_fn r; rfl
  | fz e l => rcases inv_fz r with ⟨_, rfl⟩ | ⟨b, o, c, vs, rfl, _⟩ <;> rfl
  | pin => obtain ⟨b, o, vs, rfl, _⟩ := inv_pin r; rfl
  | sl => exact (inv_sl r).1
  | ptr => exact (inv_ptr r).1
  | mp => exact (inv_mp r).1

end
end Go.Av
