/- Results that lie in cells. Own work of this seat. -/
import Derived.Test.YtpjbbpilgfihbaaGreatDoorAvY
set_option linter.unusedSimpArgs false
set_option linter.unusedVariables false
namespace Go.Av
open Go Go.RowKit

def sideIs : Res → AV → Prop
  | .side p u, v => p ∧ v = u
  | _, _ => False
def ResOk (P : Program) (e : Env) (s : List Blk) : List ResultVar → List AV → Prop
  | [], [] => True
  | .tmp t :: r, v :: l => v = get e t ∧ ResOk P e s r l
  | .cell a t :: r, v :: l => sideIs (xload (P.underlying t) (tsize P t) s (get e a)) v ∧ ResOk P e s r l
  | _, _ => False
def resT : List AV → AV
  | [v] => v
  | l => .tup l

theorem addr_of_load {P : Program} {w : World} {t : TypeId} {u v : Value} (h : (Instr.loadAt t u).run P w = .ok v w) : (do loadVar t (← asAddr u) : Sem Value).run P w = .ok v w := by
  cases u with
  | pointer a =>
    cases a with
    | some a => exact h
    | none => simp [Instr.loadAt, Instr.sureAddr, stuck] at h
  | _ => simp [Instr.loadAt, Instr.sureAddr, stuck] at h

section
variable {c : Cx} {e : Env} {s : List Blk}

def resF (tmps : Array Value) : ResultVar → Sem Value
  | .tmp t => pure (tmps.getD t undef)
  | .cell a t => do loadVar t (← asAddr (tmps.getD a undef))

theorem results_cells {h : Mem} {ρ : Own} {a : Act} {w : World} (m : Mine h ρ s w) (he : EnvOk h ρ s e a) : ∀ {rs : List ResultVar} {vals : List AV}, ResOk c.P e s rs vals →
    ∃ vs : List Value, (rs.mapM (resF a.tmps)).run c.P w = .ok vs w ∧ RL h (Lf ρ s) false vs vals
  | [], [], _ => ⟨[], by rw [List.mapM_nil, Sem.run_pure], .nil⟩
  | .tmp t :: r, v :: l, hv => by
    obtain ⟨rfl, hr⟩ := hv
    obtain ⟨vs, h1, h2⟩ := results_cells m he hr
    refine ⟨a.tmps.getD t undef :: vs, ?_, .cons (he t) h2⟩
    rw [List.mapM_cons, Sem.run_bind]
    simp only [resF, Sem.run_pure, Result.andThen_ok, Sem.run_bind, h1]
  | .cell b t :: r, v :: l, hv => by
    obtain ⟨h0, hr⟩ := hv
    obtain ⟨vs, h1, h2⟩ := results_cells m he hr
    have hl := load_val (P := c.P) (t := t) m (he b)
    unfold sideIs at h0
    revert h0 hl
    cases xload (c.P.underlying t) (tsize c.P t) s (get e b) <;> intro h0 hl <;> try exact h0.elim
    obtain ⟨hp, rfl⟩ := h0
    obtain ⟨u, hu, ru⟩ := hl hp
    have hu' := addr_of_load hu
    refine ⟨u :: vs, ?_, .cons ru h2⟩
    rw [List.mapM_cons, Sem.run_bind]
    have hf : (resF a.tmps (.cell b t)).run c.P w = .ok u w := hu'
    simp only [hf, Result.andThen_ok, Sem.run_bind, h1, Sem.run_pure]
  | [], _ :: _, hv => hv.elim
  | .tmp _ :: _, [], hv => hv.elim
  | .cell _ _ :: _, [], hv => hv.elim

def tupV : List Value → Value
  | [v] => v
  | l => .tuple l.toArray

theorem results_eq {fn : Func} (rs : List ResultVar) (hr : fn.results = rs.toArray) (tmps : Array Value) {P : Program} {w : World} {vs : List Value} (h : (rs.mapM (resF tmps)).run P w = .ok vs w) :
    (results fn tmps).run P w = .ok (tupV vs) w := by
  have e : results fn tmps = (do let vs ← fn.results.mapM (resF tmps); pure (if h : vs.size = 1 then vs[0] else .tuple vs) : Sem Value) := rfl
  rw [e, hr, Sem.run_bind, List.mapM_toArray]
  erw [Sem.run_bind]
  rw [h]
  clear h
  match vs with
  | [] => rfl
  | [v] => rfl
  | v :: u :: r => simp [Result.andThen, Sem.pure, tupV]

theorem aretc (rs : List ResultVar) (hr : c.fn.results = rs.toArray) (vals : List AV) (hv : ResOk c.P e s rs vals) (hp : c.post (resT vals) s) : ARet c e s := by
  rintro a w ⟨hh, ρ, hm, hl, he, hdf, hsz, _⟩
  obtain ⟨vs, h1, h2⟩ := results_cells (c := c) hm he hv
  refine ⟨hdf, tupV vs, resT vals, s, hh, ρ, ?_, hp, hm, hl, ?_⟩
  · exact results_eq rs hr _ h1
  · cases h2 with
    | nil => exact .tup _ _ .nil
    | cons r1 r2 =>
      cases r2 with
      | nil => exact r1
      | cons r2 r3 => exact .tup _ _ (.cons r1 (.cons r2 r3))
end
end Go.Av
