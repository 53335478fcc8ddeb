/- Loops round by round. Own work of this seat. -/
import Derived.Test.YtpjbbpilgfihbaaGreatDoorAvR
set_option linter.unusedSimpArgs false
set_option linter.unusedVariables false
namespace Go.Av
open Go Go.RowKit

/-- what a loop comes to, from the head of a round on -/
def Hd (P : Program) (B : Code) (Q : Exit → Act → World → Prop) (a : Act) (w : World) : Prop :=
  ∀ (b : Frame) (k : List Item) (cs : List Frame), ∃ e a' w', Q e a' w' ∧ Arrives P (lone (b.at a (.code B :: .inLoop B :: k)) cs w) b k cs e a' w'

theorem Hd.loop {P : Program} {B : Code} {Q : Exit → Act → World → Prop} {a : Act} {w : World} (h : Hd P B Q a w) : (Code.loop B).wp P Q a w := by
  intro b k cs
  obtain ⟨e, a', w', hq, harr⟩ := h b k cs
  exact ⟨e, a', w', hq, .of_steps (.one step_loop) harr⟩

theorem Hd.round {P : Program} {B : Code} {Q : Exit → Act → World → Prop} {a : Act} {w : World} (h : B.wp P (Exit.then (Hd P B Q) Q) a w) : Hd P B Q a w := by
  intro b k cs
  obtain ⟨e, a₁, w₁, hq, harr⟩ := h b (.inLoop B :: k) cs
  cases e with
  | normal =>
    obtain ⟨e₂, a₂, w₂, hq₂, harr₂⟩ := hq b k cs
    exact ⟨e₂, a₂, w₂, hq₂, .of_steps (Steps.trans harr (.one step_inLoop)) harr₂⟩
  | exit id => exact ⟨_, a₁, w₁, hq, .pass (x := .inLoop B) rfl (fun _ _ => .inl (by simp)) harr⟩
  | goto l => exact ⟨_, a₁, w₁, hq, .pass (x := .inLoop B) rfl (fun _ _ => .inl (by simp)) harr⟩
  | ret => exact ⟨_, a₁, w₁, hq, .pass (x := .inLoop B) rfl (fun _ _ => .inl (by simp)) harr⟩
  | panic ch => exact ⟨_, a₁, w₁, hq, .pass (x := .inLoop B) rfl (fun _ _ => .inl (by simp)) harr⟩
  | outgrown => exact ⟨_, a₁, w₁, hq, .pass (x := .inLoop B) rfl (fun _ _ => .inl (by simp)) harr⟩

section
variable {c : Cx} {k : List It} {e : Env} {s : List Blk} {B : Code}

/-- the head of a round -/
def AHd (c : Cx) (B : Code) (k : List It) (e : Env) (s : List Blk) : Prop := ∀ a w, Sim c e s a w → Hd c.P B (WQ c k) a w

/-- into a loop, to be gone through round by round -/
theorem aenter (h : AHd c B k e s) : AWp c (.code (.loop B) :: k) e s := fun a w hs => (h a w hs).loop

/-- one round -/
theorem around (h : AWp c (.code B :: .inv (Hd c.P B (WQ c k)) :: k) e s) : AHd c B k e s := fun a w hs => by
  refine Hd.round ?_
  refine Code.wp_mono ?_ (h a w hs)
  intro en a' w' hq
  cases en <;> exact hq

/-- .. and its end -/
theorem aagain (h : AHd c B k e s) : AWp c (.inv (Hd c.P B (WQ c k)) :: k) e s := fun a w hs => h a w hs

/-- a loop, by recursion: what holds of the heads of rounds -/
theorem AHd.shift {e' : Env} {s' : List Blk} (x : Shift c e s e' s') (h : AHd c B k e' s') : AHd c B k e s := fun a w hs => h a w (x a w hs)
end
end Go.Av
