/- Loops with several ways out, joins: the rest of the text is walked once. Own work of this seat. -/
import Derived.Test.YtpjbbpilgfihbaaGreatDoorAvFz
set_option linter.unusedSimpArgs false
set_option linter.unusedVariables false
namespace Go.Av
open Go Go.RowKit

section
variable {c : Cx} {k : List It} {e : Env} {s : List Blk} {B : Code}

/-- behind a stop 'Q' that says what the rest asks, as behind the rest -/
theorem WQ_mid {e : Exit} {a : Act} {w : World} (h : WQ c (.inv (WQ c k .normal) :: k) e a w) : WQ c k e a w := by
  cases e with
  | normal => exact h
  | exit id => exact h
  | ret => exact h
  | _ => exact h
theorem WQ_mid2 {J : Act → World → Prop} {id : Nat} {e : Exit} {a : Act} {w : World} (h : WQ c (.inv J :: .blk id :: .inv (WQ c k .normal) :: k) e a w) : WQ c (.inv J :: .blk id :: k) e a w := by
  cases e with
  | normal => exact h
  | exit id' =>
    simp only [WQ] at h ⊢
    split at h
    · rename_i hi; rw [if_pos hi]; exact h
    · rename_i hi; rw [if_neg hi]; exact h
  | ret => exact h
  | _ => exact h

/-- A JOIN: what holds behind a piece of code, for some y, however it has been gone through; the rest is walked once. -/
theorem amid {κ : Type} {y : Code} (E : κ → Env) (S : κ → List Blk) (H : κ → Prop) (rest : ∀ x, H x → AWp c k (E x) (S x))
    (step : ∀ Q : Act → World → Prop, (∀ x, H x → ∀ a w, Sim c (E x) (S x) a w → Q a w) → AWp c (.code y :: .inv Q :: k) e s) : AWp c (.code y :: k) e s := by
  intro a w hs
  have := step (WQ c k .normal) (fun x hx a w hs => rest x hx a w hs) a w hs
  exact Code.wp_mono (fun en a' w' hq => WQ_mid hq) (show y.wp c.P (WQ c (.inv (WQ c k .normal) :: k)) a w from this)

/-- A LOOP with several ways out: what holds of each way out, for some y; the rest is walked once. -/
theorem aloopX {ι κ : Type} {id : Nat} (μ : ι → Nat) (E : ι → Env) (S : ι → List Blk) (H : ι → Prop) (Ex : κ → Env) (Sx : κ → List Blk) (Hx : κ → Prop) (x0 : ι) (hH : H x0) (hs : Shift c e s (E x0) (S x0))
    (rest : ∀ y, Hx y → AWp c k (Ex y) (Sx y))
    (step : ∀ x, H x → ∀ J Q : Act → World → Prop, (∀ y, H y → μ y < μ x → ∀ a w, Sim c (E y) (S y) a w → J a w) → (∀ y, Hx y → ∀ a w, Sim c (Ex y) (Sx y) a w → Q a w) → AWp c (.code B :: .inv J :: .blk id :: .inv Q :: k) (E x) (S x)) :
    AWp c (.code (.loop B) :: .blk id :: k) e s :=
  aloop μ E S H x0 hH hs fun x hx J hJ a w hsx =>
    Code.wp_mono (fun en a' w' hq => WQ_mid2 hq) (show B.wp c.P (WQ c (.inv J :: .blk id :: .inv (WQ c k .normal) :: k)) a w from step x hx J (WQ c k .normal) hJ (fun y hy a w hs => rest y hy a w hs) a w hsx)
end
end Go.Av
