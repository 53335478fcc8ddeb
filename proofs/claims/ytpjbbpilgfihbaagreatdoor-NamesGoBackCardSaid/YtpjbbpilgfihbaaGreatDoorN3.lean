/- The walk over a function's text in plain data: 'run' goes on by itself till a call, a loop, a return. Own work of this seat. -/
import Derived.Test.YtpjbbpilgfihbaaGreatDoorN2
import Derived.Deep.LoopGhost
import Derived.Lib.Builder
import Derived.Lib.AppendStr
import Derived.Lib.UnsafeStr
import Derived.Below
set_option linter.unusedSimpArgs false
set_option linter.unusedVariables false
namespace Go.Av
open Go Go.RowKit

inductive It where
  | ops (all rest : List Oper)
  | op (all : List Oper) (o : Oper) (rest : List Oper)
  | code (c : Code)
  | blk (id : Nat)
  | inv (J : Act → World → Prop)

def dOk (N : Nat) : Option Tmp → Bool
  | some d => decide (d < N)
  | none => true

/-- what is said of the world besides: it stands as long as all that is owned, or new, alone changes -/
structure Stb (x : Mem → Own → World → Prop) : Prop where
  later : ∀ {h ρ sto w h' ρ' sto' w'}, Mine h ρ sto w → Later h ρ sto w h' ρ' sto' w' → x h ρ w → x h' ρ' w'
  fewer : ∀ {h : Mem} {ρ ρ' : Own} {w : World}, (∀ i g t, ρ' i = some (g, t) → ∃ j t', ρ j = some (g, t')) → x h ρ w → x h ρ' w
def X0 : Mem → Own → World → Prop := fun _ _ _ => True
theorem stb0 : Stb X0 := ⟨fun _ _ _ => trivial, fun _ _ => trivial⟩

structure Cx where
  P : Program
  fn : Func
  h : Mem
  ρ : Own
  sto : List Blk
  w : World
  post : AV → List Blk → Prop
  x : Mem → Own → World → Prop
  hx : Stb x

def Fin (c : Cx) (a : Act) (w : World) : Prop :=
  a.defers = [] ∧ ∃ v r s h' ρ', (results c.fn a.tmps).run c.P w = .ok v w ∧ c.post r s ∧ Mine h' ρ' s w ∧ Later c.h c.ρ c.sto c.w h' ρ' s w ∧ RV h' (Lf ρ' s) false v r

/-- what is asked where the code behind which 'k' stands ends so -/
def WQ (c : Cx) : List It → Exit → Act → World → Prop
  | [], e, a, w => match e with
    | .normal => Fin c a w
    | .ret => Fin c a w
    | _ => False
  | x :: k, e, a, w => match e with
    | .normal => match x with
      | .ops all rest => wpList c.P all.toArray (WQ c k) rest a w
      | .op all o rest => dOk c.fn.ntmps o.dst = true → o.wp c.P a w (wpList c.P all.toArray (WQ c k) rest) (WQ c k)
      | .code y => y.wp c.P (WQ c k) a w
      | .blk _ => WQ c k .normal a w
      | .inv J => J a w
    | .exit id => match x with
      | .blk i => if id = i then WQ c k .normal a w else WQ c k (.exit id) a w
      | _ => WQ c k (.exit id) a w
    | e => WQ c k e a w

def Sim (c : Cx) (e : Env) (s : List Blk) (a : Act) (w : World) : Prop :=
  ∃ h ρ, Mine h ρ s w ∧ Later c.h c.ρ c.sto c.w h ρ s w ∧ EnvOk h ρ s e a ∧ a.defers = [] ∧ a.tmps.size = c.fn.ntmps ∧ c.x h ρ w

/-- from 'k' on, in the state (e, s), all goes well -/
def AWp (c : Cx) (k : List It) (e : Env) (s : List Blk) : Prop := ∀ a w, Sim c e s a w → WQ c k .normal a w
def ARet (c : Cx) (e : Env) (s : List Blk) : Prop := ∀ a w, Sim c e s a w → Fin c a w
def ACall (c : Cx) (f : FuncId) (args : List AV) (d : Option Tmp) (all os : List Oper) (k : List It) (e : Env) (s : List Blk) : Prop :=
  ∀ a w h ρ vs, Mine h ρ s w → Later c.h c.ρ c.sto c.w h ρ s w → EnvOk h ρ s e a → a.defers = [] → a.tmps.size = c.fn.ntmps → c.x h ρ w → RL h (Lf ρ s) false vs args →
    hasBody c.P f = true ∧ Calls c.P f vs.toArray w fun en w' => match en with
      | .returned v => WQ c (.ops all os :: k) .normal (a.put d v) w'
      | _ => False
/-- an operation that the plain data have no word for -/
def Stuck (_ : Oper) (_ : Env) : Prop := False

def exitIt (id : Nat) : List It → Option (List It)
  | [] => none
  | .blk i :: k => bif id == i then some k else exitIt id k
  | _ :: k => exitIt id k

inductive Nx where
  | go (k : List It) (e : Env) (s : List Blk)
  | two (b : Bool) (k : List It) (e : Env) (s : List Blk) (k' : List It) (e' : Env) (s' : List Blk)
  | side (p : Prop) (k : List It) (e : Env) (s : List Blk)
  | leaf (p : Prop)

def resN (c : Cx) (o : Oper) (all os : List Oper) (k : List It) (e : Env) (s : List Blk) : Res → Nx
  | .ok v => .go (.ops all os :: k) (put e o.dst v) s
  | .side p v => .side p (.ops all os :: k) (put e o.dst v) s
  | .sto p v s' => .side p (.ops all os :: k) (put e o.dst v) s'
  | .pick b x y => .two b (.ops all os :: k) (put e o.dst x) s (.ops all os :: k) (put e o.dst y) s
  | .call f args => .leaf (ACall c f args o.dst all os k e s)
  | .anyb p => .leaf (p ∧ ∀ b, AWp c (.ops all os :: k) (put e o.dst (.bool b)) s)
  | .stuck => .leaf (Stuck o e)
def notBool : Value → Bool
  | .bool _ => false
  | _ => true
theorem notBool_undef : notBool undef = true := rfl
/-- what a guard reads; of a slot that was passed over: that the guard does not hold -/
def yldV (want : Bool) : AV → Option Bool
  | .bool b => some b
  | .raw v => bif notBool v then some (!want) else none
  | _ => none
def yldD (want : Bool) (e : Env) : Option Oper → Option Bool
  | some o => match o.dst with
    | some d => yldV want (get e d)
    | none => none
  | none => none
def grdN (want : Bool) (o : Oper) (all os : List Oper) (k : List It) (e : Env) (s : List Blk) : Option Bool → Nx
  | some b => bif want then .two b (.op all o os :: k) e s (.ops all os :: k) (put e o.dst (.raw undef)) s
    else .two b (.ops all os :: k) (put e o.dst (.raw undef)) s (.op all o os :: k) e s
  | none => .leaf (Stuck o e)
def opN (o : Oper) (all os : List Oper) (k : List It) (e : Env) (s : List Blk) : Option (Nat × Bool) → Nx
  | none => .go (.op all o os :: k) e s
  | some (j, want) => grdN want o all os k e s (yldD want e all[j]?)
def condN (a b : Code) (k : List It) (e : Env) (s : List Blk) : AV → Nx
  | .bool t => .two t (.code a :: k) e s (.code b :: k) e s
  | _ => .leaf False
def exitN (e : Env) (s : List Blk) : Option (List It) → Nx
  | some k => .go k e s
  | none => .leaf False
def stopN (c : Cx) (k : List It) (e : Env) (s : List Blk) : Nx := .leaf (AWp c k e s)

/-- one step; 'wr': sums may wrap round; 'frz': slice literals are frozen; 'N': the number of slots -/
def step1 (wr frz : Bool) (N : Nat) (c : Cx) (k : List It) (e : Env) (s : List Blk) : Nx :=
  match k with
  | .ops _ [] :: k => .go k e s
  | .ops all (o :: os) :: k => bif dOk N o.dst then opN o all os k e s o.guard else .leaf False
  | .op all o os :: k => resN c o all os k e s (xop wr frz c.P e s o.op)
  | .code .skip :: k => .go k e s
  | .code (.region id ops draw) :: k => bif draw then stopN c (.code (.region id ops true) :: k) e s else .go (.ops ops.toList ops.toList :: k) e s
  | .code (.seq a b) :: k => .go (.code a :: .code b :: k) e s
  | .code (.cond x a b) :: k => condN a b k e s (ev e x)
  | .code (.block id x) :: k => .go (.code x :: .blk id :: k) e s
  | .code (.exit id) :: k => exitN e s (exitIt id k)
  | .code .ret :: _ => .leaf (ARet c e s)
  | .code x :: k => stopN c (.code x :: k) e s
  | .blk _ :: k => .go k e s
  | .inv J :: k => stopN c (.inv J :: k) e s
  | [] => .leaf (ARet c e s)

mutual
def run (wr frz : Bool) (N : Nat) (c : Cx) : Nat → List It → Env → List Blk → Prop
  | 0, k, e, s => AWp c k e s
  | n + 1, k, e, s => cont wr frz N c n (step1 wr frz N c k e s)
def cont (wr frz : Bool) (N : Nat) (c : Cx) : Nat → Nx → Prop
  | n, .go k e s => run wr frz N c n k e s
  | n, .two b k e s k' e' s' => br wr frz N c n b k e s k' e' s'
  | n, .side p k e s => p ∧ run wr frz N c n k e s
  | _, .leaf p => p
/-- two ways; where the test is known, one ('br_true', 'br_false' are to be tried first) -/
def br (wr frz : Bool) (N : Nat) (c : Cx) : Nat → Bool → List It → Env → List Blk → List It → Env → List Blk → Prop
  | 0, b, k, e, s, k', e', s' => (b = true → AWp c k e s) ∧ (b = false → AWp c k' e' s')
  | n + 1, b, k, e, s, k', e', s' => (b = true → run wr frz N c n k e s) ∧ (b = false → run wr frz N c n k' e' s')
end
theorem br_true {wr frz : Bool} {N : Nat} {c : Cx} {n : Nat} {k e s k' e' s'} : br wr frz N c (n + 1) true k e s k' e' s' = run wr frz N c n k e s := by rw [br]; simp
theorem br_false {wr frz : Bool} {N : Nat} {c : Cx} {n : Nat} {k e s k' e' s'} : br wr frz N c (n + 1) false k e s k' e' s' = run wr frz N c n k' e' s' := by rw [br]; simp

def Nx.sem (c : Cx) : Nx → Prop
  | .go k e s => AWp c k e s
  | .two b k e s k' e' s' => (b = true → AWp c k e s) ∧ (b = false → AWp c k' e' s')
  | .side p k e s => p ∧ AWp c k e s
  | .leaf p => p

section
variable {c : Cx} {k : List It} {e : Env} {s : List Blk}

theorem exit_ok {id : Nat} : ∀ {k k' : List It}, exitIt id k = some k' → ∀ a w, WQ c k' .normal a w → WQ c k (.exit id) a w
  | [], _, h, _, _, _ => by simp [exitIt] at h
  | x :: k, k', h, a, w, hw => by
    cases x with
    | blk i =>
      simp only [exitIt] at h
      simp only [WQ]
      by_cases hi : id = i
      · subst hi
        simp at h; subst h
        simp only [if_true]; exact hw
      · have : (id == i) = false := by simpa using hi
        simp only [this, cond_false] at h
        rw [if_neg hi]
        exact exit_ok h a w hw
    | ops _ _ => exact exit_ok (k := k) h a w hw
    | op _ _ _ => exact exit_ok (k := k) h a w hw
    | code _ => exact exit_ok (k := k) h a w hw
    | inv _ => exact exit_ok (k := k) h a w hw

theorem ret_ok : ∀ {k : List It} {a w}, Fin c a w → WQ c k .ret a w
  | [], _, _, h => h
  | _ :: k, _, _, h => ret_ok (k := k) h

theorem EnvOk.put {h : Mem} {ρ : Own} {a : Act} {d : Option Tmp} {v : Value} {x : AV} (he : EnvOk h ρ s e a) (hd : dOk a.tmps.size d = true) (hv : RV h (Lf ρ s) false v x) : EnvOk h ρ s (put e d x) (a.put d v) := by
  cases d with
  | none => exact he
  | some d =>
    intro t
    have hlt : d < a.tmps.size := by simpa [dOk] using hd
    simp only [Av.put, get, Act.put]
    by_cases ht : d = t
    · subst ht
      simp [hlt]
      exact hv
    · have : (d == t) = false := by simpa using ht
      simp only [this, cond_false]
      have e1 : (a.tmps.setIfInBounds d v).getD t undef = a.tmps.getD t undef := by
        simp [Array.getElem?_setIfInBounds_ne ht]
      rw [e1]
      exact he t

theorem put_size (a : Act) (d : Option Tmp) (v : Value) : (a.put d v).tmps.size = a.tmps.size := by cases d <;> simp [Act.put]
theorem put_defers' (a : Act) (d : Option Tmp) (v : Value) : (a.put d v).defers = a.defers := by cases d <;> rfl

/-- behind an operation -/
theorem okv_go {h : Mem} {ρ : Own} {w : World} {a : Act} {o : Oper} {v : AV} {s' : List Blk} {all os : List Oper} (hl : Later c.h c.ρ c.sto c.w h ρ s w) (he : EnvOk h ρ s e a) (hdf : a.defers = []) (hsz : a.tmps.size = c.fn.ntmps) (hm0 : Mine h ρ s w) (hX : c.x h ρ w)
    (hd : dOk c.fn.ntmps o.dst = true) (ok : Okv h ρ s w ((execOp a.eval o).run c.P w) v s') (hk : AWp c (.ops all os :: k) (put e o.dst v) s') : WQ c (.op all o os :: k) .normal a w := by
  obtain ⟨u, w', h', ρ', hr, hm, hlt, rv⟩ := ok
  have he' : EnvOk h' ρ' s' e a := fun t => (he t).mono hlt.hle hlt.keep
  have hsim : Sim c (put e o.dst v) s' (a.put o.dst u) w' := ⟨h', ρ', hm, hl.trans hlt, he'.put (by rw [hsz]; exact hd) rv, by rw [put_defers']; exact hdf, by rw [put_size]; exact hsz, c.hx.later hm0 hlt hX⟩
  have := hk _ _ hsim
  show _ → o.wp c.P a w (wpList c.P all.toArray (WQ c k) os) (WQ c k)
  intro _
  unfold Oper.wp
  rcases hr with hr | ⟨hr, hu⟩
  · rw [hr]; exact this
  · rw [hr]; subst hu; exact this

theorem yielded_ok {h : Mem} {ρ : Own} {a : Act} {all : List Oper} {j : Nat} {b want : Bool} (he : EnvOk h ρ s e a) (hb : yldD want e all[j]? = some b) : (b = want → yielded all.toArray a.tmps j = some want) ∧ (b ≠ want → yielded all.toArray a.tmps j ≠ some want) := by
  unfold yldD at hb
  split at hb
  · rename_i oj hoj
    split at hb
    · rename_i d hd
      have hv := he d
      unfold yldV at hb
      split at hb
      · rename_i b' hb'
        rw [hb'] at hv
        have h1 := inv_bool hv
        simp at hb; subst hb
        have h2 : a.tmps[d]? = some (.bool b') := by
          rw [Array.getD_eq_getD_getElem?] at h1
          cases hq : a.tmps[d]? with
          | none => rw [hq] at h1; simp [undef] at h1
          | some v => rw [hq] at h1; simp at h1; rw [h1]
        have hy : yielded all.toArray a.tmps j = some b' := by simp [yielded, hoj, hd, h2]
        exact ⟨fun e => by rw [hy, e], fun e => by rw [hy]; simpa using e⟩
      · rename_i v hb'
        rw [hb'] at hv
        have h1 := inv_raw hv
        cases hn : notBool v with
        | false => simp [hn] at hb
        | true =>
          simp [hn] at hb
          have hy : yielded all.toArray a.tmps j = none := by
            simp only [yielded, List.getElem?_toArray, hoj, hd, Option.bind_some]
            rw [Array.getD_eq_getD_getElem?] at h1
            cases hq : a.tmps[d]? with
            | none => rfl
            | some u =>
              rw [hq] at h1; simp at h1; subst h1
              cases u <;> first | rfl | (simp [notBool] at hn)
          refine ⟨fun e => ?_, fun _ => by rw [hy]; simp⟩
          rw [e] at hb
          cases want <;> cases hb
      · simp at hb
    · simp at hb
  · simp at hb

theorem step1_sound {wr frz : Bool} (h : (step1 wr frz c.fn.ntmps c k e s).sem c) : AWp c k e s := by
  intro a w hsim
  have hsim' := hsim
  obtain ⟨hh, ρ, hm, hl, he, hdf, hsz, hX⟩ := hsim'
  unfold step1 at h
  split at h
  · exact (h a w hsim : WQ c _ .normal a w)
  · -- an operation's guard
    rename_i all o os k
    cases hd : dOk c.fn.ntmps o.dst with
    | false => simp [hd, Nx.sem] at h
    | true =>
    simp only [hd, cond_true] at h
    unfold opN at h
    split at h
    · rename_i hg
      have := h a w hsim
      show wpList c.P all.toArray (WQ c k) (o :: os) a w
      unfold wpList
      rw [if_pos (by simp [Region.wanted, hg])]
      exact .inl (this hd)
    · rename_i j want hg
      unfold grdN at h
      split at h
      · rename_i b hb
        have hy := yielded_ok he hb
        show wpList c.P all.toArray (WQ c k) (o :: os) a w
        unfold wpList
        have h1 : b = want → AWp c (.op all o os :: k) e s := fun hh => by
          subst hh
          cases b with
          | true => exact h.1 rfl
          | false => exact h.2 rfl
        have h2 : b ≠ want → AWp c (.ops all os :: k) (put e o.dst (.raw undef)) s := fun hh => by
          cases b <;> cases want <;> first | exact (hh rfl).elim | exact h.1 rfl | exact h.2 rfl
        by_cases hbw : b = want
        · rw [if_pos (by simp [Region.wanted, hg, hy.1 hbw])]
          exact .inl (h1 hbw a w hsim hd)
        · rw [if_neg (by simpa [Region.wanted, hg] using hy.2 hbw)]
          exact h2 hbw _ w ⟨hh, ρ, hm, hl, he.put (by rw [hsz]; exact hd) (.raw _), by rw [put_defers']; exact hdf, by rw [put_size]; exact hsz, hX⟩
      · exact h.elim
  · -- an operation
    rename_i all o os k
    show _ → _
    intro hd
    have hs := xop_sound (P := c.P) (wr := wr) (frz := frz) (o := o) hm he
    revert h hs
    cases hx : xop wr frz c.P e s o.op with
    | ok v => intro h hs; exact okv_go hl he hdf hsz hm hX hd hs h hd
    | side p v => intro h hs; exact okv_go hl he hdf hsz hm hX hd (hs h.1) h.2 hd
    | sto p v s' => intro h hs; exact okv_go hl he hdf hsz hm hX hd (hs h.1) h.2 hd
    | pick b x y =>
        intro h hs
        cases b with
        | true => exact okv_go hl he hdf hsz hm hX hd hs (h.1 rfl) hd
        | false => exact okv_go hl he hdf hsz hm hX hd hs (h.2 rfl) hd
    | call f args =>
        intro h hs
        obtain ⟨vs, hv, hr⟩ := hs
        have hb := (h a w hh ρ vs hm hl he hdf hsz hX hv).1
        replace hr := hr hb
        have hc := (h a w hh ρ vs hm hl he hdf hsz hX hv).2
        show o.wp c.P a w (wpList c.P all.toArray (WQ c k) os) (WQ c k)
        unfold Oper.wp
        rw [hr]
        exact hc.mono fun en w' hw => by
          cases en with
          | returned v => exact hw
          | panicked ch => exact hw.elim
          | outgrown => exact hw.elim
    | anyb p => intro h hs; obtain ⟨b, hb⟩ := hs h.1; exact okv_go hl he hdf hsz hm hX hd hb (h.2 b) hd
    | stuck => intro h; exact h.elim
  · exact (h a w hsim : WQ c _ .normal a w) |> fun x => wp_skip x
  · rename_i id ops draw k
    cases draw with
    | true => exact h a w hsim
    | false =>
      have := h a w hsim
      exact wp_region_list (by simpa [WQ] using this)
  · rename_i x y k
    refine wp_seq (Code.wp_mono ?_ (h a w hsim))
    intro en a' w' hq
    cases en <;> exact hq
  · rename_i x y z k
    unfold condN at h
    split at h
    · rename_i t ht
      have hx := ev_ok he x
      rw [ht] at hx
      have hb := inv_bool hx
      refine wp_cond hb ?_
      cases t with
      | true => exact h.1 rfl a w hsim
      | false => exact h.2 rfl a w hsim
    · exact h.elim
  · rename_i id x k
    refine wp_block (Code.wp_mono ?_ (h a w hsim))
    intro en a' w' hq
    cases en <;> exact hq
  · rename_i id k
    unfold exitN at h
    split at h
    · rename_i k' hk
      exact wp_exit (exit_ok hk a w (h a w hsim))
    · exact h.elim
  · exact wp_ret (ret_ok (h a w hsim))
  · exact h a w hsim
  · exact h a w hsim
  · exact h a w hsim
  · exact h a w hsim

theorem nx_sound {wr frz : Bool} {n : Nat} (ih : ∀ m, m ≤ n → ∀ k e s, run wr frz c.fn.ntmps c m k e s → AWp c k e s) : ∀ {x : Nx}, cont wr frz c.fn.ntmps c n x → x.sem c
  | .go k e s, h => ih n (Nat.le_refl _) k e s (by rw [cont] at h; exact h)
  | .two b k e s k' e' s', h => by
    rw [cont] at h
    cases n with
    | zero => rw [br] at h; exact h
    | succ n =>
      rw [br] at h
      exact ⟨fun hb => ih n (by omega) _ _ _ (h.1 hb), fun hb => ih n (by omega) _ _ _ (h.2 hb)⟩
  | .side p k e s, h => by
    rw [cont] at h
    exact ⟨h.1, ih n (Nat.le_refl _) _ _ _ h.2⟩
  | .leaf p, h => by rw [cont] at h; exact h

/-- THE WALK: 'run' says what is left to show. -/
theorem run_sound {wr frz : Bool} (n : Nat) : ∀ (k : List It) (e : Env) (s : List Blk), run wr frz c.fn.ntmps c n k e s → AWp c k e s := by
  induction n using Nat.strongRecOn with
  | _ n ih =>
    intro k e s h
    cases n with
    | zero => rw [run] at h; exact h
    | succ n =>
      rw [run] at h
      exact step1_sound (nx_sound (fun m hm => ih m (by omega)) h)

/-- the same, the number of slots as it is written -/
theorem go {N : Nat} (hN : c.fn.ntmps = N) (n : Nat) (h : run false false N c n k e s) : AWp c k e s := run_sound n k e s (hN ▸ h)
theorem goW {N : Nat} (hN : c.fn.ntmps = N) (n : Nat) (h : run true false N c n k e s) : AWp c k e s := run_sound n k e s (hN ▸ h)
theorem goF {N : Nat} (hN : c.fn.ntmps = N) (n : Nat) (h : run false true N c n k e s) : AWp c k e s := run_sound n k e s (hN ▸ h)

/-- a state that says no more -/
def Shift (c : Cx) (e : Env) (s : List Blk) (e' : Env) (s' : List Blk) : Prop := ∀ a w, Sim c e s a w → Sim c e' s' a w
theorem Shift.refl : Shift c e s e s := fun _ _ h => h
theorem Shift.trans {e1 e2 : Env} {s1 s2 : List Blk} (x : Shift c e s e1 s1) (y : Shift c e1 s1 e2 s2) : Shift c e s e2 s2 := fun a w h => y a w (x a w h)
theorem AWp.shift {e' : Env} {s' : List Blk} (x : Shift c e s e' s') (h : AWp c k e' s') : AWp c k e s := fun a w hs => h a w (x a w hs)
theorem ARet.shift {e' : Env} {s' : List Blk} (x : Shift c e s e' s') (h : ARet c e' s') : ARet c e s := fun a w hs => h a w (x a w hs)

/-- fewer slots are spoken of -/
def wk (e : Env) : Env → Prop
  | [] => True
  | (t, v) :: r => get e t = v ∧ wk e r
theorem wk_get {e e' : Env} (h : wk e e') (t : Nat) : get e' t = .any ∨ get e' t = get e t := by
  induction e' with
  | nil => exact .inl rfl
  | cons x r ih =>
    obtain ⟨k, v⟩ := x
    simp only [get]
    by_cases hk : k = t
    · subst hk; simp; exact .inr h.1.symm
    · have : (k == t) = false := by simpa using hk
      simp only [this, cond_false]
      exact ih h.2
theorem Shift.weak {e' : Env} (h : wk e e') : Shift c e s e' s := by
  rintro a w ⟨hh, ρ, hm, hl, he, hdf, hsz, hX⟩
  refine ⟨hh, ρ, hm, hl, fun t => ?_, hdf, hsz, hX⟩
  rcases wk_get h t with h1 | h1
  · rw [h1]; exact .any _
  · rw [h1]; exact he t

/-- A LOOP: what holds at every round's head, for some x; a measure that every round lowers. 'J': what the round must come to. -/
theorem aloop {ι : Type} {B : Code} (μ : ι → Nat) (E : ι → Env) (S : ι → List Blk) (H : ι → Prop) (x0 : ι) (hH : H x0) (hs : Shift c e s (E x0) (S x0))
    (step : ∀ x, H x → ∀ J : Act → World → Prop, (∀ y, H y → μ y < μ x → ∀ a w, Sim c (E y) (S y) a w → J a w) → AWp c (.code B :: .inv J :: k) (E x) (S x)) :
    AWp c (.code (.loop B) :: k) e s := by
  intro a w hsim
  refine wp_loop_ghost (fun n a w => ∃ x, H x ∧ μ x = n ∧ Sim c (E x) (S x) a w) (μ x0) ⟨x0, hH, rfl, hs a w hsim⟩ ?_
  rintro n a w ⟨x, hx, rfl, hsx⟩
  have := step x hx (fun a w => ∃ n', n' < μ x ∧ ∃ y, H y ∧ μ y = n' ∧ Sim c (E y) (S y) a w) (fun y hy hlt a w hs => ⟨_, hlt, y, hy, rfl, hs⟩) a w hsx
  refine Code.wp_mono ?_ this
  intro en a' w' hq
  cases en <;> exact hq

theorem ainv {J : Act → World → Prop} {e' : Env} {s' : List Blk} (hJ : ∀ a w, Sim c e' s' a w → J a w) (x : Shift c e s e' s') : AWp c (.inv J :: k) e s := fun a w h => hJ a w (x a w h)

/-! ### calls -/
/-- what a call comes to -/
def Ct (P : Program) (f : FuncId) (args : List AV) (sto : List Blk) (post : AV → List Blk → Prop) : Prop :=
  hasBody P f = true ∧ ∀ h ρ w vs, Mine h ρ sto w → RL h (Lf ρ sto) false vs args → Calls P f vs.toArray w fun en w' =>
    ∃ v r s h' ρ', en = .returned v ∧ post r s ∧ Mine h' ρ' s w' ∧ Later h ρ sto w h' ρ' s w' ∧ RV h' (Lf ρ' s) false v r

theorem acall {f : FuncId} {args : List AV} {d : Option Tmp} {all os : List Oper} {post : AV → List Blk → Prop} (hc : Ct c.P f args s post) {N : Nat} (hN : c.fn.ntmps = N) (hd : dOk N d = true)
    (hk : ∀ r s', post r s' → AWp c (.ops all os :: k) (put e d r) s') : ACall c f args d all os k e s := by
  intro a w h ρ vs hm hl he hdf hsz hX hv
  refine ⟨hc.1, (hc.2 h ρ w vs hm hv).mono ?_⟩
  rintro en w' ⟨v, r, s', h', ρ', rfl, hp, hm', hlt, rv⟩
  have he' : EnvOk h' ρ' s' e a := fun t => (he t).mono hlt.hle hlt.keep
  exact hk r s' hp _ _ ⟨h', ρ', hm', hl.trans hlt, he'.put (by rw [hsz, hN]; exact hd) rv, by rw [put_defers']; exact hdf, by rw [put_size]; exact hsz, c.hx.later hm hlt hX⟩

/-- the results, by their slots -/
def resV (e : Env) : List Tmp → AV
  | [t] => get e t
  | ts => .tup (ts.map (get e))
def resW (tmps : Array Value) : List Tmp → Value
  | [t] => tmps.getD t undef
  | ts => .tuple (ts.map (fun t => tmps.getD t undef)).toArray
theorem results_run {fn : Func} {P : Program} {ts : List Tmp} (hr : fn.results = (ts.map ResultVar.tmp).toArray) (tmps : Array Value) (w : World) :
    (results fn tmps).run P w = .ok (resW tmps ts) w := by
  have h1 : ∀ l : List Tmp, ((l.map ResultVar.tmp).mapM fun (x : ResultVar) => (match x with
      | .tmp t => pure (tmps.getD t undef)
      | .cell a t => do loadVar t (← asAddr (tmps.getD a undef)) : Sem Value)) = (pure (l.map fun t => tmps.getD t undef) : Sem (List Value)) := by
    intro l
    induction l with
    | nil => simp
    | cons t l ih => rw [List.map_cons, List.mapM_cons, ih]; rfl
  unfold results
  rw [hr]
  simp only [List.mapM_toArray, h1]
  match ts with
  | [] => rfl
  | [t] => rfl
  | t :: u :: r => erw [h1]; simp [resW]

theorem ret_env {h : Mem} {ρ : Own} {a : Act} {w : World} {ts : List Tmp} (hr : c.fn.results = (ts.map ResultVar.tmp).toArray) (he : EnvOk h ρ s e a) :
    ∃ v, (results c.fn a.tmps).run c.P w = .ok v w ∧ RV h (Lf ρ s) false v (resV e ts) := by
  refine ⟨_, results_run hr _ _, ?_⟩
  have hl : ∀ l : List Tmp, RL h (Lf ρ s) false (l.map fun t => a.tmps.getD t undef) (l.map (get e)) := by
    intro l
    induction l with
    | nil => exact .nil
    | cons t l ih => exact .cons (he t) ih
  match ts with
  | [] => exact .tup _ _ (hl [])
  | [t] => exact he t
  | t :: u :: r => exact .tup _ _ (hl (t :: u :: r))

theorem aret (ts : List Tmp) (hr : c.fn.results = (ts.map ResultVar.tmp).toArray) (hp : c.post (resV e ts) s) : ARet c e s := by
  rintro a w ⟨hh, ρ, hm, hl, he, hdf, hsz, _⟩
  obtain ⟨v, hv, rv⟩ := ret_env (w := w) hr he
  exact ⟨hdf, v, _, s, hh, ρ, hv, hp, hm, hl, rv⟩

/-- slots filled with the arguments -/
def args0 : Nat → List AV → Env
  | _, [] => []
  | n, x :: r => (n, x) :: args0 (n + 1) r
theorem args0_get : ∀ (n : Nat) (l : List AV) (t : Nat), get (args0 n l) t = if n ≤ t then l.getD (t - n) .any else .any
  | n, [], t => by simp [args0, get]
  | n, x :: r, t => by
    simp only [args0, get]
    by_cases h : n = t
    · subst h; simp
    · have h1 : (n == t) = false := by simpa using h
      simp only [h1, cond_false]
      rw [args0_get (n + 1) r t]
      by_cases h2 : n ≤ t
      · rw [if_pos (by omega), if_pos h2, show t - n = (t - (n + 1)) + 1 by omega]; rfl
      · rw [if_neg (by omega), if_neg h2]

/-- A FUNCTION's CONTRACT, out of the walk over its text. -/
theorem ct_intro {P : Program} {f : FuncId} {fn : Func} {body : Code} {N : Nat} {args : List AV} {sto : List Blk} {post : AV → List Blk → Prop} (hf : P.funcs[f]? = some fn) (hb : fn.body = some body) (hn : fn.ntmps = N) (hx : hasBody P f = true)
    (ha : args.length ≤ N) (h : ∀ h ρ w, AWp ⟨P, fn, h, ρ, sto, w, post, X0, stb0⟩ [.code body] (args0 0 args) sto) : Ct P f args sto post := by
  refine ⟨hx, fun hh ρ w vs hm hv => ?_⟩
  refine calls_of_wp hf hb ?_
  have hlen := hv.length
  have hsim : Sim ⟨P, fn, hh, ρ, sto, w, post, X0, stb0⟩ (args0 0 args) sto { tmps := vs.toArray ++ Array.replicate (fn.ntmps - vs.toArray.size) undef, defers := [] } w := by
    refine ⟨hh, ρ, hm, .refl .., fun t => ?_, rfl, by simp; omega, trivial⟩
    rw [args0_get]
    simp only [Nat.zero_le, if_true, Nat.sub_zero]
    have h1 := hv.getD t undef
    by_cases ht : t < vs.length
    · have : (vs.toArray ++ Array.replicate (fn.ntmps - vs.toArray.size) undef).getD t undef = vs.getD t undef := by
        simp [Array.getElem?_append, ht, List.getD]
      simp only [this]; exact h1
    · have : args.getD t .any = .any := by simp [List.getD, List.getElem?_eq_none (by omega : args.length ≤ t)]
      rw [this]; exact .any _
  have := h hh ρ w _ w hsim
  refine Code.wp_mono ?_ (show body.wp P (WQ ⟨P, fn, hh, ρ, sto, w, post, X0, stb0⟩ []) _ w from this)
  intro en a' w' hq
  cases en with
  | normal => obtain ⟨hd, v, r, s, h', ρ', h1, h2⟩ := hq; exact ⟨hd, v, h1, v, r, s, h', ρ', rfl, h2⟩
  | ret => obtain ⟨hd, v, r, s, h', ρ', h1, h2⟩ := hq; exact ⟨hd, v, h1, v, r, s, h', ρ', rfl, h2⟩
  | _ => exact hq.elim
end
end Go.Av
/- Functions that leave memory as it was: one contract for every table of blocks; what is frozen. Own work of this seat. -/
set_option linter.unusedSimpArgs false
set_option linter.unusedVariables false
namespace Go.Av
open Go Go.RowKit

def Lf0 : Value → AV → Prop := fun _ _ => False
/-- without references, to the bottom of a value -/
def nr1 : AV → Bool
  | .agg l => l.all frozen
  | a => frozen a
def nr2 : AV → Bool
  | .tup l => l.all nr1
  | a => nr1 a

/-- what a call of a function comes to that only reads what is frozen, and makes new memory -/
def Pc (P : Program) (f : FuncId) (args : List AV) (post : AV → Prop) : Prop :=
  hasBody P f = true ∧ ∀ h w vs, (∀ b o v, h b o = some v → w.cell? ⟨b, o, none⟩ = some v ∧ v.oneCell' = true) → RL h Lf0 true vs args → Calls P f vs.toArray w fun en w' =>
    ∃ v r h', en = .returned v ∧ post r ∧ (∀ b o v, h' b o = some v → w'.cell? ⟨b, o, none⟩ = some v ∧ v.oneCell' = true) ∧ (∀ b o v, h b o = some v → h' b o = some v) ∧
      (∀ b o, h b o = none → h' b o ≠ none → w.heap.size ≤ b) ∧ Same w w' ∧ RV h' Lf0 true v r

section
variable {h : Mem} {ρ : Own} {sto : List Blk} {w : World} {P : Program} {Lf' : Value → AV → Prop}

theorem nofrz {fl u a} (r : RV h (Lf ρ sto) fl u a) (hf : nr1 a = true) : RV h Lf' true u a := by
  cases a with
  | agg l =>
    obtain ⟨vs, rfl, rl⟩ := inv_agg r
    exact .agg _ _ ((frz_all rl hf).thaw (fun _ _ _ x => x))
  | _ => exact (frz_one r hf).thaw (fun _ _ _ x => x)

theorem nofrzL {fl : Bool} : ∀ {l : List AV} {vs : List Value}, RL h (Lf ρ sto) fl vs l → l.all nr1 = true → RL h Lf' true vs l
  | [], _, r, _ => by cases r; exact .nil
  | a :: l, _, r, hf => by
    cases r with
    | cons r1 r2 =>
      simp at hf
      exact .cons (nofrz r1 hf.1) (nofrzL r2 (by simpa using hf.2))

theorem nofrz2 {fl u a} (r : RV h (Lf ρ sto) fl u a) (hf : nr2 a = true) : RV h Lf' true u a := by
  cases a with
  | tup l =>
    obtain ⟨vs, rfl, rl⟩ := inv_tup r
    exact .tup _ _ (nofrzL rl hf)
  | _ => exact nofrz r hf

/-- out of the walk over an empty table -/
theorem pc_intro {f : FuncId} {args : List AV} {post : AV → Prop} (hc : Ct P f args [] (fun r _ => post r ∧ nr2 r = true)) : Pc P f args post := by
  refine ⟨hc.1, fun h w vs hm hv => ?_⟩
  have hmine : Mine h (fun _ => none) [] w := ⟨hm, fun id blk e => by simp at e, fun _ _ => rfl, fun i j g t t' e => by simp at e, fun i g t e => by simp at e⟩
  refine (hc.2 h (fun _ => none) w vs hmine (hv.thaw (fun _ _ _ x => x))).mono ?_
  rintro en w' ⟨v, r, s, h', ρ', rfl, ⟨hp, hn⟩, hm', hl, rv⟩
  exact ⟨v, r, h', rfl, hp, hm'.mem, hl.hle, fun b o e n => by
    rcases hl.hnew b o e n with ⟨j, t, hj⟩ | hs
    · simp at hj
    · exact hs, ⟨hl.os, hl.tape, hl.output, hl.size, fun k hk => hl.block k hk (fun i t e => by simp at e)⟩, nofrz2 rv hn⟩

/-- over every table of blocks -/
theorem Pc.ct {f : FuncId} {args : List AV} {post : AV → Prop} (hc : Pc P f args post) (ha : args.all nr1 = true) (sto : List Blk) : Ct P f args sto (fun r s => post r ∧ s = sto) := by
  refine ⟨hc.1, fun h ρ w vs hm hv => ?_⟩
  refine (hc.2 h w vs hm.mem (nofrzL hv ha)).mono ?_
  rintro en w' ⟨v, r, h', rfl, hp, hm', hle, hnew, hs, rv⟩
  refine ⟨v, r, sto, h', ρ, rfl, ⟨hp, rfl⟩, ⟨hm', ?_, hm.out, hm.inj, ?_⟩, ⟨hle, fun b o e n => .inr (hnew b o e n), fun _ _ x => x, hs.os, hs.tape, hs.output, hs.size, fun k hk _ => hs.block k hk, fun i _ t x => .inl ⟨i, t, x⟩⟩, rv.thaw (fun _ _ _ x => x)⟩
  · exact fun id blk e => (hm.own id blk e).mono hle (fun _ _ x => x) rfl (fun g t hg => hs.block g (hm.lt hg))
  · intro i g t e o
    have hlt := hm.lt e
    have hd := hm.disj i g t e o
    cases hq : h' g o with
    | none => rfl
    | some v => have := hnew g o hd (by simp [hq]); omega

/-- a call of such a function -/
theorem pcall {c : Cx} {k : List It} {e : Env} {s : List Blk} {f : FuncId} {args : List AV} {d : Option Tmp} {all os : List Oper} {post : AV → Prop} (hc : Pc c.P f args post) (ha : args.all nr1 = true) {N : Nat} (hN : c.fn.ntmps = N) (hd : dOk N d = true)
    (hk : ∀ r, post r → AWp c (.ops all os :: k) (put e d r) s) : ACall c f args d all os k e s :=
  acall (hc.ct ha s) hN hd fun r s' ⟨hp, hs⟩ => by subst hs; exact hk r hp

/-- one whose result is known -/
theorem pcall1 {c : Cx} {k : List It} {e : Env} {s : List Blk} {f : FuncId} {args : List AV} {d : Option Tmp} {all os : List Oper} {r : AV} (hc : Pc c.P f args (· = r)) (ha : args.all nr1 = true) {N : Nat} (hN : c.fn.ntmps = N) (hd : dOk N d = true)
    (hk : AWp c (.ops all os :: k) (put e d r) s) : ACall c f args d all os k e s :=
  pcall hc ha hN hd fun r' hr => by subst hr; exact hk

theorem Pc.mono {f : FuncId} {args : List AV} {post post' : AV → Prop} (hc : Pc P f args post) (hp : ∀ r, post r → post' r) : Pc P f args post' :=
  ⟨hc.1, fun h w vs hm hv => (hc.2 h w vs hm hv).mono fun _ _ ⟨v, r, h', a, b, rest⟩ => ⟨v, r, h', a, hp r b, rest⟩⟩

/-- what the machine's own contract is, of a call whose arguments and result are plain -/
theorem Pc.calls {f : FuncId} {args : List AV} {r : AV} (hc : Pc P f args (· = r)) {w : World} {vs : List Value} (hv : ∀ h, RL h Lf0 true vs args) : Calls P f vs.toArray w fun en w' => (∃ v h', en = .returned v ∧ RV h' Lf0 true v r) ∧ Same w w' :=
  (hc.2 (fun _ _ => none) w vs (fun b o v e => by simp at e) (hv _)).mono fun _ _ ⟨v, _, h', e1, e2, _, _, _, hs, rv⟩ => ⟨⟨v, h', e1, e2 ▸ rv⟩, hs⟩
end
end Go.Av
/- Statements whose order is open: what the order of the text comes to is what every order comes to, where the operations only compute and read. Own work of this seat. -/
set_option linter.unusedSimpArgs false
set_option linter.unusedVariables false
namespace Go.Av
open Go Go.RowKit

/-- the same in every slot -/
def Eqv (e e' : Env) : Prop := ∀ t, get e t = get e' t
theorem Eqv.refl (e : Env) : Eqv e e := fun _ => rfl
theorem get_put (e : Env) (d : Option Tmp) (v : AV) (t : Nat) : get (put e d v) t = if d = some t then v else get e t := by
  cases d with
  | none => simp [put]
  | some d =>
    simp only [put, get]
    by_cases h : d = t
    · subst h; simp
    · have : (d == t) = false := by simpa using h
      simp [this, h]
theorem Eqv.put {e e' : Env} (h : Eqv e e') (d : Option Tmp) (v : AV) : Eqv (put e d v) (put e' d v) := fun t => by rw [get_put, get_put, h t]

/-- the same in the slots that an operation looks at -/
def Agree (ops : Array Oper) (o : Oper) (e e' : Env) : Prop := ∀ t ∈ o.looksAt ops, get e t = get e' t

theorem ev_agree {e e' : Env} {x : Operand} (h : ∀ t, x = .tmp t → get e t = get e' t) : ev e x = ev e' x := by
  cases x with
  | tmp t => exact h t rfl
  | _ => rfl
theorem evs_agree {e e' : Env} : ∀ {l : List Operand}, (∀ x ∈ l, ev e x = ev e' x) → evs e l = evs e' l
  | [], _ => rfl
  | x :: l, h => by simp only [evs]; rw [h x (by simp), evs_agree fun y hy => h y (by simp [hy])]
theorem evp_agree {e e' : Env} : ∀ {l : List (Nat × Operand)}, (∀ x ∈ l.map (·.2), ev e x = ev e' x) → evp e l = evp e' l
  | [], _ => rfl
  | (i, x) :: l, h => by simp only [evp]; rw [h x (by simp), evp_agree fun y hy => h y (by simp at hy ⊢; exact .inr hy)]

theorem xop_agree {wr frz : Bool} {P : Program} {e e' : Env} {s : List Blk} {op : Op} (h : ∀ x ∈ op.operands, ev e x = ev e' x) : xop wr frz P e s op = xop wr frz P e' s op := by
  cases op with
  | build t parts =>
    simp only [xop]
    rw [evp_agree (e := e) (e' := e') fun x hx => h x (by simpa [Op.operands] using hx)]
  | buildSlice t len parts =>
    simp only [xop]
    rw [evp_agree (e := e) (e' := e') fun x hx => h x (by simpa [Op.operands] using hx)]
  | makeFunc f first cap =>
    simp only [xop]
    rw [evs_agree (e := e) (e' := e') fun x hx => h x (by simp [Op.operands] at hx ⊢; exact .inr hx)]
  | call c =>
    simp only [xop]
    have ha : ∀ x ∈ c.args.toList, ev e x = ev e' x := fun x hx => h x (by simp [Op.operands, Call.operands] at hx ⊢; exact .inr hx)
    split
    · unfold xlen2
      cases hq : c.args.toList with
      | nil => rfl
      | cons x xs =>
        rw [hq] at ha
        cases c.argTypes.toList with
        | nil => rfl
        | cons t ts => simp only; rw [ha x (by simp)]
    · unfold xapp2
      split
      · rename_i x y t u h1 h2
        rw [h1] at ha
        rw [ha x (by simp), ha y (by simp)]
      · rfl
    · unfold xcopy2
      split
      · rename_i x y t u h1 h2
        rw [h1] at ha
        rw [ha x (by simp), ha y (by simp)]
      · rfl
    · unfold xclear2
      split
      · rename_i x t h1 h2
        rw [h1] at ha
        rw [ha x (by simp)]
      · rfl
    · rw [evs_agree ha]
    · rw [evs_agree ha]
    · rename_i f hc
      rw [evs_agree ha, h f (by simp [Op.operands, Call.operands, hc])]
    · rfl
  | unOp op t x =>
    have hx := h x (by simp [Op.operands])
    cases op <;> simp only [xop, hx]
  | move x => simp only [xop, h x (by simp [Op.operands])]
  | assign x => simp only [xop, h x (by simp [Op.operands])]
  | pick c x y => simp only [xop, h c (by simp [Op.operands]), h x (by simp [Op.operands]), h y (by simp [Op.operands])]
  | binOp op t x y yt => simp only [xop, h x (by simp [Op.operands]), h y (by simp [Op.operands])]
  | extract x i => simp only [xop, h x (by simp [Op.operands])]
  | index t x i => simp only [xop, h x (by simp [Op.operands]), h i (by simp [Op.operands])]
  | field t x f => simp only [xop, h x (by simp [Op.operands])]
  | nilCheck x => simp only [xop, h x (by simp [Op.operands])]
  | makeSlice t n c => simp only [xop, h n (by simp [Op.operands]), h c (by simp [Op.operands])]
  | slice t x lo hi mx =>
    simp only [xop]
    have e0 : ∀ z : Option Operand, (∀ y, z = some y → ev e y = ev e' y) → evo e z = evo e' z := fun z hz => by
      cases z with
      | none => rfl
      | some y => simp only [evo, hz y rfl]
    rw [h x (by simp [Op.operands]), e0 lo fun y hy => h y (by subst hy; simp [Op.operands]), e0 hi fun y hy => h y (by subst hy; simp [Op.operands]), e0 mx fun y hy => h y (by subst hy; simp [Op.operands])]
  | box t x => simp only [xop, h x (by simp [Op.operands])]
  | fieldAddr t x f => simp only [xop, h x (by simp [Op.operands])]
  | indexAddr t x i => simp only [xop, h x (by simp [Op.operands]), h i (by simp [Op.operands])]
  | load t x => simp only [xop, h x (by simp [Op.operands])]
  | store t x v => simp only [xop, h x (by simp [Op.operands]), h v (by simp [Op.operands])]
  | convert a b x => simp only [xop, h x (by simp [Op.operands])]
  | mapUpdate t m k v => simp only [xop, h m (by simp [Op.operands]), h k (by simp [Op.operands]), h v (by simp [Op.operands])]
  | lookup t m k c => simp only [xop, h m (by simp [Op.operands]), h k (by simp [Op.operands])]
  | makeMap t r => cases r <;> rfl
  | _ => rfl

theorem agree_ops {ops : Array Oper} {o : Oper} {e e' : Env} (h : Agree ops o e e') : ∀ x ∈ o.op.operands, ev e x = ev e' x := fun x hx => ev_agree fun t ht => h t (by
  subst ht
  unfold Oper.looksAt
  refine List.mem_append.2 (.inl (List.mem_filterMap.2 ⟨.tmp t, by simpa using hx, rfl⟩)))

theorem agree_yld {ops : Array Oper} {o : Oper} {e e' : Env} (h : Agree ops o e e') {j : Nat} {want : Bool} (hg : o.guard = some (j, want)) : yldD want e ops[j]? = yldD want e' ops[j]? := by
  cases hq : ops[j]? with
  | none => rfl
  | some oj =>
    simp only [yldD]
    cases hd : oj.dst with
    | none => rfl
    | some d =>
      simp only
      rw [h d]
      unfold Oper.looksAt
      refine List.mem_append.2 (.inr ?_)
      simp [hg, hq, hd]

/-- operations that never change the table of blocks (where one does so all the same, it counts as stuck) -/
def calm : Op → Bool
  | .store .. | .alloc .. | .makeSlice .. | .box .. | .makeMap .. | .mapUpdate .. => false
  | .slice _ _ _ _ (some _) => false
  | .call c => match c.callee with
    | .builtin .append | .builtin .copy | .builtin .clear => false
    | _ => true
  | _ => true
/-- operations that do not look at the table -/
def blind : Op → Bool
  | .move _ | .assign _ | .pick .. | .extract .. | .build .. => true
  | .call c => match c.callee with
    | .value _ => true
    | _ => false
  | _ => false
theorem blind_calm {op : Op} (h : blind op = true) : calm op = true := by
  cases op <;> first | rfl | (exfalso; revert h; simp [blind]; done) | skip
  rename_i c
  cases hc : c.callee <;> simp [blind, calm, hc] at h ⊢
theorem xop_blind {wr frz : Bool} {P : Program} {e : Env} {s s' : List Blk} {op : Op} (h : blind op = true) : xop wr frz P e s op = xop wr frz P e s' op := by
  cases op <;> first | rfl | (exfalso; revert h; simp [blind]; done) | skip
  rename_i c
  cases hc : c.callee <;> simp [blind, hc] at h
  simp only [xop, hc]

/-- what a call comes to wherever a walk in 'c' calls: 'Pc', leaning on what stands since the walk began -/
def PcAt (c : Cx) (f : FuncId) (args : List AV) (cv : AV) : Prop :=
  hasBody c.P f = true ∧ ∀ h w vs, (∀ k, k < c.w.heap.size → (∀ i t, c.ρ i ≠ some (k, t)) → w.heap[k]? = c.w.heap[k]?) → (∀ b o v, h b o = some v → w.cell? ⟨b, o, none⟩ = some v ∧ v.oneCell' = true) → RL h Lf0 true vs args → Calls c.P f vs.toArray w fun en w' =>
    ∃ v r h', en = .returned v ∧ r = cv ∧ (∀ b o v, h' b o = some v → w'.cell? ⟨b, o, none⟩ = some v ∧ v.oneCell' = true) ∧ (∀ b o v, h b o = some v → h' b o = some v) ∧
      (∀ b o, h b o = none → h' b o ≠ none → w.heap.size ≤ b) ∧ Same w w' ∧ RV h' Lf0 true v r
theorem Pc.at {c : Cx} {f : FuncId} {args : List AV} {cv : AV} (hc : Pc c.P f args (· = cv)) : PcAt c f args cv := ⟨hc.1, fun h w vs _ m r => hc.2 h w vs m r⟩

/-- what an operation yields: 'cv' is what a call in it hands back -/
theorem PcAt.calls {c : Cx} {f : FuncId} {args : List AV} {cv : AV} (hc : PcAt c f args cv) (ha : args.all nr1 = true) {h : Mem} {ρ : Own} {sto : List Blk} {w : World} {vs : List Value} (hm : Mine h ρ sto w) (hl : Later c.h c.ρ c.sto c.w h ρ sto w) (hv : RL h (Lf ρ sto) false vs args) :
    Calls c.P f vs.toArray w fun en w' => ∃ v r s h' ρ', en = .returned v ∧ (r = cv ∧ s = sto) ∧ Mine h' ρ' s w' ∧ Later h ρ sto w h' ρ' s w' ∧ RV h' (Lf ρ' s) false v r := by
  refine (hc.2 h w vs (fun k hk hn => hl.block k hk hn) hm.mem (nofrzL hv ha)).mono ?_
  rintro en w' ⟨v, r, h', rfl, hp, hm', hle, hnew, hs, rv⟩
  refine ⟨v, r, sto, h', ρ, rfl, ⟨hp, rfl⟩, ⟨hm', ?_, hm.out, hm.inj, ?_⟩, ⟨hle, fun b o e n => .inr (hnew b o e n), fun _ _ x => x, hs.os, hs.tape, hs.output, hs.size, fun k hk _ => hs.block k hk, fun i _ t x => .inl ⟨i, t, x⟩⟩, rv.thaw (fun _ _ _ x => x)⟩
  · exact fun id blk e => (hm.own id blk e).mono hle (fun _ _ x => x) rfl (fun g t hg => hs.block g (hm.lt hg))
  · intro i g t e o
    have hlt := hm.lt e
    have hd := hm.disj i g t e o
    cases hq : h' g o with
    | none => rfl
    | some v => have := hnew g o hd (by simp [hq]); omega

def DoesOp (c : Cx) (s : List Blk) (o : Oper) (cv : AV) (e : Env) (v : AV) (s' : List Blk) : Prop :=
  match xop false true c.P e s o.op with
  | .ok u => v = u ∧ s' = s
  | .side p u => p ∧ v = u ∧ s' = s
  | .sto p u s1 => calm o.op = false ∧ p ∧ v = u ∧ s' = s1
  | .pick b x y => v = (if b then x else y) ∧ s' = s
  | .call f args => PcAt c f args cv ∧ args.all nr1 = true ∧ v = cv ∧ s' = s
  | _ => False
def Does (c : Cx) (ops : Array Oper) (s : List Blk) (o : Oper) (cv : AV) (e : Env) (v : AV) (s' : List Blk) : Prop :=
  match o.guard with
  | none => DoesOp c s o cv e v s'
  | some (j, want) => match yldD want e ops[j]? with
    | some b => (b = want ∧ DoesOp c s o cv e v s') ∨ (b ≠ want ∧ v = .raw undef ∧ s' = s)
    | none => False

theorem DoesOp.calm {c : Cx} {s s' : List Blk} {o : Oper} {cv v : AV} {e : Env} (hc : Av.calm o.op = true) (h : DoesOp c s o cv e v s') : s' = s := by
  unfold DoesOp at h
  split at h
  · exact h.2
  · exact h.2.2
  · rw [hc] at h; cases h.1
  · exact h.2
  · exact h.2.2.2
  · exact h.elim
theorem Does.calm {c : Cx} {ops : Array Oper} {s s' : List Blk} {o : Oper} {cv v : AV} {e : Env} (hc : Av.calm o.op = true) (h : Does c ops s o cv e v s') : s' = s := by
  unfold Does at h
  split at h
  · exact h.calm hc
  · split at h
    · rcases h with ⟨_, h⟩ | ⟨_, _, h⟩
      · exact h.calm hc
      · exact h
    · exact h.elim
theorem DoesOp.blind {c : Cx} {s s' s2 : List Blk} {o : Oper} {cv v : AV} {e : Env} (hc : Av.blind o.op = true) (h : DoesOp c s o cv e v s') : DoesOp c s2 o cv e v s2 := by
  have hcc := blind_calm hc
  unfold DoesOp at h ⊢
  rw [xop_blind (s' := s2) hc] at h
  split at h <;> rename_i hq
  · exact ⟨h.1, rfl⟩
  · exact ⟨h.1, h.2.1, rfl⟩
  · rw [hcc] at h; cases h.1
  · exact ⟨h.1, rfl⟩
  · exact ⟨h.1, h.2.1, h.2.2.1, rfl⟩
  · exact h.elim
theorem Does.blind {c : Cx} {ops : Array Oper} {s s' s2 : List Blk} {o : Oper} {cv v : AV} {e : Env} (hc : Av.blind o.op = true) (h : Does c ops s o cv e v s') : Does c ops s2 o cv e v s2 := by
  unfold Does at h ⊢
  split at h
  · exact h.blind hc
  · split at h
    · rcases h with ⟨h1, h⟩ | ⟨h1, h2, h⟩
      · exact .inl ⟨h1, h.blind hc⟩
      · exact .inr ⟨h1, h2, rfl⟩
    · exact h.elim

theorem Does.agree {c : Cx} {ops : Array Oper} {s s' : List Blk} {o : Oper} {cv v : AV} {e e' : Env} (h : Agree ops o e e') (d : Does c ops s o cv e v s') : Does c ops s o cv e' v s' := by
  have hop : xop false true c.P e s o.op = xop false true c.P e' s o.op := xop_agree (agree_ops h)
  have hd : DoesOp c s o cv e v s' → DoesOp c s o cv e' v s' := by unfold DoesOp; rw [hop]; exact id
  unfold Does at d ⊢
  split at d
  · exact hd d
  · rename_i j want hg
    rw [← agree_yld h hg]
    split at d
    · rename_i b hb
      rcases d with ⟨h1, h2⟩ | h1
      · exact .inl ⟨h1, hd h2⟩
      · exact .inr h1
    · exact d.elim

/-- the operations with these numbers, one after the other -/
def Chain (c : Cx) (ops : Array Oper) (K : Env → List Blk → Prop) : List Nat → Env → List Blk → Prop
  | [], e, s => K e s
  | i :: r, e, s => match ops[i]? with
    | some o => ∃ cv v s', Does c ops s o cv e v s' ∧ Chain c ops K r (put e o.dst v) s'
    | none => False

/-- two operations may stand in either order, as far as the table goes -/
def together (x y : Oper) : Bool := calm x.op && calm y.op || blind x.op || blind y.op

section
variable {cx : Cx} {ops : Array Oper} {s : List Blk} {K : Env → List Blk → Prop}

theorem Chain.congr (hK : ∀ e e' s, Eqv e e' → K e s → K e' s) : ∀ {l : List Nat} {e e' : Env} {s : List Blk}, Eqv e e' → Chain cx ops K l e s → Chain cx ops K l e' s
  | [], e, e', s, h, c => hK e e' s h c
  | i :: r, e, e', s, h, c => by
    unfold Chain at c ⊢
    split at c
    · rename_i o ho
      obtain ⟨cv, v, s', h1, h2⟩ := c
      exact ⟨cv, v, s', h1.agree fun t _ => h t, Chain.congr hK (h.put _ _) h2⟩
    · exact c.elim

/-- two neighbours that do not touch -/
theorem Chain.swap (hK : ∀ e e' s, Eqv e e' → K e s → K e' s) {i j : Nat} {r : List Nat} {oi oj : Oper} (hi : ops[i]? = some oi) (hj : ops[j]? = some oj) (ha : oi.apart ops oj = true) (ht : together oi oj = true) {e : Env} {s : List Blk} (c : Chain cx ops K (i :: j :: r) e s) :
    Chain cx ops K (j :: i :: r) e s := by
  obtain ⟨a1, a2, a3⟩ := Oper.apart_spec ha
  simp only [Chain, hi, hj] at c ⊢
  obtain ⟨cv, v, s1, h1, cu, u, s2, h2, h3⟩ := c
  have h2' : Does cx ops s1 oj cu e u s2 := h2.agree fun t ht => by
    rw [get_put, if_neg]; intro h; exact a1 t h ht
  have h1' : ∀ {z z'}, Does cx ops z oi cv e v z' → Does cx ops z oi cv (put e oj.dst u) v z' := fun hd => hd.agree fun t ht => by
    rw [get_put, if_neg]; intro h; exact a3 t h ht
  have h3' := Chain.congr hK (e' := put (put e oj.dst u) oi.dst v) (fun t => by
    rw [get_put, get_put, get_put, get_put]
    by_cases h1 : oi.dst = some t
    · have h2 : oj.dst ≠ some t := a2 t h1
      simp [h1, h2]
    · simp [h1]) h3
  simp only [together, Bool.or_eq_true, Bool.and_eq_true] at ht
  rcases ht with (⟨c1, c2⟩ | c1) | c1
  · have e1 := h1.calm c1
    subst e1
    have e2 := h2.calm c2
    subst e2
    exact ⟨cu, u, _, h2', cv, v, _, h1' h1, h3'⟩
  · have e1 := h1.calm (blind_calm c1)
    subst e1
    exact ⟨cu, u, _, h2', cv, v, _, h1' (h1.blind c1), h3'⟩
  · have e2 := h2.calm (blind_calm c1)
    subst e2
    exact ⟨cu, u, _, h2'.blind c1, cv, v, _, h1' h1, h3'⟩

theorem Chain.front (hK : ∀ e e' s, Eqv e e' → K e s → K e' s) {i : Nat} {oi : Oper} (hi : ops[i]? = some oi) {r : List Nat} : ∀ {l : List Nat} {e : Env} {s : List Blk}, (∀ j ∈ l, ∃ oj, ops[j]? = some oj ∧ oj.apart ops oi = true ∧ together oj oi = true) →
    Chain cx ops K (l ++ i :: r) e s → Chain cx ops K (i :: (l ++ r)) e s
  | [], _, _, _, c => c
  | j :: l, e, s, h, c => by
    obtain ⟨oj, hj, ha, hb⟩ := h j (by simp)
    refine Chain.swap hK hj hi ha hb ?_
    simp only [List.cons_append, Chain, hj] at c ⊢
    obtain ⟨cv, v, s', h1, h2⟩ := c
    exact ⟨cv, v, s', h1, Chain.front hK hi (fun k hk => h k (by simp [hk])) h2⟩
end

/-- the numbers that an operation waits for -/
def waits (ops : List Oper) (i : Nat) : List Nat := match ops[i]? with
  | some o => (o.after.toList.filter (Region.binds .any)).map (·.on)
  | none => []
def anc (ops : List Oper) : Nat → Nat → List Nat
  | 0, _ => []
  | n + 1, i => waits ops i ++ (waits ops i).flatMap (anc ops n)
/-- may the text's order stand for every order? -/
def drawOk (ops : List Oper) : Bool :=
  (List.range ops.length).all fun i =>
    (waits ops i).all (fun j => decide (j < i)) &&
    (List.range i).all fun j => (match ops[i]?, ops[j]? with | some oi, some oj => oj.apart ops.toArray oi && together oj oi | _, _ => false) || (anc ops ops.length i).contains j

section
variable {ops : List Oper}

theorem anc_listed {L : Nat → Prop} (hc : ∀ i, L i → ∀ j ∈ waits ops i, L j) : ∀ (n i : Nat), (∀ j ∈ waits ops i, L j) → ∀ j ∈ anc ops n i, L j
  | 0, _, _, j, hj => by simp [anc] at hj
  | n + 1, i, hi, j, hj => by
    simp only [anc, List.mem_append, List.mem_flatMap] at hj
    rcases hj with hj | ⟨k, hk, hj⟩
    · exact hi j hj
    · exact anc_listed hc n k (hc k (hi k hk)) j hj
end

section
variable {c : Cx} {k : List It} {e : Env} {s : List Blk}

theorem Sim.eqv {e' : Env} {a : Act} {w : World} (h : Eqv e e') (hs : Sim c e s a w) : Sim c e' s a w := by
  obtain ⟨hh, ρ, hm, hl, he, hdf, hsz, hX⟩ := hs
  exact ⟨hh, ρ, hm, hl, fun t => by rw [← h t]; exact he t, hdf, hsz, hX⟩
theorem AWp.eqv {e' : Env} (h : Eqv e e') (x : AWp c k e s) : AWp c k e' s := fun a w hs => x a w (hs.eqv fun t => (h t).symm)

/-- one operation of such a statement -/
theorem does_wp {o : Oper} {ops : Array Oper} {cv v : AV} {s1 : List Blk} {a : Act} {w : World} {K : Act → World → Prop} {Q : Exit → Act → World → Prop} (hs : Sim c e s a w) (hd : dOk c.fn.ntmps o.dst = true) (h : Does c ops s o cv e v s1)
    (hK : ∀ a w, Sim c (put e o.dst v) s1 a w → K a w) : if Region.wanted o (yielded ops a.tmps) then o.wp c.P a w K Q else K (a.put o.dst undef) w := by
  obtain ⟨hh, ρ, hm, hl, he, hdf, hsz, hX⟩ := hs
  have hop : DoesOp c s o cv e v s1 → o.wp c.P a w K Q := by
    intro hd1
    have hsnd := xop_sound (P := c.P) (wr := false) (frz := true) (o := o) hm he
    have fin : Okv hh ρ s w ((execOp a.eval o).run c.P w) v s1 → o.wp c.P a w K Q := by
      rintro ⟨u, w', h', ρ', hr, hm', hlt, rv⟩
      have he' : EnvOk h' ρ' s1 e a := fun t => (he t).mono hlt.hle hlt.keep
      have := hK (a.put o.dst u) w' ⟨h', ρ', hm', hl.trans hlt, he'.put (by rw [hsz]; exact hd) rv, by rw [put_defers']; exact hdf, by rw [put_size]; exact hsz, c.hx.later hm hlt hX⟩
      unfold Oper.wp
      rcases hr with hr | ⟨hr, hu⟩
      · rw [hr]; exact this
      · rw [hr]; subst hu; exact this
    unfold DoesOp at hd1
    revert hd1 hsnd
    cases xop false true c.P e s o.op with
    | ok u => intro h2 h1; obtain ⟨h2, h3⟩ := h2; subst h2; subst h3; exact fin h1
    | side p u => intro h2 h1; obtain ⟨hp, h2, h3⟩ := h2; subst h2; subst h3; exact fin (h1 hp)
    | sto p u s' => intro h2 h1; obtain ⟨_, hp, h2, h3⟩ := h2; subst h2; subst h3; exact fin (h1 hp)
    | pick b x y => intro h2 h1; obtain ⟨h2, h3⟩ := h2; subst h2; subst h3; exact fin h1
    | call f args =>
      intro h2 h1
      obtain ⟨hp, hn, h2, h3⟩ := h2
      subst h2; subst h3
      obtain ⟨vs, hv, hr⟩ := h1
      unfold Oper.wp
      rw [hr hp.1]
      refine (hp.calls hn hm hl hv).mono ?_
      rintro en w' ⟨u, r, s', h', ρ', rfl, ⟨hrv, hss⟩, hm', hlt, rv⟩
      subst hss; subst hrv
      have he' : EnvOk h' ρ' s' e a := fun t => (he t).mono hlt.hle hlt.keep
      exact hK _ _ ⟨h', ρ', hm', hl.trans hlt, he'.put (by rw [hsz]; exact hd) rv, by rw [put_defers']; exact hdf, by rw [put_size]; exact hsz, c.hx.later hm hlt hX⟩
    | anyb p => intro h2 _; exact h2.elim
    | stuck => intro h2 _; exact h2.elim
  unfold Does at h
  split at h
  · rename_i hg
    rw [if_pos (by simp [Region.wanted, hg])]
    exact hop h
  · rename_i j want hg
    split at h
    · rename_i b hb
      have hy := yielded_ok (all := ops.toList) he (by simpa using hb)
      simp only [Array.toArray_toList] at hy
      rcases h with ⟨h1, h2⟩ | ⟨h1, h2, h3⟩
      · rw [if_pos (by simp [Region.wanted, hg, hy.1 h1])]
        exact hop h2
      · rw [if_neg (by simpa [Region.wanted, hg] using hy.2 h1)]
        subst h2; subst h3
        exact hK _ _ ⟨hh, ρ, hm, hl, he.put (by rw [hsz]; exact hd) (.raw _), by rw [put_defers']; exact hdf, by rw [put_size]; exact hsz, hX⟩
    · exact h.elim


/-! ### the walk in the text's order -/
inductive Dn where
  | go (r : List Oper) (cs : List AV) (e : Env) (s : List Blk)
  | two (b : Bool) (r : List Oper) (cs : List AV) (e : Env) (r' : List Oper) (cs' : List AV) (e' : Env) (s : List Blk)
  | side (p : Prop) (r : List Oper) (cs : List AV) (e : Env) (s : List Blk)
  | fail
def dcall (c : Cx) (f : FuncId) (args : List AV) (d : Option Tmp) (r : List Oper) (e : Env) (s : List Blk) : List AV → Dn
  | cv :: cs => .side (PcAt c f args cv ∧ args.all nr1 = true) r cs (put e d cv) s
  | [] => .fail
def dres (c : Cx) (op : Op) (d : Option Tmp) (r : List Oper) (cs : List AV) (e : Env) (s : List Blk) : Res → Dn
  | .ok v => .go r cs (put e d v) s
  | .side p v => .side p r cs (put e d v) s
  | .sto p v s' => .side (calm op = false ∧ p) r cs (put e d v) s'
  | .pick b x y => .two b r cs (put e d x) r cs (put e d y) s
  | .call f args => dcall c f args d r e s cs
  | _ => .fail
def dyld (want : Bool) (o : Oper) (r : List Oper) (cs : List AV) (e : Env) (s : List Blk) : Option Bool → Dn
  | some b => bif want then .two b ({ o with guard := none } :: r) cs e r cs (put e o.dst (.raw undef)) s
    else .two b r cs (put e o.dst (.raw undef)) ({ o with guard := none } :: r) cs e s
  | none => .fail
def dgrd (c : Cx) (all : List Oper) (s : List Blk) (o : Oper) (r : List Oper) (cs : List AV) (e : Env) : Option (Nat × Bool) → Dn
  | none => dres c o.op o.dst r cs e s (xop false true c.P e s o.op)
  | some (j, want) => dyld want o r cs e s (yldD want e all[j]?)
mutual
def dx (c : Cx) (all : List Oper) (k : List It) : Nat → List Oper → List AV → Env → List Blk → Prop
  | _, [], _, e, s => AWp c k e s
  | 0, _ :: _, _, _, _ => False
  | n + 1, o :: r, cs, e, s => dxc c all k n (dgrd c all s o r cs e o.guard)
def dxc (c : Cx) (all : List Oper) (k : List It) : Nat → Dn → Prop
  | n, .go r cs e s => dx c all k n r cs e s
  | n, .two b r cs e r' cs' e' s => dbr c all k n b r cs e r' cs' e' s
  | n, .side p r cs e s => p ∧ dx c all k n r cs e s
  | _, .fail => False
def dbr (c : Cx) (all : List Oper) (k : List It) : Nat → Bool → List Oper → List AV → Env → List Oper → List AV → Env → List Blk → Prop
  | 0, _, _, _, _, _, _, _, _ => False
  | n + 1, b, r, cs, e, r', cs', e', s => (b = true → dx c all k n r cs e s) ∧ (b = false → dx c all k n r' cs' e' s)
end
theorem dbr_true {all : List Oper} {n : Nat} {r cs e r' cs' e' s} : dbr c all k (n + 1) true r cs e r' cs' e' s = dx c all k n r cs e s := by rw [dbr]; simp
theorem dbr_false {all : List Oper} {n : Nat} {r cs e r' cs' e' s} : dbr c all k (n + 1) false r cs e r' cs' e' s = dx c all k n r' cs' e' s := by rw [dbr]; simp

theorem dx_op {all : List Oper} {n : Nat} {o : Oper} {r : List Oper} {cs : List AV} (hg : o.guard = none) (h : dx c all k n (o :: r) cs e s) :
    ∃ cv v n' cs' s', DoesOp c s o cv e v s' ∧ dx c all k n' r cs' (put e o.dst v) s' := by
  cases n with
  | zero => rw [dx] at h; exact h.elim
  | succ n =>
    rw [dx, hg] at h
    unfold dgrd at h
    unfold DoesOp
    revert h
    cases xop false true c.P e s o.op with
    | ok u => intro h; simp only [dres, dxc] at h; exact ⟨.any, u, n, cs, s, ⟨rfl, rfl⟩, h⟩
    | side p u => intro h; simp only [dres, dxc] at h; exact ⟨.any, u, n, cs, s, ⟨h.1, rfl, rfl⟩, h.2⟩
    | sto p u s' => intro h; simp only [dres, dxc] at h; exact ⟨.any, u, n, cs, s', ⟨h.1.1, h.1.2, rfl, rfl⟩, h.2⟩
    | pick b x y =>
      intro h; simp only [dres, dxc] at h
      cases n with
      | zero => rw [dbr] at h; exact h.elim
      | succ n =>
      rw [dbr] at h
      refine ⟨.any, _, n, cs, s, ⟨rfl, rfl⟩, ?_⟩
      cases b with
      | true => exact h.1 rfl
      | false => exact h.2 rfl
    | call f args =>
      intro h; simp only [dres] at h
      cases cs with
      | nil => simp only [dcall, dxc] at h
      | cons cv cs => simp only [dcall, dxc] at h; exact ⟨cv, cv, n, cs, s, ⟨h.1.1, h.1.2, rfl, rfl⟩, h.2⟩
    | anyb p => intro h; simp only [dres, dxc] at h
    | stuck => intro h; simp only [dres, dxc] at h

theorem dx_step {all : List Oper} {n : Nat} {o : Oper} {r : List Oper} {cs : List AV} (h : dx c all k n (o :: r) cs e s) :
    ∃ cv v n' cs' s', Does c all.toArray s o cv e v s' ∧ dx c all k n' r cs' (put e o.dst v) s' := by
  cases hg : o.guard with
  | none =>
    obtain ⟨cv, v, n', cs', s', h1, h2⟩ := dx_op hg h
    exact ⟨cv, v, n', cs', s', by unfold Does; rw [hg]; exact h1, h2⟩
  | some jw =>
    obtain ⟨j, want⟩ := jw
    cases n with
    | zero => rw [dx] at h; exact h.elim
    | succ n =>
      rw [dx, hg] at h
      unfold dgrd dyld at h
      cases hy : yldD want e all[j]? with
      | none => simp only [hy, dxc] at h
      | some b =>
        simp only [hy] at h
        have key : (b = want → ∃ n', dx c all k n' ({ o with guard := none } :: r) cs e s) ∧ (b ≠ want → ∃ n', dx c all k n' r cs (put e o.dst (.raw undef)) s) := by
          cases n with
          | zero => cases want <;> simp only [cond_true, cond_false, dxc, dbr] at h
          | succ n =>
            cases want <;> simp only [cond_true, cond_false, dxc, dbr] at h <;> cases b <;>
              first
              | exact ⟨fun _ => ⟨n, h.1 rfl⟩, fun hh => (hh rfl).elim⟩
              | exact ⟨fun _ => ⟨n, h.2 rfl⟩, fun hh => (hh rfl).elim⟩
              | exact ⟨fun hh => (by cases hh), fun _ => ⟨n, h.1 rfl⟩⟩
              | exact ⟨fun hh => (by cases hh), fun _ => ⟨n, h.2 rfl⟩⟩
        have hy' : yldD want e all.toArray[j]? = some b := by simpa using hy
        by_cases hb : b = want
        · obtain ⟨n1, h1⟩ := key.1 hb
          obtain ⟨cv, v, n', cs', s', h1, h2⟩ := dx_op rfl h1
          refine ⟨cv, v, n', cs', s', ?_, h2⟩
          unfold Does
          rw [hg]
          simp only [hy']
          exact .inl ⟨hb, h1⟩
        · obtain ⟨n1, h1⟩ := key.2 hb
          refine ⟨.any, .raw undef, n1, cs, s, ?_, h1⟩
          unfold Does
          rw [hg]
          simp only [hy']
          exact .inr ⟨hb, trivial, trivial⟩

theorem chain_of_dx {all : List Oper} : ∀ {r : List Oper} {m n : Nat} {cs : List AV} {e : Env} {s : List Blk}, (∀ (j : Nat), r[j]? = all[m + j]?) → dx c all k n r cs e s → Chain c all.toArray (fun e s => AWp c k e s) (List.range' m r.length) e s
  | [], m, n, cs, e, s, _, h => by
    rw [dx] at h
    exact h
  | o :: r, m, n, cs, e, s, hr, h => by
    obtain ⟨cv, v, n', cs', s', h1, h2⟩ := dx_step h
    have h0 : all.toArray[m]? = some o := by have := hr 0; simpa using this.symm
    simp only [List.length_cons, List.range'_succ, Chain, h0]
    exact ⟨cv, v, s', h1, chain_of_dx (fun j => by have := hr (j + 1); simpa [Nat.add_assoc, Nat.add_comm 1 j] using this) h2⟩

theorem AWp.K : ∀ e e' s, Eqv e e' → AWp c k e s → AWp c k e' s := fun _ _ _ h x => x.eqv h

/-- whatever order is drawn -/
theorem any_of_chain {ops : List Oper} (hok : drawOk ops = true) (hdst : ∀ o ∈ ops, dOk c.fn.ntmps o.dst = true) : ∀ (fuel : Nat) (listed : Array Bool) (l : List Nat) (e : Env) (s : List Blk) (a : Act) (w : World), listed.size = ops.length →
    l = (List.range ops.length).filter (fun i => !listed.getD i true) → l.length = fuel → (∀ i, listed.getD i true = true → ∀ j ∈ waits ops i, listed.getD j true = true) →
    Chain c ops.toArray (fun e s => AWp c k e s) l e s → Sim c e s a w → wpAny c.P .any ops.toArray (WQ c k) fuel listed a w := by
  have hready : ∀ (listed : Array Bool) (i : Nat), i ∈ Region.ready .any ops.toArray listed ↔ i < ops.length ∧ listed.getD i true = false ∧ ∀ j ∈ waits ops i, listed.getD j false = true := by
    intro listed i
    unfold Region.ready
    simp only [List.mem_filter, List.mem_range, List.size_toArray, Bool.and_eq_true, Bool.not_eq_true']
    refine and_congr_right fun hi => and_congr_right fun _ => ?_
    have : ops[i]? = some ops[i] := by simp [hi]
    simp only [List.getElem?_toArray, this, Option.map_some, Option.getD_some, waits]
    rw [Array.all_eq_true_iff_forall_mem]
    constructor
    · intro h j hj
      simp only [List.mem_map, List.mem_filter, Array.mem_toList_iff] at hj
      obtain ⟨ed, ⟨h1, h2⟩, rfl⟩ := hj
      have := h ed h1
      simpa [h2] using this
    · intro h ed hed
      by_cases hb : Region.binds .any ed = true
      · have := h ed.on (by simp only [List.mem_map, List.mem_filter, Array.mem_toList_iff]; exact ⟨ed, ⟨hed, hb⟩, rfl⟩)
        simp [this]
      · simp [hb]
  have hback : ∀ i, i < ops.length → ∀ j ∈ waits ops i, j < i := by
    intro i hi j hj
    have := (List.all_eq_true.1 hok) i (by simpa using hi)
    simp only [Bool.and_eq_true] at this
    simpa using (List.all_eq_true.1 this.1) j hj
  intro fuel
  induction fuel with
  | zero =>
    intro listed l e s a w hsz hl hlen hcl hch hsim
    have hnil : l = [] := List.eq_nil_of_length_eq_zero hlen
    subst hnil
    refine ⟨?_, hch a w hsim⟩
    apply List.eq_nil_iff_forall_not_mem.2
    intro i hi
    obtain ⟨h1, h2, _⟩ := (hready listed i).1 hi
    have : i ∈ (List.range ops.length).filter (fun i => !listed.getD i true) := List.mem_filter.2 ⟨by simpa using h1, by simp [h2]⟩
    rw [← hl] at this
    cases this
  | succ fuel ih =>
    intro listed l e s a w hsz hl hlen hcl hch hsim
    have hmem : ∀ i, i ∈ l ↔ i < ops.length ∧ listed.getD i true = false := by
      intro i; rw [hl]; simp [List.mem_filter]
    refine ⟨fun hr => ?_, fun i hi => ?_⟩
    · exfalso
      cases hq : l with
      | nil => rw [hq] at hlen; simp at hlen
      | cons i r =>
        have hil : i ∈ l := by rw [hq]; simp
        obtain ⟨h1, h2⟩ := (hmem i).1 hil
        have : i ∈ Region.ready .any ops.toArray listed := by
          refine (hready listed i).2 ⟨h1, h2, fun j hj => ?_⟩
          have hlt := hback i h1 j hj
          have hjn : j ∉ l := by
            intro hjl
            have hs : l.Pairwise (· < ·) := by rw [hl]; exact List.Pairwise.filter _ List.pairwise_lt_range
            rw [hq] at hs hjl
            rcases List.mem_cons.1 hjl with rfl | hjr
            · omega
            · have := (List.pairwise_cons.1 hs).1 j hjr; omega
          have hjlt : j < listed.size := by omega
          have := fun hf => hjn ((hmem j).2 ⟨by omega, hf⟩)
          cases hv : listed.getD j true with
          | true => simpa [Array.getD, hjlt] using hv
          | false => exact (this hv).elim
        rw [hr] at this
        cases this
    · obtain ⟨h1, h2, h3⟩ := (hready listed i).1 hi
      have hil : i ∈ l := (hmem i).2 ⟨h1, h2⟩
      obtain ⟨l1, l2, hsplit⟩ := List.append_of_mem hil
      have ho : ops.toArray[i]? = some ops[i] := by simp [h1]
      have hs : l.Pairwise (· < ·) := by rw [hl]; exact List.Pairwise.filter _ List.pairwise_lt_range
      have hapart : ∀ j ∈ l1, ∃ oj, ops.toArray[j]? = some oj ∧ oj.apart ops.toArray ops[i] = true ∧ together oj ops[i] = true := by
        intro j hj
        have hjl : j ∈ l := by rw [hsplit]; simp [hj]
        obtain ⟨hj1, hj2⟩ := (hmem j).1 hjl
        have hji : j < i := by
          rw [hsplit] at hs
          exact (List.pairwise_append.1 hs).2.2 j hj i (by simp)
        refine ⟨ops[j], by simp [hj1], ?_⟩
        have := (List.all_eq_true.1 hok) i (by simpa using h1)
        simp only [Bool.and_eq_true] at this
        have := (List.all_eq_true.1 this.2) j (by simpa using hji)
        have e1 : ops[i]? = some ops[i] := by simp [h1]
        have e2 : ops[j]? = some ops[j] := by simp [hj1]
        simp only [e1, e2, Bool.or_eq_true, Bool.and_eq_true] at this
        rcases this with h4 | h4
        · exact h4
        · exfalso
          have hm : j ∈ anc ops ops.length i := by simpa using h4
          have hw3 : ∀ j ∈ waits ops i, listed.getD j true = true := by
            intro j hj
            have h5 := h3 j hj
            have hjlt : j < listed.size := by have := hback i h1 j hj; omega
            simpa [Array.getD, hjlt] using h5
          have := anc_listed (L := fun j => listed.getD j true = true) hcl ops.length i hw3 j hm
          rw [this] at hj2
          cases hj2
      rw [hsplit] at hch
      have hfront := Chain.front (K := fun e s => AWp c k e s) AWp.K ho hapart hch
      simp only [Chain, ho] at hfront
      obtain ⟨cv, v, s1, hd, hrest⟩ := hfront
      have hlist : ∀ j, (listed.setIfInBounds i true).getD j true = if j = i then true else listed.getD j true := by
        intro j
        by_cases hj : j = i
        · subst hj
          have : j < listed.size := by omega
          simp [this]
        · rw [if_neg hj]
          simp [Array.getElem?_setIfInBounds_ne (Ne.symm hj)]
      have hnext : l1 ++ l2 = (List.range ops.length).filter (fun j => !(listed.setIfInBounds i true).getD j true) := by
        have e1 : (fun j => !(listed.setIfInBounds i true).getD j true) = fun j => (!listed.getD j true) && decide (j ≠ i) := by
          funext j
          rw [hlist]
          by_cases hj : j = i <;> simp [hj]
        have e2 : (List.range ops.length).filter (fun j => (!listed.getD j true) && decide (j ≠ i)) = l.filter (fun j => decide (j ≠ i)) := by
          rw [hl, List.filter_filter]
          congr 1
          funext j
          rw [Bool.and_comm]
        rw [e1, e2, hsplit]
        have hn : l.Nodup := hs.imp (fun h => Nat.ne_of_lt h)
        rw [hsplit] at hn
        have hn1 : i ∉ l1 := fun hh => (List.nodup_append.1 hn).2.2 i hh i (by simp) rfl
        have hn2 : i ∉ l2 := (List.nodup_cons.1 (List.nodup_append.1 hn).2.1).1
        simp only [List.filter_append, List.filter_cons]
        have f1 : ∀ x : List Nat, i ∉ x → x.filter (fun j => decide (j ≠ i)) = x := by
          intro x hx
          rw [List.filter_eq_self]
          intro y hy
          simp
          intro h; subst h; exact hx hy
        rw [f1 l1 hn1, f1 l2 hn2]
        simp
      have hgo : ∀ a w, Sim c (put e ops[i].dst v) s1 a w → wpAny c.P .any ops.toArray (WQ c k) fuel (listed.setIfInBounds i true) a w := fun a' w' hs' =>
        ih (listed.setIfInBounds i true) (l1 ++ l2) _ _ a' w' (by simpa using hsz) hnext (by rw [hsplit] at hlen; simp at hlen ⊢; omega) (fun j hj m hm => by
          rw [hlist] at hj ⊢
          by_cases hmi : m = i
          · simp [hmi]
          · rw [if_neg hmi]
            by_cases hji : j = i
            · subst hji
              have h5 := h3 m hm
              have hmlt : m < listed.size := by have := hback j h1 m hm; omega
              simpa [Array.getD, hmlt] using h5
            · rw [if_neg hji] at hj
              exact hcl j hj m hm) hrest hs'
      have hw := does_wp (Q := WQ c k) hsim (hdst ops[i] (List.getElem_mem h1)) hd hgo
      unfold wpOp
      rw [ho]
      simp only
      by_cases hwant : Region.wanted ops[i] (yielded ops.toArray a.tmps) = true
      · rw [if_pos hwant] at hw ⊢
        exact .inl hw
      · rw [if_neg hwant] at hw ⊢
        exact hw

/-- A STATEMENT WHOSE ORDER IS OPEN: 'cs' are the results of its calls, in the text's order. -/
theorem adraw (cs : List AV) {id : Nat} {ops : List Oper} (hm : c.P.follows .mixedOrders = true) (hok : drawOk ops = true) {N : Nat} (hN : c.fn.ntmps = N) (hdst : ops.all (fun o => dOk N o.dst) = true) (n : Nat)
    (h : dx c ops k n ops cs e s) : AWp c (.code (.region id ops.toArray true) :: k) e s := by
  intro a w hsim
  have hch := chain_of_dx (m := 0) (by intro j; simp) h
  rw [← List.range_eq_range'] at hch
  refine wp_region_any hm ?_
  have hsim' : Sim c e s a { w with drawn := w.drawn + 1 } := by
    obtain ⟨hh, ρ, hmm, hl, he, hdf, hsz, hX⟩ := hsim
    have sm : Same w { w with drawn := w.drawn + 1 } := Same.drew w
    exact ⟨hh, ρ, hmm.same sm, hl.trans (Later.same sm), he, hdf, hsz, c.hx.later hmm (Later.same sm) hX⟩
  refine any_of_chain hok (fun o ho => by rw [hN]; exact (List.all_eq_true.1 hdst) o ho) ops.length (Array.replicate ops.length false) (List.range ops.length) e s a _ (by simp) ?_ (by simp) ?_ hch hsim'
  · symm
    rw [List.filter_eq_self]
    intro i hi
    simp at hi
    simp [hi]
  · intro i hi j hj
    exfalso
    by_cases h1 : i < ops.length
    · simp [h1] at hi
    · unfold waits at hj
      have : ops[i]? = none := by simp; omega
      simp [this] at hj
end
end Go.Av
/- Calls that change one block of the caller's (a method with a pointer for its receiver). Own work of this seat. -/
set_option linter.unusedSimpArgs false
set_option linter.unusedVariables false
namespace Go.Av
open Go Go.RowKit

section
variable {h : Mem} {ρ : Own} {sto : List Blk} {w : World} {P : Program}

/-- what a method comes to that is called on a block with one element, and hands back what is frozen -/
def Mc (P : Program) (f : FuncId) (e : Nat) (agg : AV) (args : List AV) (post : AV → AV → Prop) : Prop :=
  Ct P f (.ptr 0 1 0 0 :: args) [.arr e [agg]] (fun r s => ∃ agg' junk, s = .arr e [agg'] :: junk ∧ post r agg' ∧ nr2 r = true ∧ nr1 agg' = true)

theorem nr1_cells {fl : Bool} {a : AV} {vs : List Value} (ha : nr1 a = true) (r : RL h (Lf ρ sto) fl vs (cellsOf a)) {Lf' : Value → AV → Prop} : RL h Lf' true vs (cellsOf a) := by
  cases a with
  | agg l => exact (frz_all r ha).thaw (fun _ _ _ x => x)
  | _ => exact (frz_all r (by simpa [cellsOf, nr1] using ha)).thaw (fun _ _ _ x => x)

theorem Mc.ct {f : FuncId} {e : Nat} {agg : AV} {args : List AV} {post : AV → AV → Prop} (hc : Mc P f e agg args post) (ha : args.all nr1 = true) (hg : nr1 agg = true) {id : Nat} (hid : sto[id]? = some (.arr e [agg])) :
    Ct P f (.ptr id 1 0 0 :: args) sto (fun r s => ∃ agg', post r agg' ∧ nr1 agg' = true ∧ s = sto.set id (.arr e [agg'])) := by
  refine ⟨hc.1, fun h ρ w vs m hv => ?_⟩
  cases hv with
  | @cons _ v0 _ vs _ r0 rs =>
    have hl := (inv_ptr r0).2
    simp only [LfC, hid] at hl
    obtain ⟨_, g, tot, h1, h2⟩ := hl.2 rfl
    have hown := m.own id _ hid
    rcases hown with ⟨hn, _⟩ | ⟨g', tot', cur, tt, i3, i4, i5, i6, i7, i8, i9, i10, i11⟩
    · simp at hn
    rw [h1] at i3
    simp only [Option.some.injEq, Prod.mk.injEq] at i3
    obtain ⟨rfl, rfl⟩ := i3
    let ρ0 : Own := fun i => if i = 0 then some (g, tot) else none
    have hρ0 : ∀ i b t, ρ0 i = some (b, t) → i = 0 ∧ b = g ∧ t = tot := by
      intro i b t hh
      simp only [ρ0] at hh
      split at hh
      · rename_i hi; simp at hh; exact ⟨hi, hh.1.symm, hh.2.symm⟩
      · simp at hh
    have m0 : Mine h ρ0 [.arr e [agg]] w := by
      refine ⟨m.mem, ?_, ?_, ?_, ?_⟩
      · intro i blk hb
        match i, hb with
        | 0, hb =>
          simp at hb; subst hb
          refine .inr ⟨g, tot, cur, tt, rfl, i4, i5, i6, i7, i8, i9, i10, ?_⟩
          simp only [flat, List.append_nil] at i11 ⊢
          exact (nr1_cells hg i11 (Lf' := Lf ρ0 [.arr e [agg]])).thaw (fun _ _ _ x => x)
        | i + 1, hb => simp at hb
      · intro i hi
        simp at hi
        simp [ρ0]; omega
      · intro i j b t t' hi hj
        rw [(hρ0 i b t hi).1, (hρ0 j b t' hj).1]
      · intro i b t hi o
        obtain ⟨_, rfl, _⟩ := hρ0 i b t hi
        exact m.disj id _ _ h1 o
    have hp0 : RV h (Lf ρ0 [.arr e [agg]]) false v0 (.ptr 0 1 0 0) := by
      refine .leaf ⟨(inv_ptr r0).1, ?_⟩
      simp only [LfC, List.getElem?_cons_zero]
      exact ⟨by simp, fun _ => ⟨by omega, g, tot, rfl, h2⟩⟩
    refine (hc.2 h ρ0 w (v0 :: vs) m0 (.cons hp0 ((nofrzL rs ha (Lf' := Lf ρ0 [.arr e [agg]])).thaw (fun _ _ _ x => x)))).mono ?_
    rintro en w' ⟨v, r, s', h', ρ', rfl, ⟨agg', junk, rfl, hp, hnr, hna⟩, m', l', rv⟩
    have hk1 := l'.keep (.slice (some ⟨g, 0 * e, none⟩) 1 (tot - 0)) (.sl 0 0 1 1) ⟨rfl, by simp [LfC, ρ0]⟩
    have hρ' : ρ' 0 = some (g, tot) := by
      have hk := hk1.2
      simp only [LfC, List.getElem?_cons_zero] at hk
      rcases hk.2 (by simp) with ⟨hh, _⟩ | ⟨g', t', e1, e2, _⟩
      · simp at hh
      · simp at e2
        rw [e1, e2.1, e2.2]
    have hset : ∀ v a, Lf ρ sto v a → Lf ρ (sto.set id (.arr e [agg'])) v a := fun v a lf => ⟨lf.1, LfC_set hid (fun _ _ => rfl) (Or.inl ⟨rfl, rfl, rfl⟩ : (_ ∧ _ ∧ _) ∨ _) lf.2⟩
    have hlt := (List.getElem?_eq_some_iff.1 hid).1
    refine ⟨v, r, _, h', ρ, rfl, ⟨agg', hp, hna, rfl⟩, ⟨m'.mem, ?_, ?_, m.inj, ?_⟩, ⟨l'.hle, ?_, hset, l'.os, l'.tape, l'.output, l'.size, ?_, fun i _ t x => .inl ⟨i, t, x⟩⟩, (nofrz2 rv hnr (Lf' := Lf0)).thaw (fun _ _ _ x => x)⟩
    · intro j blk hb
      by_cases hj : j = id
      · subst hj
        simp [hlt] at hb
        subst hb
        rcases m'.own 0 _ rfl with ⟨hn, _⟩ | ⟨g2, tot2, cur2, tt2, k3, k4, k5, k6, k7, k8, k9, k10, k11⟩
        · simp at hn
        rw [hρ'] at k3
        simp only [Option.some.injEq, Prod.mk.injEq] at k3
        obtain ⟨rfl, rfl⟩ := k3
        refine .inr ⟨g, tot, cur2, tt2, h1, k4, k5, k6, k7, k8, k9, k10, ?_⟩
        simp only [flat, List.append_nil] at k11 ⊢
        exact (nr1_cells hna k11 (Lf' := Lf0)).thaw (fun _ _ _ x => x)
      · rw [List.getElem?_set_ne (Ne.symm hj)] at hb
        refine (m.own j blk hb).mono l'.hle hset rfl (fun gj t hgj => l'.block gj (m.lt hgj) fun i t' hi => ?_)
        obtain ⟨_, rfl, _⟩ := hρ0 i gj t' hi
        exact hj (m.inj j id _ _ _ hgj h1)
    · intro i hi
      simp at hi
      exact m.out i hi
    · intro i gi t hi o
      by_cases hj : i = id
      · subst hj
        rw [h1] at hi
        simp only [Option.some.injEq, Prod.mk.injEq] at hi
        obtain ⟨rfl, rfl⟩ := hi
        exact m'.disj 0 _ _ hρ' o
      · have hd := m.disj i gi t hi o
        cases hq : h' gi o with
        | none => rfl
        | some u =>
          rcases l'.hnew gi o hd (by simp [hq]) with ⟨j, t', hj'⟩ | hs
          · obtain ⟨_, rfl, _⟩ := hρ0 j gi t' hj'
            exact (hj (m.inj i id _ _ _ hi h1)).elim
          · have := m.lt hi; omega
    · intro b o hb hb'
      rcases l'.hnew b o hb hb' with ⟨j, t', hj'⟩ | hs
      · obtain ⟨_, rfl, _⟩ := hρ0 j b t' hj'
        exact .inl ⟨id, _, h1⟩
      · exact .inr hs
    · intro k hk hno
      exact l'.block k hk fun i t hi => by
        obtain ⟨_, rfl, _⟩ := hρ0 i k t hi
        exact hno id _ h1

/-- such a call, in a walk -/
theorem mcall {c : Cx} {k : List It} {e : Env} {s : List Blk} {f : FuncId} {es : Nat} {agg : AV} {args : List AV} {d : Option Tmp} {all os : List Oper} {post : AV → AV → Prop} (hc : Mc c.P f es agg args post) (ha : args.all nr1 = true) (hg : nr1 agg = true) {id : Nat} (hid : s[id]? = some (.arr es [agg])) {N : Nat} (hN : c.fn.ntmps = N) (hd : dOk N d = true)
    (hk : ∀ r agg', post r agg' → AWp c (.ops all os :: k) (put e d r) (s.set id (.arr es [agg']))) : ACall c f (.ptr id 1 0 0 :: args) d all os k e s :=
  acall (hc.ct ha hg hid) hN hd fun r s' ⟨agg', hp, _, hs⟩ => by subst hs; exact hk r agg' hp
end
end Go.Av
/- The same state told in another way: memory of one's own that is frozen from here on; nil told as an empty slice. Own work of this seat. -/
set_option linter.unusedSimpArgs false
set_option linter.unusedVariables false
namespace Go.Av
open Go Go.RowKit

section
variable {h : Mem} {ρ : Own} {sto : List Blk} {w : World} {P : Program}

/-- a block of one's own, whose cells are plain, is never written again -/
theorem Mine.freeze (m : Mine h ρ sto w) {id e : Nat} {l : List AV} (hb : sto[id]? = some (.arr e l)) (hf : (flat l).all frozen = true) :
    ∃ h' ρ', Mine h' ρ' (sto.set id .dead) w ∧ Later h ρ sto w h' ρ' (sto.set id .dead) w ∧
      ∀ v off len cap, LfC ρ sto v (.sl id off len cap) → off + cap = l.length → len ≤ cap → RV h' (Lf ρ' (sto.set id .dead)) false v (.fz e ((l.drop off).take len)) := by
  have hid := (List.getElem?_eq_some_iff.1 hb).1
  rcases m.own id _ hb with ⟨rfl, hn⟩ | ⟨g, tot, cur, t, h3, h4, h5, h6, h7, h8, h9, h10, h11⟩
  · have hk : ∀ v a, Lf ρ sto v a → Lf ρ (sto.set id .dead) v a := fun v a l => ⟨l.1, LfC_set hb (fun _ _ => rfl) trivial l.2⟩
    refine ⟨h, ρ, ⟨m.mem, ?_, fun i hi => m.out i (by simpa using hi), m.inj, m.disj⟩, ⟨fun _ _ _ x => x, fun _ _ a b => (b a).elim, hk, rfl, rfl, rfl, Nat.le_refl _, fun _ _ _ => rfl, fun i _ t x => .inl ⟨i, t, x⟩⟩, ?_⟩
    · intro i blk e1
      by_cases hi : i = id
      · subst hi
        simp [hid] at e1
        subst e1
        exact hn
      · rw [List.getElem?_set_ne (Ne.symm hi)] at e1
        exact (m.own i blk e1).mono (fun _ _ _ x => x) hk rfl (fun _ _ _ => rfl)
    · intro v off len cap hl hc hlc
      simp only [LfC, hb] at hl
      rcases hl.2 hc with ⟨rfl, rfl, a, rfl⟩ | ⟨g, tot, h1, _⟩
      · cases a with
        | none => simpa [at0] using RV.fznil e
        | some a => simpa [at0] using RV.fz (h := h) (Lf := Lf ρ (sto.set id .dead)) (fl := false) a.1 a.2 0 e [] [] .nil (by simp) (by simp) (Nat.le_refl _)
      · simp [hn] at h1
  · let h' : Mem := fun b o => if b = g then cur.toList[o]? else h b o
    have hle : ∀ b o v, h b o = some v → h' b o = some v := by
      intro b o v e1
      have : b ≠ g := fun hq => by subst hq; simp [m.disj id b tot h3 o] at e1
      simp [h', this, e1]
    have hk : ∀ v a, Lf ρ sto v a → Lf (upd ρ id none) (sto.set id .dead) v a := fun v a l => ⟨l.1, LfC_set hb (fun i hi => by simp [upd, hi]) trivial l.2⟩
    have hown : ∀ i b t, upd ρ id none i = some (b, t) → i ≠ id ∧ ρ i = some (b, t) := by
      intro i b t e1
      unfold upd at e1
      split at e1
      · simp at e1
      · rename_i hi; exact ⟨hi, e1⟩
    refine ⟨h', upd ρ id none, ⟨?_, ?_, ?_, ?_, ?_⟩, ⟨hle, ?_, hk, rfl, rfl, rfl, Nat.le_refl _, fun _ _ _ => rfl, fun i b t x => .inl ⟨i, t, (hown i b t x).2⟩⟩, ?_⟩
    · intro b o v e1
      by_cases hq : b = g
      · subst hq
        simp only [h', if_true] at e1
        refine ⟨?_, h10 v (List.mem_of_getElem? e1)⟩
        rw [h4.cell]
        simpa using e1
      · simp only [h', hq, if_false] at e1
        exact m.mem b o v e1
    · intro i blk e1
      by_cases hi : i = id
      · subst hi
        simp [hid] at e1
        subst e1
        simp [OwnB, upd]
      · rw [List.getElem?_set_ne (Ne.symm hi)] at e1
        exact (m.own i blk e1).mono hle hk (by simp [upd, hi]) (fun _ _ _ => rfl)
    · intro i hi
      simp at hi
      simp [upd, m.out i hi]
    · intro i j b t t' hi hj
      exact m.inj i j b t t' (hown i b t hi).2 (hown j b t' hj).2
    · intro i b t hi o
      obtain ⟨h1, h2⟩ := hown i b t hi
      have : b ≠ g := fun hq => by subst hq; exact h1 (m.inj i id _ _ _ h2 h3)
      simp [h', this, m.disj i b t h2 o]
    · intro b o e1 e2
      by_cases hq : b = g
      · subst hq; exact .inl ⟨id, tot, h3⟩
      · simp [h', hq, e1] at e2
    · intro v off len cap hl hc hlc
      simp only [LfC, hb] at hl
      have hfl := flat_length h9
      have hcurl : cur.toList.length = tot * e := by simp [h5]
      rcases hl.2 hc with ⟨rfl, rfl, a, rfl⟩ | ⟨g', tot', h1, rfl, _⟩
      · cases a with
        | none => simpa [at0] using RV.fznil e
        | some a => simpa [at0] using RV.fz (h := h') (Lf := Lf (upd ρ id none) (sto.set id .dead)) (fl := false) a.1 a.2 0 e [] [] .nil (by simp) (by simp) (Nat.le_refl _)
      · rw [h3] at h1
        simp only [Option.some.injEq, Prod.mk.injEq] at h1
        obtain ⟨rfl, rfl⟩ := h1
        have hlen : ((l.drop off).take len).length = len := by simp; omega
        have hr : RL h' (Lf (upd ρ id none) (sto.set id .dead)) true (((cur.toList.take (l.length * e)).drop (off * e)).take (len * e)) (flat ((l.drop off).take len)) := by
          rw [← flat_take (l := l.drop off) (esz := e) (fun x hx => h9 x (List.mem_of_mem_drop hx)) len, ← flat_drop h9 off]
          exact (((frz_all h11 hf).thaw (fun _ _ _ x => x)).mono hle (fun _ _ x => x) |>.drop _).take _
        have := RV.fz (h := h') (Lf := Lf (upd ρ id none) (sto.set id .dead)) (fl := false) g (off * e) (tot - off) e ((l.drop off).take len) _ hr (fun x hx => h9 x (List.mem_of_mem_drop (List.mem_of_mem_take hx))) (fun k v hk => by
          rw [List.getElem?_take] at hk
          split at hk
          · rw [List.getElem?_drop, List.getElem?_take] at hk
            split at hk
            · simp only [h', if_true]; exact hk
            · simp at hk
          · simp at hk) (by rw [hlen]; omega)
        rwa [hlen] at this

variable {c : Cx} {e : Env} {s : List Blk}

/-- slot 't' holds a slice of one's own: from here on it is frozen -/
theorem Shift.freeze (t : Tmp) {id off len cap es : Nat} {l : List AV} (hv : get e t = .sl id off len cap) (hb : s.getD id .dead = .arr es l) (hc : off + cap = l.length) (hl : len ≤ cap) (hf : (flat l).all frozen = true) :
    Shift c e s (put e (some t) (.fz es ((l.drop off).take len))) (s.set id .dead) := by
  rintro a w ⟨hh, ρ, hm, hlt, he, hdf, hsz, hX⟩
  obtain ⟨h', ρ', m', l', key⟩ := hm.freeze (sto_get hb) hf
  refine ⟨h', ρ', m', hlt.trans l', fun t' => ?_, hdf, hsz, c.hx.later hm l' hX⟩
  rw [get_put]
  split
  · rename_i ht
    simp only [Option.some.injEq] at ht
    subst ht
    have := he t
    rw [hv] at this
    exact key _ _ _ _ (inv_sl this).2 hc hl
  · exact (he t').mono l'.hle l'.keep

/-- slot 't' holds nil: it is an empty slice that is frozen -/
theorem Shift.nilfz (t : Tmp) (es : Nat) (hv : get e t = .raw (.slice none 0 0)) : Shift c e s (put e (some t) (.fz es [])) s := by
  rintro a w ⟨hh, ρ, hm, hlt, he, hdf, hsz, hX⟩
  refine ⟨hh, ρ, hm, hlt, fun t' => ?_, hdf, hsz, hX⟩
  rw [get_put]
  split
  · rename_i ht
    simp only [Option.some.injEq] at ht
    subst ht
    have := he t
    rw [hv] at this
    rw [inv_raw this]
    exact .fznil es
  · exact he t'

/-- slot 't' holds nil: it is an empty slice of one's own -/
theorem Shift.nilsl (t : Tmp) (es : Nat) (hv : get e t = .raw (.slice none 0 0)) : Shift c e s (put e (some t) (.sl s.length 0 0 0)) (s ++ [.arr es []]) := by
  rintro a w ⟨hh, ρ, hm, hlt, he, hdf, hsz, hX⟩
  obtain ⟨m', l'⟩ := hm.pushNil es
  refine ⟨hh, ρ, m', hlt.trans l', fun t' => ?_, hdf, hsz, c.hx.later hm l' hX⟩
  rw [get_put]
  split
  · rename_i ht
    simp only [Option.some.injEq] at ht
    subst ht
    have := he t
    rw [hv] at this
    rw [inv_raw this]
    exact .leaf ⟨rfl, by simp only [LfC, List.getElem?_concat_length]; exact ⟨by simp, fun _ => .inl ⟨trivial, trivial, none, rfl⟩⟩⟩
  · exact (he t').mono l'.hle l'.keep
end
end Go.Av
/- Loops round by round. Own work of this seat. -/
set_option linter.unusedSimpArgs false
set_option linter.unusedVariables false
namespace Go.Av
open Go Go.RowKit

/-- what a loop comes to, from the head of a round on -/
def Hd (P : Program) (B : Code) (Q : Exit → Act → World → Prop) (a : Act) (w : World) : Prop :=
  ∀ (b : Frame) (k : List Item) (cs : List Frame), ∃ e a' w', Q e a' w' ∧ Arrives P (lone (b.at a (.code B :: .inLoop B :: k)) cs w) b k cs e a' w'

theorem Hd.loop {P : Program} {B : Code} {Q : Exit → Act → World → Prop} {a : Act} {w : World} (h : Hd P B Q a w) : (Code.loop B).wp P Q a w := by
  intro b k cs
  obtain ⟨e, a', w', hq, harr⟩ := h b k cs
  exact ⟨e, a', w', hq, .of_steps (.one step_loop) harr⟩

theorem Hd.round {P : Program} {B : Code} {Q : Exit → Act → World → Prop} {a : Act} {w : World} (h : B.wp P (Exit.then (Hd P B Q) Q) a w) : Hd P B Q a w := by
  intro b k cs
  obtain ⟨e, a₁, w₁, hq, harr⟩ := h b (.inLoop B :: k) cs
  cases e with
  | normal =>
    obtain ⟨e₂, a₂, w₂, hq₂, harr₂⟩ := hq b k cs
    exact ⟨e₂, a₂, w₂, hq₂, .of_steps (Steps.trans harr (.one step_inLoop)) harr₂⟩
  | exit id => exact ⟨_, a₁, w₁, hq, .pass (x := .inLoop B) rfl (fun _ _ => .inl (by simp)) harr⟩
  | goto l => exact ⟨_, a₁, w₁, hq, .pass (x := .inLoop B) rfl (fun _ _ => .inl (by simp)) harr⟩
  | ret => exact ⟨_, a₁, w₁, hq, .pass (x := .inLoop B) rfl (fun _ _ => .inl (by simp)) harr⟩
  | panic ch => exact ⟨_, a₁, w₁, hq, .pass (x := .inLoop B) rfl (fun _ _ => .inl (by simp)) harr⟩
  | outgrown => exact ⟨_, a₁, w₁, hq, .pass (x := .inLoop B) rfl (fun _ _ => .inl (by simp)) harr⟩

section
variable {c : Cx} {k : List It} {e : Env} {s : List Blk} {B : Code}

/-- the head of a round -/
def AHd (c : Cx) (B : Code) (k : List It) (e : Env) (s : List Blk) : Prop := ∀ a w, Sim c e s a w → Hd c.P B (WQ c k) a w

/-- into a loop, to be gone through round by round -/
theorem aenter (h : AHd c B k e s) : AWp c (.code (.loop B) :: k) e s := fun a w hs => (h a w hs).loop

/-- one round -/
theorem around (h : AWp c (.code B :: .inv (Hd c.P B (WQ c k)) :: k) e s) : AHd c B k e s := fun a w hs => by
  refine Hd.round ?_
  refine Code.wp_mono ?_ (h a w hs)
  intro en a' w' hq
  cases en <;> exact hq

/-- .. and its end -/
theorem aagain (h : AHd c B k e s) : AWp c (.inv (Hd c.P B (WQ c k)) :: k) e s := fun a w hs => h a w hs

/-- a loop, by recursion: what holds of the heads of rounds -/
theorem AHd.shift {e' : Env} {s' : List Blk} (x : Shift c e s e' s') (h : AHd c B k e' s') : AHd c B k e s := fun a w hs => h a w (x a w hs)
end
end Go.Av
/- A block told anew under a new number, with fewer elements. Own work of this seat. -/
set_option linter.unusedSimpArgs false
set_option linter.unusedVariables false
namespace Go.Av
open Go Go.RowKit

section
variable {h : Mem} {ρ : Own} {sto : List Blk} {w : World} {P : Program}

theorem Mine.trim (m : Mine h ρ sto w) {id e : Nat} {l : List AV} (hb : sto[id]? = some (.arr e l)) (n : Nat) :
    ∃ ρ', Mine h ρ' (sto.set id .dead ++ [.arr e (l.take n)]) w ∧ Later h ρ sto w h ρ' (sto.set id .dead ++ [.arr e (l.take n)]) w ∧
      ∀ v cap, LfC ρ sto v (.sl id 0 n cap) → cap = l.length → n ≤ cap → LfC ρ' (sto.set id .dead ++ [.arr e (l.take n)]) v (.sl sto.length 0 n n) := by
  have hid := (List.getElem?_eq_some_iff.1 hb).1
  have hlen : (sto.set id .dead).length = sto.length := by simp
  let ρ1 : Own := upd ρ id none
  let ρ2 : Own := upd ρ1 sto.length (ρ id)
  have hk1 : ∀ v a, LfC ρ sto v a → LfC ρ1 (sto.set id .dead) v a := fun v a l => LfC_set hb (fun i hi => by simp [ρ1, upd, hi]) trivial l
  have hk2 : ∀ v a, LfC ρ1 (sto.set id .dead) v a → LfC ρ2 (sto.set id .dead ++ [.arr e (l.take n)]) v a := fun v a lf => by
    have := LfC_push (b := .arr e (l.take n)) (x := ρ id) lf
    rwa [hlen] at this
  have hk : ∀ v a, Lf ρ sto v a → Lf ρ2 (sto.set id .dead ++ [.arr e (l.take n)]) v a := fun v a lf => ⟨lf.1, hk2 v a (hk1 v a lf.2)⟩
  have hρ : ∀ i b t, ρ2 i = some (b, t) → (i = sto.length ∧ ρ id = some (b, t)) ∨ (i ≠ id ∧ i ≠ sto.length ∧ ρ i = some (b, t)) := by
    intro i b t hi
    simp only [ρ2, ρ1, upd] at hi
    split at hi
    · exact .inl ⟨by assumption, hi⟩
    · split at hi
      · simp at hi
      · exact .inr ⟨by assumption, by assumption, hi⟩
  have hnew : ρ2 sto.length = ρ id := by simp [ρ2, upd]
  refine ⟨ρ2, ⟨m.mem, ?_, ?_, ?_, ?_⟩, ⟨fun _ _ _ x => x, fun _ _ a b => (b a).elim, hk, rfl, rfl, rfl, Nat.le_refl _, fun _ _ _ => rfl, ?_⟩, ?_⟩
  · intro i blk e1
    by_cases hi : i < sto.length
    · rw [List.getElem?_append_left (by rw [hlen]; exact hi)] at e1
      by_cases hii : i = id
      · subst hii
        simp [hid] at e1
        subst e1
        show ρ2 i = none
        simp [ρ2, ρ1, upd, Nat.ne_of_lt hi]
      · rw [List.getElem?_set_ne (Ne.symm hii)] at e1
        exact (m.own i blk e1).mono (fun _ _ _ x => x) hk (by simp [ρ2, ρ1, upd, hii, Nat.ne_of_lt hi]) (fun _ _ _ => rfl)
    · have hlt := (List.getElem?_eq_some_iff.1 e1).1
      simp at hlt
      have : i = sto.length := by omega
      subst this
      rw [List.getElem?_append_right (by rw [hlen]; exact Nat.le_refl _)] at e1
      simp at e1
      subst e1
      rcases m.own id _ hb with ⟨rfl, hn⟩ | ⟨g, tot, cur, t, h3, h4, h5, h6, h7, h8, h9, h10, h11⟩
      · exact .inl ⟨by simp, by rw [hnew]; exact hn⟩
      · refine .inr ⟨g, tot, cur, t, by rw [hnew]; exact h3, h4, h5, by simp; omega, h7, h8, fun x hx => h9 x (List.mem_of_mem_take hx), h10, ?_⟩
        have := (h11.take (n * e)).mono (fun _ _ _ x => x) hk
        rw [flat_take h9, List.take_take] at this
        have e2 : min (n * e) (l.length * e) = (l.take n).length * e := by
          rw [List.length_take]
          rcases Nat.le_total n l.length with hh | hh
          · rw [Nat.min_eq_left hh, Nat.min_eq_left (Nat.mul_le_mul_right _ hh)]
          · rw [Nat.min_eq_right hh, Nat.min_eq_right (Nat.mul_le_mul_right _ hh)]
        rw [e2] at this
        exact this
  · intro i hi
    simp at hi
    have h1 : i ≠ id := by omega
    have h2 : i ≠ sto.length := by omega
    simp [ρ2, ρ1, upd, h1, h2, m.out i (by omega)]
  · intro i j b t t' hi hj
    rcases hρ i b t hi with ⟨h1, h2⟩ | ⟨h1, h2, h3⟩ <;> rcases hρ j b t' hj with ⟨h4, h5⟩ | ⟨h4, h5, h6⟩
    · omega
    · exact (h4 (m.inj j id _ _ _ h6 h2)).elim
    · exact (h1 (m.inj i id _ _ _ h3 h5)).elim
    · exact m.inj i j _ _ _ h3 h6
  · intro i b t hi o
    rcases hρ i b t hi with ⟨h1, h2⟩ | ⟨h1, h2, h3⟩
    · exact m.disj id _ _ h2 o
    · exact m.disj i _ _ h3 o
  · intro i b t hi
    rcases hρ i b t hi with ⟨h1, h2⟩ | ⟨h1, h2, h3⟩
    · exact .inl ⟨id, t, h2⟩
    · exact .inl ⟨i, t, h3⟩
  · intro v cap hl hc hnc
    subst hc
    simp only [LfC, hb] at hl
    have hg : (sto.set id .dead ++ [.arr e (l.take n)])[sto.length]? = some (.arr e (l.take n)) := by
      rw [List.getElem?_append_right (by rw [hlen]; exact Nat.le_refl _)]; simp
    simp only [LfC, hg, List.length_take]
    refine ⟨by omega, fun _ => ?_⟩
    rcases hl.2 (by omega) with ⟨h1, h2, a, rfl⟩ | ⟨g, tot, h1, rfl, h2⟩
    · exact .inl ⟨h1, h1, a, rfl⟩
    · exact .inr ⟨g, tot, by rw [hnew]; exact h1, rfl, Nat.le_refl _⟩

variable {c : Cx} {e : Env} {s : List Blk}

/-- slot 't' holds a slice from the head of a block on: the block is told anew as just this slice -/
theorem Shift.trim (t : Tmp) {id len cap es : Nat} {l : List AV} (hv : get e t = .sl id 0 len cap) (hb : s.getD id .dead = .arr es l) (hc : cap = l.length) (hl : len ≤ cap) :
    Shift c e s (put e (some t) (.sl s.length 0 len len)) (s.set id .dead ++ [.arr es (l.take len)]) := by
  rintro a w ⟨hh, ρ, hm, hlt, he, hdf, hsz, hX⟩
  obtain ⟨ρ', m', l', key⟩ := hm.trim (sto_get hb) len
  refine ⟨hh, ρ', m', hlt.trans l', fun t' => ?_, hdf, hsz, c.hx.later hm l' hX⟩
  rw [get_put]
  split
  · rename_i ht
    simp only [Option.some.injEq] at ht
    subst ht
    have := he t
    rw [hv] at this
    exact .leaf ⟨(inv_sl this).1, key _ _ (inv_sl this).2 hc hl⟩
  · exact (he t').mono l'.hle l'.keep
end
end Go.Av
/- slices.Insert and slices.Delete at lists of strings, out of the library's contracts, in the words of plain data; contracts of functions that only make new blocks. Own work of this seat. -/
set_option linter.unusedSimpArgs false
set_option linter.unusedVariables false
namespace Go.Av
open Go Go.RowKit

abbrev strs (l : List (List UInt8)) : List AV := l.map .str
abbrev sval (s : List UInt8) : Value := .string ⟨s.toArray⟩

theorem flat_strs : ∀ l : List (List UInt8), flat (strs l) = strs l
  | [] => rfl
  | x :: r => by simp only [List.map_cons, flat, cellsOf, List.cons_append, List.nil_append]; rw [flat_strs r]

section
variable {h : Mem} {ρ : Own} {sto : List Blk} {w : World} {P : Program}

end
end Go.Av
/- The same state told with fewer blocks: the first ones and one more. Own work of this seat. -/
set_option linter.unusedSimpArgs false
set_option linter.unusedVariables false
namespace Go.Av
open Go Go.RowKit

/-- a block without references -/
def dry : Blk → Bool
  | .arr _ l => (flat l).all frozen
  | .mp es => es.all fun x => frozen x.1 && frozen x.2
  | .dead => true

def okg (n0 id : Nat) (x : AV) : AV → Prop
  | .sl m a b c => (m < n0 ∧ x = .sl m a b c) ∨ (m = n0 ∧ x = .sl id a b c)
  | .ptr m n i o => m < n0 ∧ x = .ptr m n i o
  | v => frozen v = true ∧ x = v
def wkg (n0 id : Nat) (e : Env) : Env → Prop
  | [] => True
  | (t, v) :: r => okg n0 id (get e t) v ∧ wkg n0 id e r

section
variable {h : Mem} {ρ ρ' : Own} {sto sto' : List Blk} {w : World} {P : Program}

theorem OwnB.dry {id id' : Nat} {blk : Blk} (e : ρ' id' = ρ id) (hd : Av.dry blk = true) (o : OwnB h ρ sto w id blk) : OwnB h ρ' sto' w id' blk := by
  cases blk with
  | arr es l =>
    rcases o with ⟨h1, h2⟩ | ⟨g, tot, cur, t, h1, h2, h3, h4, h5, h6, h7, h8, h9⟩
    · exact .inl ⟨h1, e.trans h2⟩
    · exact .inr ⟨g, tot, cur, t, e.trans h1, h2, h3, h4, h5, h6, h7, h8, (frz_all h9 hd).thaw (fun _ _ _ x => x)⟩
  | mp es =>
    obtain ⟨g, en, cl, h1, h2, h3, h4⟩ := o
    refine ⟨g, en, cl, e.trans h1, h2, h3, fun k x y hx hy => ?_⟩
    obtain ⟨p, q⟩ := h4 k x y hx hy
    simp only [Av.dry, List.all_eq_true, Bool.and_eq_true] at hd
    have := hd x (List.mem_of_getElem? hx)
    exact ⟨(frz_one p this.1).thaw (fun _ _ _ x => x), (frz_one q this.2).thaw (fun _ _ _ x => x)⟩
  | dead => exact e.trans o

theorem LfC_at {id id' : Nat} {blk : Blk} (h1 : sto[id]? = some blk) (h2 : sto'[id']? = some blk) (e : ρ' id' = ρ id) {v : Value} {a b c : Nat} (l : LfC ρ sto v (.sl id a b c)) : LfC ρ' sto' v (.sl id' a b c) := by
  simp only [LfC, h1, h2, e] at l ⊢
  exact l
theorem LfC_ptrAt {id id' : Nat} {blk : Blk} (h1 : sto[id]? = some blk) (h2 : sto'[id']? = some blk) (e : ρ' id' = ρ id) {v : Value} {a b c : Nat} (l : LfC ρ sto v (.ptr id a b c)) : LfC ρ' sto' v (.ptr id' a b c) := by
  simp only [LfC, h1, h2, e] at l ⊢
  exact l
def keepρ (ρ : Own) (n0 id : Nat) : Own := fun i => if i < n0 then ρ i else if i = n0 then ρ id else none

theorem Mine.only (m : Mine h ρ sto w) {n0 id : Nat} {blk : Blk} (hid : n0 ≤ id) (hb : sto[id]? = some blk) (hd : dry blk = true) (hall : (sto.take n0).all dry = true) :
    Mine h (keepρ ρ n0 id) (sto.take n0 ++ [blk]) w := by
  have hlt := (List.getElem?_eq_some_iff.1 hb).1
  have hlen : (sto.take n0).length = n0 := by simp; omega
  have hρ : ∀ i g t, keepρ ρ n0 id i = some (g, t) → (i < n0 ∧ ρ i = some (g, t)) ∨ (i = n0 ∧ ρ id = some (g, t)) := by
    intro i g t e
    unfold keepρ at e
    split at e
    · exact .inl ⟨by assumption, e⟩
    · split at e
      · exact .inr ⟨by assumption, e⟩
      · cases e
  refine ⟨m.mem, ?_, ?_, ?_, ?_⟩
  · intro i b e
    by_cases hi : i < n0
    · rw [List.getElem?_append_left (by omega), List.getElem?_take, if_pos hi] at e
      refine (m.own i b e).dry (by simp [keepρ, hi]) ?_
      rw [List.all_eq_true] at hall
      exact hall b (List.mem_of_getElem? (i := i) (by rw [List.getElem?_take, if_pos hi]; exact e))
    · have hl := (List.getElem?_eq_some_iff.1 e).1
      simp at hl
      have : i = n0 := by omega
      subst this
      rw [List.getElem?_append_right (by omega), hlen] at e
      simp at e
      subst e
      exact (m.own id _ hb).dry (by simp [keepρ]) hd
  · intro i hi
    simp at hi
    have h1 : ¬ i < n0 := by omega
    have h2 : ¬ i = n0 := by omega
    simp [keepρ, h1, h2]
  · intro i j g t t' hi hj
    rcases hρ i g t hi with ⟨h1, h2⟩ | ⟨h1, h2⟩ <;> rcases hρ j g t' hj with ⟨h3, h4⟩ | ⟨h3, h4⟩
    · exact m.inj i j g t t' h2 h4
    · have := m.inj i id g t t' h2 h4; omega
    · have := m.inj id j g t t' h2 h4; omega
    · omega
  · intro i g t e
    rcases hρ i g t e with ⟨_, h2⟩ | ⟨_, h2⟩
    · exact m.disj i g t h2
    · exact m.disj id g t h2

variable {c : Cx} {e : Env} {s : List Blk}

theorem wkg_get {n0 id : Nat} {e e' : Env} (h : wkg n0 id e e') (t : Nat) : get e' t = .any ∨ okg n0 id (get e t) (get e' t) := by
  induction e' with
  | nil => exact .inl rfl
  | cons x r ih =>
    obtain ⟨k, v⟩ := x
    simp only [get]
    by_cases hk : k = t
    · subst hk; simp; exact .inr h.1
    · have : (k == t) = false := by simpa using hk
      simp only [this, cond_false]
      exact ih h.2

/-- what a table's other blocks hold is told no more -/
theorem Shift.only (n0 id : Nat) {e' : Env} {blk : Blk} (hc : c.sto.length ≤ n0) (hid : n0 ≤ id) (hb : s.getD id .dead = blk) (hne : id < s.length) (hd : dry blk = true) (hall : (s.take n0).all dry = true) (hw : wkg n0 id e e') :
    Shift c e s e' (s.take n0 ++ [blk]) := by
  rintro a w ⟨hh, ρ, hm, hlt, he, hdf, hsz, hX⟩
  have hb' : s[id]? = some blk := by rw [← hb, List.getD, List.getElem?_eq_getElem hne]; rfl
  have hlen : (s.take n0).length = n0 := by simp; omega
  have hn : (s.take n0 ++ [blk])[n0]? = some blk := by rw [List.getElem?_append_right (by omega), hlen]; simp
  have hlow : ∀ i, i < n0 → (s.take n0 ++ [blk])[i]? = s[i]? := fun i hi => by rw [List.getElem?_append_left (by omega), List.getElem?_take, if_pos hi]
  have hρl : ∀ i, i < n0 → keepρ ρ n0 id i = ρ i := fun i hi => by simp [keepρ, hi]
  have hρn : keepρ ρ n0 id n0 = ρ id := by simp [keepρ]
  have low : ∀ v x, Lf c.ρ c.sto v x → Lf (keepρ ρ n0 id) (s.take n0 ++ [blk]) v x := by
    intro v x lf
    have l2 := hlt.keep v x lf
    refine ⟨lf.1, ?_⟩
    have hx := lf.2
    have l3 := l2.2
    cases x <;> simp only [LfC] at hx l3 ⊢
    · rename_i i o l cp
      cases hq : c.sto[i]? with
      | none => simp [hq] at hx
      | some y =>
        have hi : i < n0 := Nat.lt_of_lt_of_le (List.getElem?_eq_some_iff.1 hq).1 hc
        rw [hlow i hi, hρl i hi]; exact l3
    · rename_i i n j o
      cases hq : c.sto[i]? with
      | none => simp [hq] at hx
      | some y =>
        have hi : i < n0 := Nat.lt_of_lt_of_le (List.getElem?_eq_some_iff.1 hq).1 hc
        rw [hlow i hi, hρl i hi]; exact l3
    · rename_i i
      cases hq : c.sto[i]? with
      | none => simp [hq] at hx
      | some y =>
        have hi : i < n0 := Nat.lt_of_lt_of_le (List.getElem?_eq_some_iff.1 hq).1 hc
        rw [hlow i hi, hρl i hi]; exact l3
  refine ⟨hh, keepρ ρ n0 id, hm.only hid hb' hd hall, ⟨hlt.hle, hlt.hnew, low, hlt.os, hlt.tape, hlt.output, hlt.size, hlt.block, ?_⟩, fun t => ?_, hdf, hsz, c.hx.fewer (fun i g t hi => ?_) hX⟩
  · intro i g t hi
    unfold keepρ at hi
    split at hi
    · exact hlt.newown i g t hi
    · split at hi
      · exact hlt.newown id g t hi
      · cases hi
  rotate_left
  · unfold keepρ at hi
    split at hi
    · exact ⟨i, t, hi⟩
    · split at hi
      · exact ⟨id, t, hi⟩
      · cases hi
  · have hx := he t
    rcases wkg_get hw t with hq | hq
    · rw [hq]; exact .any _
    · generalize Av.get e' t = y at hq ⊢
      have frz : frozen y = true → Av.get e t = y → RV hh (Lf (keepρ ρ n0 id) (s.take n0 ++ [blk])) false (a.tmps.getD t undef) y := fun hf he' => by
        rw [he'] at hx
        exact (frz_one hx hf).thaw (fun _ _ _ x => x)
      cases y <;> simp only [okg] at hq
      case sl i o l cp =>
        rcases hq with ⟨hi, hq⟩ | ⟨hi, hq⟩
        · rw [hq] at hx
          have l := inv_sl hx
          exact .leaf ⟨l.1, LfC_at (blk := s[i]'(by omega)) (List.getElem?_eq_getElem (by omega)) (by rw [hlow i hi]; exact List.getElem?_eq_getElem (by omega)) (hρl i hi) l.2⟩
        · rw [hq] at hx
          have l := inv_sl hx
          subst hi
          exact .leaf ⟨l.1, LfC_at hb' hn hρn l.2⟩
      case ptr i n j o =>
        obtain ⟨hi, hq⟩ := hq
        rw [hq] at hx
        have l := inv_ptr hx
        exact .leaf ⟨l.1, LfC_ptrAt (blk := s[i]'(by omega)) (List.getElem?_eq_getElem (by omega)) (by rw [hlow i hi]; exact List.getElem?_eq_getElem (by omega)) (hρl i hi) l.2⟩
      all_goals exact frz hq.1 hq.2

/-- a function that hands back a slice of new memory, told as one whose result is frozen -/
theorem pc_of_ct {f : FuncId} {args : List AV} {n es : Nat} {l : List AV} (hn : n = l.length) (hf : (flat l).all frozen = true) (hc : Ct P f args [] (fun r s => r = .sl 0 0 n n ∧ s = [.arr es l])) : Pc P f args (· = .fz es l) := by
  subst hn
  refine pc_intro ⟨hc.1, fun h ρ w vs hm hv => (hc.2 h ρ w vs hm hv).mono ?_⟩
  rintro en w' ⟨v, r, s, h', ρ', rfl, ⟨rfl, rfl⟩, m', l', rv⟩
  obtain ⟨h2, ρ2, m2, l2, key⟩ := m'.freeze (id := 0) rfl hf
  have := key v 0 l.length l.length (inv_sl rv).2 (by simp) (Nat.le_refl _)
  rw [List.drop_zero, List.take_length] at this
  exact ⟨v, _, _, h2, ρ2, rfl, ⟨rfl, rfl⟩, m2, l'.trans l2, this⟩
end
end Go.Av
/- Contracts that lean on cells of memory that were there before and stand (variables of the library's). Own work of this seat. -/
set_option linter.unusedSimpArgs false
set_option linter.unusedVariables false
namespace Go.Av
open Go Go.RowKit

/-- whole blocks that stand -/
abbrev Std := Nat → Option Obj
def Stands (g : Std) (w : World) : Prop := ∀ k o, g k = some o → w.heap[k]? = some o
def Le (g : Std) (w : World) (ρ : Own) : Prop := ∀ k o, g k = some o → w.heap[k]? = some o ∧ ∀ i t, ρ i ≠ some (k, t)
theorem Le.later {g : Std} {h h' : Mem} {ρ ρ' : Own} {sto sto' : List Blk} {w w' : World} (a : Le g w ρ) (x : Later h ρ sto w h' ρ' sto' w') : Le g w' ρ' := fun k o e => by
  obtain ⟨h1, h2⟩ := a k o e
  have hk : k < w.heap.size := (Array.getElem?_eq_some_iff.1 h1).1
  refine ⟨(x.block k hk h2).trans h1, fun i t hi => ?_⟩
  rcases x.newown i k t hi with ⟨j, t', hj⟩ | hs
  · exact h2 j t' hj
  · omega

def CtH (P : Program) (g : Std) (f : FuncId) (args : List AV) (sto : List Blk) (post : AV → List Blk → Prop) : Prop :=
  hasBody P f = true ∧ ∀ h ρ w vs, Le g w ρ → Mine h ρ sto w → RL h (Lf ρ sto) false vs args → Calls P f vs.toArray w fun en w' =>
    ∃ v r s h' ρ', en = .returned v ∧ post r s ∧ Mine h' ρ' s w' ∧ Later h ρ sto w h' ρ' s w' ∧ RV h' (Lf ρ' s) false v r

def PcH (P : Program) (g : Std) (f : FuncId) (args : List AV) (post : AV → Prop) : Prop :=
  hasBody P f = true ∧ ∀ h w vs, Stands g w → (∀ b o v, h b o = some v → w.cell? ⟨b, o, none⟩ = some v ∧ v.oneCell' = true) → RL h Lf0 true vs args → Calls P f vs.toArray w fun en w' =>
    ∃ v r h', en = .returned v ∧ post r ∧ (∀ b o v, h' b o = some v → w'.cell? ⟨b, o, none⟩ = some v ∧ v.oneCell' = true) ∧ (∀ b o v, h b o = some v → h' b o = some v) ∧
      (∀ b o, h b o = none → h' b o ≠ none → w.heap.size ≤ b) ∧ Same w w' ∧ RV h' Lf0 true v r

section
variable {P : Program} {g : Std}

theorem Ct.toH {f : FuncId} {args : List AV} {sto : List Blk} {post : AV → List Blk → Prop} (hc : Ct P f args sto post) : CtH P g f args sto post := ⟨hc.1, fun h ρ w vs _ m r => hc.2 h ρ w vs m r⟩
theorem Pc.toH {f : FuncId} {args : List AV} {post : AV → Prop} (hc : Pc P f args post) : PcH P g f args post := ⟨hc.1, fun h w vs _ m r => hc.2 h w vs m r⟩

theorem cthm_intro {f : FuncId} {fn : Func} {body : Code} {N : Nat} {args : List AV} {sto : List Blk} {post : AV → List Blk → Prop} (hf : P.funcs[f]? = some fn) (hb : fn.body = some body) (hn : fn.ntmps = N) (hx : hasBody P f = true)
    (ha : args.length ≤ N) (h : ∀ h ρ w, Le g w ρ → Mine h ρ sto w → AWp ⟨P, fn, h, ρ, sto, w, post, X0, stb0⟩ [.code body] (args0 0 args) sto) : CtH P g f args sto post := by
  refine ⟨hx, fun hh ρ w vs hg hm hv => ?_⟩
  refine calls_of_wp hf hb ?_
  have hlen := hv.length
  have hsim : Sim ⟨P, fn, hh, ρ, sto, w, post, X0, stb0⟩ (args0 0 args) sto { tmps := vs.toArray ++ Array.replicate (fn.ntmps - vs.toArray.size) undef, defers := [] } w := by
    refine ⟨hh, ρ, hm, .refl .., fun t => ?_, rfl, by simp; omega, trivial⟩
    rw [args0_get]
    simp only [Nat.zero_le, if_true, Nat.sub_zero]
    have h1 := hv.getD t undef
    by_cases ht : t < vs.length
    · have : (vs.toArray ++ Array.replicate (fn.ntmps - vs.toArray.size) undef).getD t undef = vs.getD t undef := by
        simp [Array.getElem?_append, ht, List.getD]
      simp only [this]; exact h1
    · have : args.getD t .any = .any := by simp [List.getD, List.getElem?_eq_none (by omega : args.length ≤ t)]
      rw [this]; exact .any _
  have := h hh ρ w hg hm _ w hsim
  refine Code.wp_mono ?_ (show body.wp P (WQ ⟨P, fn, hh, ρ, sto, w, post, X0, stb0⟩ []) _ w from this)
  intro en a' w' hq
  cases en with
  | normal => obtain ⟨hd, v, r, s, h', ρ', h1, h2⟩ := hq; exact ⟨hd, v, h1, v, r, s, h', ρ', rfl, h2⟩
  | ret => obtain ⟨hd, v, r, s, h', ρ', h1, h2⟩ := hq; exact ⟨hd, v, h1, v, r, s, h', ρ', rfl, h2⟩
  | _ => exact hq.elim

theorem cth_intro {f : FuncId} {fn : Func} {body : Code} {N : Nat} {args : List AV} {sto : List Blk} {post : AV → List Blk → Prop} (hf : P.funcs[f]? = some fn) (hb : fn.body = some body) (hn : fn.ntmps = N) (hx : hasBody P f = true)
    (ha : args.length ≤ N) (h : ∀ h ρ w, Le g w ρ → AWp ⟨P, fn, h, ρ, sto, w, post, X0, stb0⟩ [.code body] (args0 0 args) sto) : CtH P g f args sto post := cthm_intro hf hb hn hx ha fun hh ρ w hg _ => h hh ρ w hg

theorem pch_intro {f : FuncId} {args : List AV} {post : AV → Prop} (hc : CtH P g f args [] (fun r _ => post r ∧ nr2 r = true)) : PcH P g f args post := by
  refine ⟨hc.1, fun h w vs hg hm hv => ?_⟩
  have hmine : Mine h (fun _ => none) [] w := ⟨hm, fun id blk e => by simp at e, fun _ _ => rfl, fun i j g t t' e => by simp at e, fun i g t e => by simp at e⟩
  refine (hc.2 h (fun _ => none) w vs (fun k o e => ⟨hg k o e, fun i t hi => by simp at hi⟩) hmine (hv.thaw (fun _ _ _ x => x))).mono ?_
  rintro en w' ⟨v, r, s, h', ρ', rfl, ⟨hp, hn⟩, hm', hl, rv⟩
  exact ⟨v, r, h', rfl, hp, hm'.mem, hl.hle, fun b o e n => by
    rcases hl.hnew b o e n with ⟨j, t, hj⟩ | hs
    · simp at hj
    · exact hs, ⟨hl.os, hl.tape, hl.output, hl.size, fun k hk => hl.block k hk (fun i t e => by simp at e)⟩, nofrz2 rv hn⟩

theorem PcH.cth {f : FuncId} {args : List AV} {post : AV → Prop} (hc : PcH P g f args post) (ha : args.all nr1 = true) (sto : List Blk) : CtH P g f args sto (fun r s => post r ∧ s = sto) := by
  refine ⟨hc.1, fun h ρ w vs hg hm hv => ?_⟩
  refine (hc.2 h w vs (fun k o e => (hg k o e).1) hm.mem (nofrzL hv ha)).mono ?_
  rintro en w' ⟨v, r, h', rfl, hp, hm', hle, hnew, hs, rv⟩
  refine ⟨v, r, sto, h', ρ, rfl, ⟨hp, rfl⟩, ⟨hm', ?_, hm.out, hm.inj, ?_⟩, ⟨hle, fun b o e n => .inr (hnew b o e n), fun _ _ x => x, hs.os, hs.tape, hs.output, hs.size, fun k hk _ => hs.block k hk, fun i _ t x => .inl ⟨i, t, x⟩⟩, rv.thaw (fun _ _ _ x => x)⟩
  · exact fun id blk e => (hm.own id blk e).mono hle (fun _ _ x => x) rfl (fun g t hg => hs.block g (hm.lt hg))
  · intro i g t e o
    have hlt := hm.lt e
    have hd := hm.disj i g t e o
    cases hq : h' g o with
    | none => rfl
    | some v => have := hnew g o hd (by simp [hq]); omega

variable {c : Cx} {k : List It} {e : Env} {s : List Blk}

theorem acallH (hg : Le g c.w c.ρ) {f : FuncId} {args : List AV} {d : Option Tmp} {all os : List Oper} {post : AV → List Blk → Prop} (hc : CtH c.P g f args s post) {N : Nat} (hN : c.fn.ntmps = N) (hd : dOk N d = true)
    (hk : ∀ r s', post r s' → AWp c (.ops all os :: k) (put e d r) s') : ACall c f args d all os k e s := by
  intro a w h ρ vs hm hl he hdf hsz hX hv
  refine ⟨hc.1, (hc.2 h ρ w vs (hg.later hl) hm hv).mono ?_⟩
  rintro en w' ⟨v, r, s', h', ρ', rfl, hp, hm', hlt, rv⟩
  have he' : EnvOk h' ρ' s' e a := fun t => (he t).mono hlt.hle hlt.keep
  exact hk r s' hp _ _ ⟨h', ρ', hm', hl.trans hlt, he'.put (by rw [hsz, hN]; exact hd) rv, by rw [put_defers']; exact hdf, by rw [put_size]; exact hsz, c.hx.later hm hlt hX⟩

theorem pcallH (hg : Le g c.w c.ρ) {f : FuncId} {args : List AV} {d : Option Tmp} {all os : List Oper} {post : AV → Prop} (hc : PcH c.P g f args post) (ha : args.all nr1 = true) {N : Nat} (hN : c.fn.ntmps = N) (hd : dOk N d = true)
    (hk : ∀ r, post r → AWp c (.ops all os :: k) (put e d r) s) : ACall c f args d all os k e s :=
  acallH hg (hc.cth ha s) hN hd fun r s' ⟨hp, hs⟩ => by subst hs; exact hk r hp
theorem pcallH1 (hg : Le g c.w c.ρ) {f : FuncId} {args : List AV} {d : Option Tmp} {all os : List Oper} {r : AV} (hc : PcH c.P g f args (· = r)) (ha : args.all nr1 = true) {N : Nat} (hN : c.fn.ntmps = N) (hd : dOk N d = true)
    (hk : AWp c (.ops all os :: k) (put e d r) s) : ACall c f args d all os k e s :=
  pcallH hg hc ha hN hd fun r' hr => by subst hr; exact hk
theorem PcH.at (hg : Le g c.w c.ρ) {f : FuncId} {args : List AV} {cv : AV} (hc : PcH c.P g f args (· = cv)) : PcAt c f args cv :=
  ⟨hc.1, fun h w vs hb m r => hc.2 h w vs (fun k o e => by
    obtain ⟨h1, h2⟩ := hg k o e
    exact (hb k (Array.getElem?_eq_some_iff.1 h1).1 h2).trans h1) m r⟩
theorem PcH.mono {f : FuncId} {args : List AV} {post post' : AV → Prop} (hc : PcH P g f args post) (hp : ∀ r, post r → post' r) : PcH P g f args post' :=
  ⟨hc.1, fun h w vs hg hm hv => (hc.2 h w vs hg hm hv).mono fun _ _ ⟨v, r, h', a, b, rest⟩ => ⟨v, r, h', a, hp r b, rest⟩⟩

/-- 'Mc', leaning on what stands -/
def McH (P : Program) (g : Std) (f : FuncId) (e : Nat) (agg : AV) (args : List AV) (post : AV → AV → Prop) : Prop :=
  CtH P g f (.ptr 0 1 0 0 :: args) [.arr e [agg]] (fun r s => ∃ agg' junk, s = .arr e [agg'] :: junk ∧ post r agg' ∧ nr2 r = true ∧ nr1 agg' = true)
theorem Mc.toH {f : FuncId} {e : Nat} {agg : AV} {args : List AV} {post : AV → AV → Prop} (hc : Mc P f e agg args post) : McH P g f e agg args post := Ct.toH hc
section
variable {h : Mem} {ρ : Own} {sto : List Blk} {w : World}
theorem McH.ct {f : FuncId} {e : Nat} {agg : AV} {args : List AV} {post : AV → AV → Prop} (hc : McH P g f e agg args post) (ha : args.all nr1 = true) (hg : nr1 agg = true) {id : Nat} (hid : sto[id]? = some (.arr e [agg])) :
    CtH P g f (.ptr id 1 0 0 :: args) sto (fun r s => ∃ agg', post r agg' ∧ nr1 agg' = true ∧ s = sto.set id (.arr e [agg'])) := by
  refine ⟨hc.1, fun h ρ w vs hg0 m hv => ?_⟩
  cases hv with
  | @cons _ v0 _ vs _ r0 rs =>
    have hl := (inv_ptr r0).2
    simp only [LfC, hid] at hl
    obtain ⟨_, gb, tot, h1, h2⟩ := hl.2 rfl
    have hown := m.own id _ hid
    rcases hown with ⟨hn, _⟩ | ⟨g', tot', cur, tt, i3, i4, i5, i6, i7, i8, i9, i10, i11⟩
    · simp at hn
    rw [h1] at i3
    simp only [Option.some.injEq, Prod.mk.injEq] at i3
    obtain ⟨rfl, rfl⟩ := i3
    let ρ0 : Own := fun i => if i = 0 then some (gb, tot) else none
    have hρ0 : ∀ i b t, ρ0 i = some (b, t) → i = 0 ∧ b = gb ∧ t = tot := by
      intro i b t hh
      simp only [ρ0] at hh
      split at hh
      · rename_i hi; simp at hh; exact ⟨hi, hh.1.symm, hh.2.symm⟩
      · simp at hh
    have m0 : Mine h ρ0 [.arr e [agg]] w := by
      refine ⟨m.mem, ?_, ?_, ?_, ?_⟩
      · intro i blk hb
        match i, hb with
        | 0, hb =>
          simp at hb; subst hb
          refine .inr ⟨gb, tot, cur, tt, rfl, i4, i5, i6, i7, i8, i9, i10, ?_⟩
          simp only [flat, List.append_nil] at i11 ⊢
          exact (nr1_cells hg i11 (Lf' := Lf ρ0 [.arr e [agg]])).thaw (fun _ _ _ x => x)
        | i + 1, hb => simp at hb
      · intro i hi
        simp at hi
        simp [ρ0]; omega
      · intro i j b t t' hi hj
        rw [(hρ0 i b t hi).1, (hρ0 j b t' hj).1]
      · intro i b t hi o
        obtain ⟨_, rfl, _⟩ := hρ0 i b t hi
        exact m.disj id _ _ h1 o
    have hp0 : RV h (Lf ρ0 [.arr e [agg]]) false v0 (.ptr 0 1 0 0) := by
      refine .leaf ⟨(inv_ptr r0).1, ?_⟩
      simp only [LfC, List.getElem?_cons_zero]
      exact ⟨by simp, fun _ => ⟨by omega, gb, tot, rfl, h2⟩⟩
    refine (hc.2 h ρ0 w (v0 :: vs) (fun k o e => ⟨(hg0 k o e).1, fun i t hi => by obtain ⟨_, rfl, _⟩ := hρ0 i k t hi; exact (hg0 k o e).2 id tot h1⟩) m0 (.cons hp0 ((nofrzL rs ha (Lf' := Lf ρ0 [.arr e [agg]])).thaw (fun _ _ _ x => x)))).mono ?_
    rintro en w' ⟨v, r, s', h', ρ', rfl, ⟨agg', junk, rfl, hp, hnr, hna⟩, m', l', rv⟩
    have hk1 := l'.keep (.slice (some ⟨gb, 0 * e, none⟩) 1 (tot - 0)) (.sl 0 0 1 1) ⟨rfl, by simp [LfC, ρ0]⟩
    have hρ' : ρ' 0 = some (gb, tot) := by
      have hk := hk1.2
      simp only [LfC, List.getElem?_cons_zero] at hk
      rcases hk.2 (by simp) with ⟨hh, _⟩ | ⟨g', t', e1, e2, _⟩
      · simp at hh
      · simp at e2
        rw [e1, e2.1, e2.2]
    have hset : ∀ v a, Lf ρ sto v a → Lf ρ (sto.set id (.arr e [agg'])) v a := fun v a lf => ⟨lf.1, LfC_set hid (fun _ _ => rfl) (Or.inl ⟨rfl, rfl, rfl⟩ : (_ ∧ _ ∧ _) ∨ _) lf.2⟩
    have hlt := (List.getElem?_eq_some_iff.1 hid).1
    refine ⟨v, r, _, h', ρ, rfl, ⟨agg', hp, hna, rfl⟩, ⟨m'.mem, ?_, ?_, m.inj, ?_⟩, ⟨l'.hle, ?_, hset, l'.os, l'.tape, l'.output, l'.size, ?_, fun i _ t x => .inl ⟨i, t, x⟩⟩, (nofrz2 rv hnr (Lf' := Lf0)).thaw (fun _ _ _ x => x)⟩
    · intro j blk hb
      by_cases hj : j = id
      · subst hj
        simp [hlt] at hb
        subst hb
        rcases m'.own 0 _ rfl with ⟨hn, _⟩ | ⟨g2, tot2, cur2, tt2, k3, k4, k5, k6, k7, k8, k9, k10, k11⟩
        · simp at hn
        rw [hρ'] at k3
        simp only [Option.some.injEq, Prod.mk.injEq] at k3
        obtain ⟨rfl, rfl⟩ := k3
        refine .inr ⟨gb, tot, cur2, tt2, h1, k4, k5, k6, k7, k8, k9, k10, ?_⟩
        simp only [flat, List.append_nil] at k11 ⊢
        exact (nr1_cells hna k11 (Lf' := Lf0)).thaw (fun _ _ _ x => x)
      · rw [List.getElem?_set_ne (Ne.symm hj)] at hb
        refine (m.own j blk hb).mono l'.hle hset rfl (fun gj t hgj => l'.block gj (m.lt hgj) fun i t' hi => ?_)
        obtain ⟨_, rfl, _⟩ := hρ0 i gj t' hi
        exact hj (m.inj j id _ _ _ hgj h1)
    · intro i hi
      simp at hi
      exact m.out i hi
    · intro i gi t hi o
      by_cases hj : i = id
      · subst hj
        rw [h1] at hi
        simp only [Option.some.injEq, Prod.mk.injEq] at hi
        obtain ⟨rfl, rfl⟩ := hi
        exact m'.disj 0 _ _ hρ' o
      · have hd := m.disj i gi t hi o
        cases hq : h' gi o with
        | none => rfl
        | some u =>
          rcases l'.hnew gi o hd (by simp [hq]) with ⟨j, t', hj'⟩ | hs
          · obtain ⟨_, rfl, _⟩ := hρ0 j gi t' hj'
            exact (hj (m.inj i id _ _ _ hi h1)).elim
          · have := m.lt hi; omega
    · intro b o hb hb'
      rcases l'.hnew b o hb hb' with ⟨j, t', hj'⟩ | hs
      · obtain ⟨_, rfl, _⟩ := hρ0 j b t' hj'
        exact .inl ⟨id, _, h1⟩
      · exact .inr hs
    · intro k hk hno
      exact l'.block k hk fun i t hi => by
        obtain ⟨_, rfl, _⟩ := hρ0 i k t hi
        exact hno id _ h1

end
/-- such a call, in a walk -/
theorem mcallH (hg : Le g c.w c.ρ) {f : FuncId} {es : Nat} {agg : AV} {args : List AV} {d : Option Tmp} {all os : List Oper} {post : AV → AV → Prop} (hc : McH c.P g f es agg args post) (ha : args.all nr1 = true) (hgg : nr1 agg = true) {id : Nat} (hid : s[id]? = some (.arr es [agg])) {N : Nat} (hN : c.fn.ntmps = N) (hd : dOk N d = true)
    (hk : ∀ r agg', post r agg' → AWp c (.ops all os :: k) (put e d r) (s.set id (.arr es [agg']))) : ACall c f (.ptr id 1 0 0 :: args) d all os k e s :=
  acallH hg (hc.ct ha hgg hid) hN hd fun r s' ⟨agg', hp, _, hs⟩ => by subst hs; exact hk r agg' hp
end
end Go.Av
/- Results that lie in cells. Own work of this seat. -/
set_option linter.unusedSimpArgs false
set_option linter.unusedVariables false
namespace Go.Av
open Go Go.RowKit

def sideIs : Res → AV → Prop
  | .side p u, v => p ∧ v = u
  | _, _ => False
def ResOk (P : Program) (e : Env) (s : List Blk) : List ResultVar → List AV → Prop
  | [], [] => True
  | .tmp t :: r, v :: l => v = get e t ∧ ResOk P e s r l
  | .cell a t :: r, v :: l => sideIs (xload (P.underlying t) (tsize P t) s (get e a)) v ∧ ResOk P e s r l
  | _, _ => False
def resT : List AV → AV
  | [v] => v
  | l => .tup l

theorem addr_of_load {P : Program} {w : World} {t : TypeId} {u v : Value} (h : (Instr.loadAt t u).run P w = .ok v w) : (do loadVar t (← asAddr u) : Sem Value).run P w = .ok v w := by
  cases u with
  | pointer a =>
    cases a with
    | some a => exact h
    | none => simp [Instr.loadAt, Instr.sureAddr, stuck] at h
  | _ => simp [Instr.loadAt, Instr.sureAddr, stuck] at h

section
variable {c : Cx} {e : Env} {s : List Blk}

def resF (tmps : Array Value) : ResultVar → Sem Value
  | .tmp t => pure (tmps.getD t undef)
  | .cell a t => do loadVar t (← asAddr (tmps.getD a undef))

theorem results_cells {h : Mem} {ρ : Own} {a : Act} {w : World} (m : Mine h ρ s w) (he : EnvOk h ρ s e a) : ∀ {rs : List ResultVar} {vals : List AV}, ResOk c.P e s rs vals →
    ∃ vs : List Value, (rs.mapM (resF a.tmps)).run c.P w = .ok vs w ∧ RL h (Lf ρ s) false vs vals
  | [], [], _ => ⟨[], by rw [List.mapM_nil, Sem.run_pure], .nil⟩
  | .tmp t :: r, v :: l, hv => by
    obtain ⟨rfl, hr⟩ := hv
    obtain ⟨vs, h1, h2⟩ := results_cells m he hr
    refine ⟨a.tmps.getD t undef :: vs, ?_, .cons (he t) h2⟩
    rw [List.mapM_cons, Sem.run_bind]
    simp only [resF, Sem.run_pure, Result.andThen_ok, Sem.run_bind, h1]
  | .cell b t :: r, v :: l, hv => by
    obtain ⟨h0, hr⟩ := hv
    obtain ⟨vs, h1, h2⟩ := results_cells m he hr
    have hl := load_val (P := c.P) (t := t) m (he b)
    unfold sideIs at h0
    revert h0 hl
    cases xload (c.P.underlying t) (tsize c.P t) s (get e b) <;> intro h0 hl <;> try exact h0.elim
    obtain ⟨hp, rfl⟩ := h0
    obtain ⟨u, hu, ru⟩ := hl hp
    have hu' := addr_of_load hu
    refine ⟨u :: vs, ?_, .cons ru h2⟩
    rw [List.mapM_cons, Sem.run_bind]
    have hf : (resF a.tmps (.cell b t)).run c.P w = .ok u w := hu'
    simp only [hf, Result.andThen_ok, Sem.run_bind, h1, Sem.run_pure]
  | [], _ :: _, hv => hv.elim
  | .tmp _ :: _, [], hv => hv.elim
  | .cell _ _ :: _, [], hv => hv.elim

def tupV : List Value → Value
  | [v] => v
  | l => .tuple l.toArray

theorem results_eq {fn : Func} (rs : List ResultVar) (hr : fn.results = rs.toArray) (tmps : Array Value) {P : Program} {w : World} {vs : List Value} (h : (rs.mapM (resF tmps)).run P w = .ok vs w) :
    (results fn tmps).run P w = .ok (tupV vs) w := by
  have e : results fn tmps = (do let vs ← fn.results.mapM (resF tmps); pure (if h : vs.size = 1 then vs[0] else .tuple vs) : Sem Value) := rfl
  rw [e, hr, Sem.run_bind, List.mapM_toArray]
  erw [Sem.run_bind]
  rw [h]
  clear h
  match vs with
  | [] => rfl
  | [v] => rfl
  | v :: u :: r => simp [Result.andThen, Sem.pure, tupV]

theorem aretc (rs : List ResultVar) (hr : c.fn.results = rs.toArray) (vals : List AV) (hv : ResOk c.P e s rs vals) (hp : c.post (resT vals) s) : ARet c e s := by
  rintro a w ⟨hh, ρ, hm, hl, he, hdf, hsz, _⟩
  obtain ⟨vs, h1, h2⟩ := results_cells (c := c) hm he hv
  refine ⟨hdf, tupV vs, resT vals, s, hh, ρ, ?_, hp, hm, hl, ?_⟩
  · exact results_eq rs hr _ h1
  · cases h2 with
    | nil => exact .tup _ _ .nil
    | cons r1 r2 =>
      cases r2 with
      | nil => exact r1
      | cons r2 r3 => exact .tup _ _ (.cons r1 (.cons r2 r3))
end
end Go.Av
/- A strings.Builder beside the table: its two blocks are nobody's; what it holds is said of the world. Own work of this seat. -/
set_option linter.unusedSimpArgs false
set_option linter.unusedVariables false
namespace Go.Av
open Go Go.RowKit

/-- all stands but block b and, where there is one, block r -/
structure Fr (w w' : World) (b : Nat) (r : Option Nat) : Prop where
  os : w'.os = w.os
  tape : w'.tape = w.tape
  output : w'.output = w.output
  size : w.heap.size ≤ w'.heap.size
  block : ∀ k, k < w.heap.size → k ≠ b → some k ≠ r → w'.heap[k]? = w.heap[k]?

def Lone (h : Mem) (ρ : Own) (b : Nat) : Prop := (∀ i t, ρ i ≠ some (b, t)) ∧ ∀ o, h b o = none
def rowOf (w : World) (b : Nat) : Option Nat := (w.cell? ⟨b, 1, none⟩).bind Value.ownBlock

/-- the builder's block b holds these bytes -/
def BldA (T e : TypeId) (B b : Nat) (l : List UInt8) (h : Mem) (ρ : Own) (w : World) : Prop :=
  Lib.IsBuilder T e B b (Lib.byteCells l) w ∧ Lone h ρ b ∧ ∀ r, rowOf w b = some r → Lone h ρ r

section
variable {h h' : Mem} {ρ ρ' : Own} {sto sto' : List Blk} {w w' : World} {T e : TypeId} {B b : Nat} {l : List UInt8}

theorem Lone.later (m : Mine h ρ sto w) (x : Later h ρ sto w h' ρ' sto' w') {k : Nat} (hk : k < w.heap.size) (a : Lone h ρ k) : Lone h' ρ' k := by
  refine ⟨fun i t hi => ?_, fun o => ?_⟩
  · rcases x.newown i k t hi with ⟨j, t', hj⟩ | hs
    · exact a.1 j t' hj
    · omega
  · cases hq : h' k o with
    | none => rfl
    | some v =>
      rcases x.hnew k o (a.2 o) (by simp [hq]) with ⟨j, t', hj⟩ | hs
      · exact (a.1 j t' hj).elim
      · omega

/-- what a builder is, taken apart -/
theorem bld_parts (hb : Lib.IsBuilder T e B b (Lib.byteCells l) w) : ∃ p v, (p = .pointer none ∨ p = .pointer (some ⟨b, 0, none⟩)) ∧ B ≤ b ∧ w.heap[b]? = some (.cells #[p, v] T (0, 0)) ∧ w.ownsRow B e 1 v (Lib.byteCells l).length (Lib.byteCells l) ∧ v.ownBlock ≠ some b ∧
    rowOf w b = v.ownBlock := by
  rcases hb with ⟨h1, v, h2, h3, h4⟩ | ⟨h1, v, h2, h3, h4⟩
  · exact ⟨_, v, .inl rfl, h1, h2, h3, h4, by simp [rowOf, World.cell?, h2]⟩
  · exact ⟨_, v, .inr rfl, h1, h2, h3, h4, by simp [rowOf, World.cell?, h2]⟩

theorem bld_of {p v : Value} (hp : p = .pointer none ∨ p = .pointer (some ⟨b, 0, none⟩)) (h1 : B ≤ b) (h2 : w.heap[b]? = some (.cells #[p, v] T (0, 0))) (h3 : w.ownsRow B e 1 v (Lib.byteCells l).length (Lib.byteCells l)) (h4 : v.ownBlock ≠ some b) :
    Lib.IsBuilder T e B b (Lib.byteCells l) w := by
  rcases hp with rfl | rfl
  · exact .inl ⟨h1, v, h2, h3, h4⟩
  · exact .inr ⟨h1, v, h2, h3, h4⟩

theorem ownsRow_same {v : Value} {n : Nat} {xs : List Value} (hr : ∀ k, v.ownBlock = some k → w'.heap[k]? = w.heap[k]?) (x : w.ownsRow B e 1 v n xs) : w'.ownsRow B e 1 v n xs := by
  refine ⟨x.1, ?_⟩
  rcases x.2 with h | ⟨g, cap, cur, rfl, h2, h3, h4⟩
  · exact .inl h
  · exact .inr ⟨g, cap, cur, rfl, h2, (hr g rfl).trans h3, h4⟩

theorem bld_stb (T e : TypeId) (B b : Nat) (l : List UInt8) : Stb (BldA T e B b l) where
  later := by
    rintro h ρ sto w h' ρ' sto' w' m x ⟨h1, h2, h3⟩
    obtain ⟨p, v, p1, p2, p3, p4, p5, p6⟩ := bld_parts h1
    have hb : b < w.heap.size := (Array.getElem?_eq_some_iff.1 p3).1
    have hrow : ∀ k, v.ownBlock = some k → k < w.heap.size ∧ Lone h ρ k := fun k hk => ⟨(p4.lt k hk).2, h3 k (by rw [p6]; exact hk)⟩
    have e1 : w'.heap[b]? = w.heap[b]? := x.block b hb h2.1
    have e2 : ∀ k, v.ownBlock = some k → w'.heap[k]? = w.heap[k]? := fun k hk => x.block k (hrow k hk).1 (hrow k hk).2.1
    have p3' := e1.trans p3
    refine ⟨bld_of p1 p2 p3' (ownsRow_same e2 p4) p5, h2.later m x hb, fun r hr => ?_⟩
    have : rowOf w' b = v.ownBlock := by simp [rowOf, World.cell?, p3']
    rw [this] at hr
    exact (hrow r hr).2.later m x (hrow r hr).1
  fewer := by
    rintro h ρ ρ' w hf ⟨h1, h2, h3⟩
    have key : ∀ k, Lone h ρ k → Lone h ρ' k := fun k a => ⟨fun i t hi => by
      obtain ⟨j, t', hj⟩ := hf i k t hi
      exact a.1 j t' hj, a.2⟩
    exact ⟨h1, key b h2, fun r hr => key r (h3 r hr)⟩

theorem WQ_x (c : Cx) (x : Mem → Own → World → Prop) (hx : Stb x) : ∀ k, WQ { c with x := x, hx := hx } k = WQ c k
  | [] => by funext ex a w; cases ex <;> rfl
  | y :: k => by
    have ih := WQ_x c x hx k
    funext ex a w
    cases ex <;> cases y <;> simp only [WQ, ih]

variable {c : Cx} {k : List It} {en : Env} {s : List Blk}

/-- a builder is made -/
theorem bstart {o : Oper} {all os : List Oper} {t : Tmp} {i : TypeInfo} (ho : o.op = .alloc T) (hg : o.guard = none) (hd : o.dst = some t) {N : Nat} (hN : c.fn.ntmps = N) (hdt : t < N) (hi : c.P.info? T = some i)
    (hz : i.zero = some (.agg #[.pointer none, .slice none 0 0])) (e : TypeId)
    (hk : ∀ b, c.w.heap.size ≤ b → AWp { c with x := BldA T e c.w.heap.size b [], hx := bld_stb T e c.w.heap.size b [] } (.ops all os :: k) (put en (some t) (.raw (.pointer (some ⟨b, 0, none⟩)))) s) :
    AWp c (.ops all (o :: os) :: k) en s := by
  rintro a w ⟨h, ρ, hm, hl, he, hdf, hsz, hX⟩
  have hr : (execOp a.eval o).run c.P w = .ok (.value (.pointer (some ⟨w.heap.size, 0, none⟩))) (w.alloc (.cells #[.pointer none, .slice none 0 0] T)) := by
    simp [execOp, ho, Instr.alloc, zeroValue, typeInfo, hi, hz, newVar, newRow, Value.cells]
  have sm := Same.alloc w (.cells #[.pointer none, .slice none 0 0] T)
  have hb : (w.alloc (.cells #[.pointer none, .slice none 0 0] T)).heap[w.heap.size]? = some (.cells #[.pointer none, .slice none 0 0] T (0, 0)) := heap_alloc_new w _
  have hlone : Lone h ρ w.heap.size := ⟨fun i t hi => by have := hm.lt hi; omega, fun o => by
    cases hq : h w.heap.size o with
    | none => rfl
    | some v => have := hm.memlt hq; omega⟩
  have hbld : BldA T e c.w.heap.size w.heap.size [] h ρ (w.alloc (.cells #[.pointer none, .slice none 0 0] T)) := by
    refine ⟨bld_of (.inl rfl) hl.size hb ⟨rfl, .inl ⟨rfl, rfl⟩⟩ (by simp [Value.ownBlock]), hlone, fun r hr => ?_⟩
    have h0 : rowOf (w.alloc (.cells #[.pointer none, .slice none 0 0] T)) w.heap.size = none := by
      simp only [rowOf, World.cell?, hb]; rfl
    rw [h0] at hr
    cases hr
  have := hk w.heap.size hl.size (a.put (some t) (.pointer (some ⟨w.heap.size, 0, none⟩))) (w.alloc (.cells #[.pointer none, .slice none 0 0] T))
    ⟨h, ρ, hm.same sm, hl.trans (Later.same sm), he.put (by rw [hsz, hN]; simpa [dOk] using hdt) (.raw _), by rw [put_defers']; exact hdf, by rw [put_size]; exact hsz, hbld⟩
  rw [WQ_x] at this
  show wpList c.P all.toArray (WQ c k) (o :: os) a w
  unfold wpList
  rw [if_pos (by simp [Region.wanted, hg])]
  refine .inl ?_
  unfold Oper.wp
  rw [hr]
  show wpList c.P all.toArray (WQ c k) os (a.put o.dst _) _
  rw [hd]
  exact this

theorem Mine.fr (m : Mine h ρ sto w) {r : Option Nat} (f : Fr w w' b r) (hb : Lone h ρ b) (hr : ∀ k, r = some k → Lone h ρ k) : Mine h ρ sto w' := by
  have hne : ∀ k, (∃ i t, ρ i = some (k, t)) ∨ (∃ o v, h k o = some v) → k ≠ b ∧ some k ≠ r := by
    intro k hk
    refine ⟨fun e => ?_, fun e => ?_⟩
    · subst e
      rcases hk with ⟨i, t, hi⟩ | ⟨o, v, ho⟩
      · exact hb.1 i t hi
      · rw [hb.2 o] at ho; cases ho
    · have hl := hr k e.symm
      rcases hk with ⟨i, t, hi⟩ | ⟨o, v, ho⟩
      · exact hl.1 i t hi
      · rw [hl.2 o] at ho; cases ho
  refine ⟨fun k o v e => ?_, fun id blk e => ?_, m.out, m.inj, m.disj⟩
  · obtain ⟨h1, h2⟩ := hne k (.inr ⟨o, v, e⟩)
    exact ⟨(World.cell?_of_block (f.block k (m.memlt e) h1 h2)).trans (m.mem k o v e).1, (m.mem k o v e).2⟩
  · exact (m.own id blk e).mono (fun _ _ _ x => x) (fun _ _ x => x) rfl (fun g t hg => f.block g (m.lt hg) (hne g (.inl ⟨id, t, hg⟩)).1 (hne g (.inl ⟨id, t, hg⟩)).2)

/-- WriteString -/
def WriteC (P : Program) (f : FuncId) (T e : TypeId) : Prop := hasBody P f = true ∧ ∀ (B b : Nat) (bs : List Value) (s : ByteArray) (w : World), Lib.IsBuilder T e B b bs w → bs.length + s.size ≤ 140737488355328 → B ≤ w.heap.size →
  Calls P f #[.pointer (some ⟨b, 0, none⟩), .string s] w fun en w' => en = .returned (.tuple #[.int .i64 s.size, .nilIface]) ∧ Lib.BuilderAt T e B b (.pointer (some ⟨b, 0, none⟩)) (bs ++ Lib.strCells s) w' ∧ Fr w w' b (rowOf w b) ∧
    ∀ r, rowOf w' b = some r → rowOf w b = some r ∨ w.heap.size ≤ r

theorem bwrite {f : FuncId} (hw : WriteC c.P f T e) {x : List UInt8} {d : Option Tmp} {all os : List Oper} (hx : c.x = BldA T e B b l) (hB : B = c.w.heap.size) {N : Nat} (hN : c.fn.ntmps = N) (hd : dOk N d = true) (hlen : l.length + x.length ≤ 140737488355328)
    (hk : AWp { c with x := BldA T e B b (l ++ x), hx := bld_stb T e B b (l ++ x) } (.ops all os :: k) (put en d (.tup [.int .i64 x.length, .raw .nilIface])) s) :
    ACall c f [.raw (.pointer (some ⟨b, 0, none⟩)), .str x] d all os k en s := by
  intro a w h ρ vs hm hl he hdf hsz hX hv
  rw [hx] at hX
  obtain ⟨h1, h2, h3⟩ := hX
  refine ⟨hw.1, ?_⟩
  have hvs : vs = [.pointer (some ⟨b, 0, none⟩), .string ⟨x.toArray⟩] := by
    cases hv with | cons r1 r2 => cases r2 with | cons r2 r3 => cases r3; rw [inv_raw r1, inv_str r2]
  subst hvs
  obtain ⟨p, v, p1, p2, p3, p4, p5, p6⟩ := bld_parts h1
  refine (hw.2 B b _ ⟨x.toArray⟩ w h1 (by rw [Lib.byteCells_length]; exact hlen) (by have := hl.size; omega)).mono ?_
  rintro en' w' ⟨rfl, hb, hf, hnew⟩
  have hm' := hm.fr hf h2 h3
  have hrow : ∀ r, rowOf w b = some r → B ≤ r := fun r hr => by rw [p6] at hr; exact (p4.lt r hr).1
  have hl' : Later c.h c.ρ c.sto c.w h ρ s w' := ⟨hl.hle, hl.hnew, hl.keep, hf.os.trans hl.os, hf.tape.trans hl.tape, hf.output.trans hl.output, Nat.le_trans hl.size hf.size, fun k' hk' hno => by
    rw [hf.block k' (Nat.lt_of_lt_of_le hk' hl.size) (by omega) (fun e => by have := hrow k' e.symm; omega)]
    exact hl.block k' hk' hno, hl.newown⟩
  have hcells : Lib.byteCells l ++ Lib.strCells ⟨x.toArray⟩ = Lib.byteCells (l ++ x) := by simp [Lib.byteCells, Lib.strCells]
  rw [hcells] at hb
  have hbd : BldA T e B b (l ++ x) h ρ w' := by
    have hbi : Lib.IsBuilder T e B b (Lib.byteCells (l ++ x)) w' := .inr hb
    obtain ⟨p', v', q1, q2, q3, q4, q5, q6⟩ := bld_parts hbi
    refine ⟨hbi, h2, fun r hr => ?_⟩
    rcases hnew r hr with hold | hrs
    · exact h3 r hold
    · exact ⟨fun i t hi => by have := hm.lt hi; omega, fun o => by
        cases hq : h r o with
        | none => rfl
        | some v => have := hm.memlt hq; omega⟩
  have := hk (a.put d _) w' ⟨h, ρ, hm', hl', he.put (by rw [hsz, hN]; exact hd) (.tup _ _ (.cons (.int _ _) (.cons (.raw _) .nil))), by rw [put_defers']; exact hdf, by rw [put_size]; exact hsz, hbd⟩
  rw [WQ_x] at this
  exact this

/-- String, behind which nothing but its result is spoken of -/
def StringC (P : Program) (f : FuncId) (T e : TypeId) : Prop := hasBody P f = true ∧ ∀ (B b : Nat) (l : List UInt8) (w : World), Lib.IsBuilder T e B b (Lib.byteCells l) w → B ≤ w.heap.size →
  Calls P f #[.pointer (some ⟨b, 0, none⟩)] w fun en w' => en = .returned (.string ⟨l.toArray⟩) ∧ Below B w w'

theorem bstring {f : FuncId} (hw : StringC c.P f T e) {d : Option Tmp} {all os : List Oper} (hx : c.x = BldA T e B b l) (hB : B = c.w.heap.size) (hs0 : c.sto = []) (hm0 : Mine c.h c.ρ c.sto c.w) {N : Nat} (hN : c.fn.ntmps = N) (hd : dOk N d = true)
    (hk : AWp { c with x := X0, hx := stb0 } (.ops all os :: k) (put [] d (.str l)) []) :
    ACall c f [.raw (.pointer (some ⟨b, 0, none⟩))] d all os k en s := by
  intro a w h ρ vs hm hl he hdf hsz hX hv
  rw [hx] at hX
  obtain ⟨h1, h2, h3⟩ := hX
  refine ⟨hw.1, ?_⟩
  have hvs : vs = [.pointer (some ⟨b, 0, none⟩)] := by
    cases hv with | cons r1 r2 => cases r2; rw [inv_raw r1]
  subst hvs
  refine (hw.2 B b l w h1 (by have := hl.size; omega)).mono ?_
  rintro en' w' ⟨rfl, hb⟩
  have hρ0 : ∀ i, c.ρ i = none := fun i => hm0.out i (by rw [hs0]; simp)
  have hcell : ∀ k', k' < c.w.heap.size → w'.heap[k']? = c.w.heap[k']? := fun k' hk' => by
    rw [hb.block k' (by omega)]
    exact hl.block k' hk' (fun i t hi => by rw [hρ0 i] at hi; cases hi)
  have hmine : Mine c.h (fun _ => none) [] w' := by
    refine ⟨fun k' o v e' => ?_, fun id blk e' => by simp at e', fun _ _ => rfl, fun i j g t t' e' => by simp at e', fun i g t e' => by simp at e'⟩
    exact ⟨(World.cell?_of_block (hcell k' (hm0.memlt e'))).trans (hm0.mem k' o v e').1, (hm0.mem k' o v e').2⟩
  have hlat : Later c.h c.ρ c.sto c.w c.h (fun _ => none) [] w' := by
    refine ⟨fun _ _ _ x => x, fun _ _ x y => (y x).elim, fun v x lf => ?_, hb.os.trans hl.os, hb.tape.trans hl.tape, hb.output.trans hl.output, Nat.le_trans hl.size hb.size, fun k' hk' _ => hcell k' hk', fun i g t e' => by simp at e'⟩
    have := lf.2
    rw [hs0] at this
    cases x <;> simp [LfC] at this
  have := hk (a.put d (.string ⟨l.toArray⟩)) w' ⟨c.h, fun _ => none, hmine, hlat, ?_, by rw [put_defers']; exact hdf, by rw [put_size]; exact hsz, trivial⟩
  · rw [WQ_x] at this
    exact this
  · have he0 : EnvOk c.h (fun _ => none) [] [] a := fun t => .any _
    exact he0.put (by rw [hsz, hN]; exact hd) (.str _)
end

/-- .. and its end, where what is said of the world has changed -/
theorem aagain_x {c0 c : Cx} {B : Code} {k : List It} {e : Env} {s : List Blk} (hc : c = { c0 with x := c.x, hx := c.hx }) (h : AHd c B k e s) : AWp c (.inv (Hd c0.P B (WQ c0 k)) :: k) e s := fun a w hs => by
  have h1 := h a w hs
  have e1 : WQ c k = WQ c0 k := by rw [hc]; exact WQ_x c0 c.x c.hx k
  have e2 : c.P = c0.P := by rw [hc]
  rw [e1, e2] at h1
  exact h1
end Go.Av
