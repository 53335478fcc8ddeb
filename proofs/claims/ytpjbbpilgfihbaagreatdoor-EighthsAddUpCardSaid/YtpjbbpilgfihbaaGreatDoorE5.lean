/- The walk within a round of a range over a function, and behind such a range. Own work of this seat (written by a program out of AvH, AvJ, AvJi, AvY). -/
import Derived.Test.YtpjbbpilgfihbaaGreatDoorE4
import Derived.RangeFuncRecord
import Derived.RangeFuncIn
import Derived.Sort.LoopGhostIn
import Derived.OrdersIn
import Derived.TacticsIn
import Derived.RangeFuncLeaves
import Derived.RangeFuncOwn
import Derived.Test.YtpjbbpilgfihbaaGreatDoorE3
import Derived.Lib.Builder
import Derived.Lib.AppendStr
import Derived.Lib.UnsafeStr
import Derived.WalkKit
set_option linter.unusedSimpArgs false
set_option linter.unusedVariables false
namespace Go.Av
open Go Go.RowKit

/-- a round's frame (or one behind a range): 'rd' the loop's record, 'df' the calls deferred, 'out' what is asked where the code is left -/
structure Cr where
  c : Cx
  rd : Option Nat
  df : List Deferred
  out : Exit → Act → World → Prop
def Cr.F (r : Cr) : Fence := { fn := fun _ => True, depth := none, alive := false, round := r.rd }
theorem calls_r {rd : Option Nat} {n : Nat} {P : Program} {f : FuncId} {args : Array Value} {w : World} {R : Ending → World → Prop} (h : Calls P f args w R) : CallsIn { fn := fun _ => True, depth := none, alive := false, round := rd } n P f args w R := (callsIn_wide (n := n)).2 h

def WQg (F : Fence) (P : Program) (N : Nat) (out : Exit → Act → World → Prop) : List It → Exit → Act → World → Prop
  | [], e, a, w => out e a w
  | x :: k, e, a, w => match e with
    | .normal => match x with
      | .ops all rest => wpListIn F 0 P all.toArray (WQg F P N out k) rest a w
      | .op all o rest => dOk N o.dst = true → o.wpIn F 0 P a w (wpListIn F 0 P all.toArray (WQg F P N out k) rest) (WQg F P N out k)
      | .code y => y.wpIn F 0 P (WQg F P N out k) a w
      | .blk _ => WQg F P N out k .normal a w
      | .inv J => J a w
    | .exit id => match x with
      | .blk i => if id = i then WQg F P N out k .normal a w else WQg F P N out k (.exit id) a w
      | _ => WQg F P N out k (.exit id) a w
    | e => WQg F P N out k e a w
@[reducible] def WQr (r : Cr) : List It → Exit → Act → World → Prop := WQg r.F r.c.P r.c.fn.ntmps r.out

def SimR (r : Cr) (e : Env) (s : List Blk) (a : Act) (w : World) : Prop :=
  ∃ h ρ, Mine h ρ s w ∧ Later r.c.h r.c.ρ r.c.sto r.c.w h ρ s w ∧ EnvOk h ρ s e a ∧ a.defers = r.df ∧ a.tmps.size = r.c.fn.ntmps ∧ r.c.x h ρ w
theorem SimR.sim {r : Cr} {e : Env} {s : List Blk} {a : Act} {w : World} (h : SimR r e s a w) : Sim r.c e s { a with defers := [] } w := by
  obtain ⟨h, ρ, a1, a2, a3, a4, a5, a6⟩ := h
  exact ⟨h, ρ, a1, a2, a3, rfl, a5, a6⟩
theorem Sim.simR {r : Cr} {e : Env} {s : List Blk} {a : Act} {w : World} (hd : a.defers = r.df) (h : Sim r.c e s { a with defers := [] } w) : SimR r e s a w := by
  obtain ⟨h, ρ, a1, a2, a3, a4, a5, a6⟩ := h
  exact ⟨h, ρ, a1, a2, a3, hd, a5, a6⟩
theorem Shift.r {r : Cr} {e e' : Env} {s s' : List Blk} (x : Shift r.c e s e' s') {a : Act} {w : World} (h : SimR r e s a w) : SimR r e' s' a w := by
  have hd : a.defers = r.df := by obtain ⟨_, _, _, _, _, hd, _⟩ := h; exact hd
  exact Sim.simR hd (x _ _ h.sim)

def AWpR (r : Cr) (k : List It) (e : Env) (s : List Blk) : Prop := ∀ a w, SimR r e s a w → WQr r k .normal a w
def AOut (r : Cr) (x : Exit) (e : Env) (s : List Blk) : Prop := ∀ a w, SimR r e s a w → r.out x a w
def ACallR (r : Cr) (f : FuncId) (args : List AV) (d : Option Tmp) (all os : List Oper) (k : List It) (e : Env) (s : List Blk) : Prop :=
  ∀ a w h ρ vs, Mine h ρ s w → Later r.c.h r.c.ρ r.c.sto r.c.w h ρ s w → EnvOk h ρ s e a → a.defers = r.df → a.tmps.size = r.c.fn.ntmps → r.c.x h ρ w → RL h (Lf ρ s) false vs args →
    hasBody r.c.P f = true ∧ Calls r.c.P f vs.toArray w fun en w' => match en with
      | .returned v => WQr r (.ops all os :: k) .normal (a.put d v) w'
      | _ => False

def resNR (r : Cr) (o : Oper) (all os : List Oper) (k : List It) (e : Env) (s : List Blk) : Res → Nx
  | .ok v => .go (.ops all os :: k) (put e o.dst v) s
  | .side p v => .side p (.ops all os :: k) (put e o.dst v) s
  | .sto p v s' => .side p (.ops all os :: k) (put e o.dst v) s'
  | .pick b x y => .two b (.ops all os :: k) (put e o.dst x) s (.ops all os :: k) (put e o.dst y) s
  | .call f args => .leaf (ACallR r f args o.dst all os k e s)
  | .anyb p => .leaf (p ∧ ∀ b, AWpR r (.ops all os :: k) (put e o.dst (.bool b)) s)
  | .stuck => .leaf (AWpR r (.op all o os :: k) e s)
def stopNR (r : Cr) (k : List It) (e : Env) (s : List Blk) : Nx := .leaf (AWpR r k e s)
def exitNR (r : Cr) (id : Nat) (e : Env) (s : List Blk) : Option (List It) → Nx
  | some k => .go k e s
  | none => .leaf (AOut r (.exit id) e s)
def step1R (wr frz : Bool) (N : Nat) (r : Cr) (k : List It) (e : Env) (s : List Blk) : Nx :=
  match k with
  | .ops _ [] :: k => .go k e s
  | .ops all (o :: os) :: k => bif dOk N o.dst then opN o all os k e s o.guard else .leaf False
  | .op all o os :: k => resNR r o all os k e s (xop wr frz r.c.P e s o.op)
  | .code .skip :: k => .go k e s
  | .code (.region id ops draw) :: k => bif draw then stopNR r (.code (.region id ops true) :: k) e s else .go (.ops ops.toList ops.toList :: k) e s
  | .code (.seq a b) :: k => .go (.code a :: .code b :: k) e s
  | .code (.cond x a b) :: k => condN a b k e s (ev e x)
  | .code (.block id x) :: k => .go (.code x :: .blk id :: k) e s
  | .code (.exit id) :: k => exitNR r id e s (exitIt id k)
  | .code .ret :: _ => .leaf (AOut r .ret e s)
  | .code x :: k => stopNR r (.code x :: k) e s
  | .blk _ :: k => .go k e s
  | .inv J :: k => stopNR r (.inv J :: k) e s
  | [] => .leaf (AOut r .normal e s)

mutual
def runR (wr frz : Bool) (N : Nat) (c : Cr) : Nat → List It → Env → List Blk → Prop
  | 0, k, e, s => AWpR c k e s
  | n + 1, k, e, s => contR wr frz N c n (step1R wr frz N c k e s)
def contR (wr frz : Bool) (N : Nat) (c : Cr) : Nat → Nx → Prop
  | n, .go k e s => runR wr frz N c n k e s
  | n, .two b k e s k' e' s' => brR wr frz N c n b k e s k' e' s'
  | n, .side p k e s => p ∧ runR wr frz N c n k e s
  | _, .leaf p => p
def brR (wr frz : Bool) (N : Nat) (c : Cr) : Nat → Bool → List It → Env → List Blk → List It → Env → List Blk → Prop
  | 0, b, k, e, s, k', e', s' => (b = true → AWpR c k e s) ∧ (b = false → AWpR c k' e' s')
  | n + 1, b, k, e, s, k', e', s' => (b = true → runR wr frz N c n k e s) ∧ (b = false → runR wr frz N c n k' e' s')
end
theorem brR_true {wr frz : Bool} {N : Nat} {c : Cr} {n : Nat} {k e s k' e' s'} : brR wr frz N c (n + 1) true k e s k' e' s' = runR wr frz N c n k e s := by rw [brR]; simp
theorem brR_false {wr frz : Bool} {N : Nat} {c : Cr} {n : Nat} {k e s k' e' s'} : brR wr frz N c (n + 1) false k e s k' e' s' = runR wr frz N c n k' e' s' := by rw [brR]; simp

def Nx.semR (c : Cr) : Nx → Prop
  | .go k e s => AWpR c k e s
  | .two b k e s k' e' s' => (b = true → AWpR c k e s) ∧ (b = false → AWpR c k' e' s')
  | .side p k e s => p ∧ AWpR c k e s
  | .leaf p => p

section
variable {r : Cr} {k : List It} {e : Env} {s : List Blk}

theorem exit_okR {id : Nat} : ∀ {k k' : List It}, exitIt id k = some k' → ∀ a w, WQr r k' .normal a w → WQr r k (.exit id) a w
  | [], _, h, _, _, _ => by simp [exitIt] at h
  | x :: k, k', h, a, w, hw => by
    cases x with
    | blk i =>
      simp only [exitIt] at h
      simp only [WQr, WQg]
      by_cases hi : id = i
      · subst hi
        simp at h; subst h
        simp only [if_true]; exact hw
      · have : (id == i) = false := by simpa using hi
        simp only [this, cond_false] at h
        rw [if_neg hi]
        exact exit_okR h a w hw
    | ops _ _ => exact exit_okR (k := k) h a w hw
    | op _ _ _ => exact exit_okR (k := k) h a w hw
    | code _ => exact exit_okR (k := k) h a w hw
    | inv _ => exact exit_okR (k := k) h a w hw
theorem exit_outR {id : Nat} : ∀ {k : List It}, exitIt id k = none → ∀ a w, r.out (.exit id) a w → WQr r k (.exit id) a w
  | [], _, _, _, hw => hw
  | x :: k, h, a, w, hw => by
    cases x with
    | blk i =>
      simp only [exitIt] at h
      simp only [WQr, WQg]
      by_cases hi : id = i
      · subst hi
        simp at h
      · have : (id == i) = false := by simpa using hi
        simp only [this, cond_false] at h
        rw [if_neg hi]
        exact exit_outR h a w hw
    | ops _ _ => exact exit_outR (k := k) h a w hw
    | op _ _ _ => exact exit_outR (k := k) h a w hw
    | code _ => exact exit_outR (k := k) h a w hw
    | inv _ => exact exit_outR (k := k) h a w hw
theorem ret_okR : ∀ {k : List It} {a w}, r.out .ret a w → WQr r k .ret a w
  | [], _, _, h => h
  | _ :: k, _, _, h => ret_okR (k := k) h
theorem xop_defer {wr frz : Bool} {P : Program} {e : Env} {s : List Blk} {o : Op} (h : xop wr frz P e s o ≠ .stuck) : ∀ c, o ≠ .defer c := fun c hc => h (by rw [hc]; rfl)

/-- behind an operation -/
theorem okv_goR {h : Mem} {ρ : Own} {w : World} {a : Act} {o : Oper} {v : AV} {s' : List Blk} {all os : List Oper} (hl : Later r.c.h r.c.ρ r.c.sto r.c.w h ρ s w) (he : EnvOk h ρ s e a) (hdf : a.defers = r.df) (hsz : a.tmps.size = r.c.fn.ntmps) (hm0 : Mine h ρ s w) (hX : r.c.x h ρ w)
    (hnd : ∀ c, o.op ≠ .defer c) (hd : dOk r.c.fn.ntmps o.dst = true) (ok : Okv h ρ s w ((execOp a.eval o).run r.c.P w) v s') (hk : AWpR r (.ops all os :: k) (put e o.dst v) s') : WQr r (.op all o os :: k) .normal a w := by
  obtain ⟨u, w', h', ρ', hr, hm, hlt, rv⟩ := ok
  have he' : EnvOk h' ρ' s' e a := fun t => (he t).mono hlt.hle hlt.keep
  have hsim : SimR r (put e o.dst v) s' (a.put o.dst u) w' := ⟨h', ρ', hm, hl.trans hlt, he'.put (by rw [hsz]; exact hd) rv, by rw [put_defers']; exact hdf, by rw [put_size]; exact hsz, r.c.hx.later hm0 hlt hX⟩
  have := hk _ _ hsim
  show _ → o.wpIn r.F 0 r.c.P a w (wpListIn r.F 0 r.c.P all.toArray (WQr r k) os) (WQr r k)
  intro _
  unfold Oper.wpIn
  refine ⟨fun _ _ => trivial, ?_⟩
  rw [Oper.semAt_eq _ _ _ hnd]
  rcases hr with hr | ⟨hr, hu⟩
  · rw [hr]; exact this
  · rw [hr]; subst hu; exact this

theorem step1R_sound {wr frz : Bool} (h : (step1R wr frz r.c.fn.ntmps r k e s).semR r) : AWpR r k e s := by
  intro a w hsim
  have hsim' := hsim
  obtain ⟨hh, ρ, hm, hl, he, hdf, hsz, hX⟩ := hsim'
  unfold step1R at h
  split at h
  · exact (h a w hsim : WQr r _ .normal a w)
  · rename_i all o os k
    cases hd : dOk r.c.fn.ntmps o.dst with
    | false => simp [hd, Nx.semR] at h
    | true =>
    simp only [hd, cond_true] at h
    unfold opN at h
    split at h
    · rename_i hg
      have := h a w hsim
      show wpListIn r.F 0 r.c.P all.toArray (WQr r k) (o :: os) a w
      unfold wpListIn
      rw [if_pos (by simp [Region.wanted, hg])]
      exact this hd
    · rename_i j want hg
      unfold grdN at h
      split at h
      · rename_i b hb
        have hy := yielded_ok he hb
        show wpListIn r.F 0 r.c.P all.toArray (WQr r k) (o :: os) a w
        unfold wpListIn
        have h1 : b = want → AWpR r (.op all o os :: k) e s := fun hh => by
          subst hh
          cases b with
          | true => exact h.1 rfl
          | false => exact h.2 rfl
        have h2 : b ≠ want → AWpR r (.ops all os :: k) (put e o.dst (.raw undef)) s := fun hh => by
          cases b <;> cases want <;> first | exact (hh rfl).elim | exact h.1 rfl | exact h.2 rfl
        by_cases hbw : b = want
        · rw [if_pos (by simp [Region.wanted, hg, hy.1 hbw])]
          exact h1 hbw a w hsim hd
        · rw [if_neg (by simpa [Region.wanted, hg] using hy.2 hbw)]
          exact ⟨fun _ _ => trivial, h2 hbw _ w ⟨hh, ρ, hm, hl, he.put (by rw [hsz]; exact hd) (.raw _), by rw [put_defers']; exact hdf, by rw [put_size]; exact hsz, hX⟩⟩
      · exact h.elim
  · rename_i all o os k
    show _ → _
    intro hd
    have hs := xop_sound (P := r.c.P) (wr := wr) (frz := frz) (o := o) hm he
    have hnd := xop_defer (wr := wr) (frz := frz) (P := r.c.P) (e := e) (s := s) (o := o.op)
    revert h hs hnd
    cases hx : xop wr frz r.c.P e s o.op with
    | ok v => intro h hs hnd; exact okv_goR hl he hdf hsz hm hX (hnd (by simp)) hd hs h hd
    | side p v => intro h hs hnd; exact okv_goR hl he hdf hsz hm hX (hnd (by simp)) hd (hs h.1) h.2 hd
    | sto p v s' => intro h hs hnd; exact okv_goR hl he hdf hsz hm hX (hnd (by simp)) hd (hs h.1) h.2 hd
    | pick b x y =>
        intro h hs hnd
        cases b with
        | true => exact okv_goR hl he hdf hsz hm hX (hnd (by simp)) hd hs (h.1 rfl) hd
        | false => exact okv_goR hl he hdf hsz hm hX (hnd (by simp)) hd hs (h.2 rfl) hd
    | call f args =>
        intro h hs hnd
        obtain ⟨vs, hv, hr⟩ := hs
        have hb := (h a w hh ρ vs hm hl he hdf hsz hX hv).1
        replace hr := hr hb
        have hc := (h a w hh ρ vs hm hl he hdf hsz hX hv).2
        show o.wpIn r.F 0 r.c.P a w (wpListIn r.F 0 r.c.P all.toArray (WQr r k) os) (WQr r k)
        unfold Oper.wpIn
        refine ⟨fun _ _ => trivial, ?_⟩
        rw [Oper.semAt_eq _ _ _ (hnd (by simp)), hr]
        refine ⟨fun hq => (by cases hq), calls_r (hc.mono fun en w' hw => ?_)⟩
        cases en with
        | returned v => exact hw
        | panicked ch => exact hw.elim
        | outgrown => exact hw.elim
    | anyb p => intro h hs hnd; obtain ⟨b, hb⟩ := hs h.1; exact okv_goR hl he hdf hsz hm hX (hnd (by simp)) hd hb (h.2 b) hd
    | stuck => intro h hs hnd; exact h a w hsim hd
  · exact (h a w hsim : WQr r _ .normal a w) |> fun x => wpIn_skip x
  · rename_i id ops draw k
    cases draw with
    | true => exact h a w hsim
    | false =>
      have := h a w hsim
      exact wpIn_region_list (by simpa [WQr, WQg] using this)
  · rename_i x y k
    refine wpIn_seq (Code.wpIn_mono ?_ (h a w hsim))
    intro en a' w' hq
    cases en <;> exact hq
  · rename_i x y z k
    unfold condN at h
    split at h
    · rename_i t ht
      have hx := ev_ok he x
      rw [ht] at hx
      have hb := inv_bool hx
      refine wpIn_cond hb ?_
      cases t with
      | true => exact h.1 rfl a w hsim
      | false => exact h.2 rfl a w hsim
    · exact h.elim
  · rename_i id x k
    refine wpIn_block (Code.wpIn_mono ?_ (h a w hsim))
    intro en a' w' hq
    cases en <;> exact hq
  · rename_i id k
    unfold exitNR at h
    split at h
    · rename_i k' hk
      exact wpIn_exit (exit_okR hk a w (h a w hsim))
    · rename_i hk
      exact wpIn_exit (exit_outR hk a w (h a w hsim))
  · exact wpIn_ret (ret_okR (h a w hsim))
  · exact h a w hsim
  · exact h a w hsim
  · exact h a w hsim
  · exact h a w hsim

theorem nxR_sound {wr frz : Bool} {n : Nat} (ih : ∀ m, m ≤ n → ∀ k e s, runR wr frz r.c.fn.ntmps r m k e s → AWpR r k e s) : ∀ {x : Nx}, contR wr frz r.c.fn.ntmps r n x → x.semR r
  | .go k e s, h => ih n (Nat.le_refl _) k e s (by rw [contR] at h; exact h)
  | .two b k e s k' e' s', h => by
    rw [contR] at h
    cases n with
    | zero => rw [brR] at h; exact h
    | succ n =>
      rw [brR] at h
      exact ⟨fun hb => ih n (by omega) _ _ _ (h.1 hb), fun hb => ih n (by omega) _ _ _ (h.2 hb)⟩
  | .side p k e s, h => by
    rw [contR] at h
    exact ⟨h.1, ih n (Nat.le_refl _) _ _ _ h.2⟩
  | .leaf p, h => by rw [contR] at h; exact h

theorem runR_sound {wr frz : Bool} (n : Nat) : ∀ (k : List It) (e : Env) (s : List Blk), runR wr frz r.c.fn.ntmps r n k e s → AWpR r k e s := by
  induction n using Nat.strongRecOn with
  | _ n ih =>
    intro k e s h
    cases n with
    | zero => rw [runR] at h; exact h
    | succ n =>
      rw [runR] at h
      exact step1R_sound (nxR_sound (fun m hm => ih m (by omega)) h)

theorem goR {N : Nat} (hN : r.c.fn.ntmps = N) (n : Nat) (h : runR false false N r n k e s) : AWpR r k e s := runR_sound n k e s (hN ▸ h)
theorem goFR {N : Nat} (hN : r.c.fn.ntmps = N) (n : Nat) (h : runR false true N r n k e s) : AWpR r k e s := runR_sound n k e s (hN ▸ h)

theorem AWpR.shift {e' : Env} {s' : List Blk} (x : Shift r.c e s e' s') (h : AWpR r k e' s') : AWpR r k e s := fun a w hs => h a w (x.r hs)
theorem AOut.shift {y : Exit} {e' : Env} {s' : List Blk} (x : Shift r.c e s e' s') (h : AOut r y e' s') : AOut r y e s := fun a w hs => h a w (x.r hs)

theorem aloopR {ι : Type} {B : Code} (μ : ι → Nat) (E : ι → Env) (S : ι → List Blk) (H : ι → Prop) (x0 : ι) (hH : H x0) (hs : Shift r.c e s (E x0) (S x0))
    (step : ∀ x, H x → ∀ J : Act → World → Prop, (∀ y, H y → μ y < μ x → ∀ a w, SimR r (E y) (S y) a w → J a w) → AWpR r (.code B :: .inv J :: k) (E x) (S x)) :
    AWpR r (.code (.loop B) :: k) e s := by
  intro a w hsim
  refine wpIn_loop_ghost (fun n a w => ∃ x, H x ∧ μ x = n ∧ SimR r (E x) (S x) a w) (μ x0) ⟨x0, hH, rfl, hs.r hsim⟩ ?_
  rintro n a w ⟨x, hx, rfl, hsx⟩
  have := step x hx (fun a w => ∃ n', n' < μ x ∧ ∃ y, H y ∧ μ y = n' ∧ SimR r (E y) (S y) a w) (fun y hy hlt a w hs => ⟨_, hlt, y, hy, rfl, hs⟩) a w hsx
  refine Code.wpIn_mono ?_ this
  intro en a' w' hq
  cases en <;> exact hq

theorem ainvR {J : Act → World → Prop} {e' : Env} {s' : List Blk} (hJ : ∀ a w, SimR r e' s' a w → J a w) (x : Shift r.c e s e' s') : AWpR r (.inv J :: k) e s := fun a w h => hJ a w (x.r h)

theorem acallR {f : FuncId} {args : List AV} {d : Option Tmp} {all os : List Oper} {post : AV → List Blk → Prop} (hc : Ct r.c.P f args s post) {N : Nat} (hN : r.c.fn.ntmps = N) (hd : dOk N d = true)
    (hk : ∀ v s', post v s' → AWpR r (.ops all os :: k) (put e d v) s') : ACallR r f args d all os k e s := by
  intro a w h ρ vs hm hl he hdf hsz hX hv
  refine ⟨hc.1, (hc.2 h ρ w vs hm hv).mono ?_⟩
  rintro en w' ⟨v, r', s', h', ρ', rfl, hp, hm', hlt, rv⟩
  have he' : EnvOk h' ρ' s' e a := fun t => (he t).mono hlt.hle hlt.keep
  exact hk r' s' hp _ _ ⟨h', ρ', hm', hl.trans hlt, he'.put (by rw [hsz, hN]; exact hd) rv, by rw [put_defers']; exact hdf, by rw [put_size]; exact hsz, r.c.hx.later hm hlt hX⟩
theorem acallHR {g : Std} (hg : Le g r.c.w r.c.ρ) {f : FuncId} {args : List AV} {d : Option Tmp} {all os : List Oper} {post : AV → List Blk → Prop} (hc : CtH r.c.P g f args s post) {N : Nat} (hN : r.c.fn.ntmps = N) (hd : dOk N d = true)
    (hk : ∀ v s', post v s' → AWpR r (.ops all os :: k) (put e d v) s') : ACallR r f args d all os k e s := by
  intro a w h ρ vs hm hl he hdf hsz hX hv
  refine ⟨hc.1, (hc.2 h ρ w vs (hg.later hl) hm hv).mono ?_⟩
  rintro en w' ⟨v, r', s', h', ρ', rfl, hp, hm', hlt, rv⟩
  have he' : EnvOk h' ρ' s' e a := fun t => (he t).mono hlt.hle hlt.keep
  exact hk r' s' hp _ _ ⟨h', ρ', hm', hl.trans hlt, he'.put (by rw [hsz, hN]; exact hd) rv, by rw [put_defers']; exact hdf, by rw [put_size]; exact hsz, r.c.hx.later hm hlt hX⟩
theorem pcallHR {g : Std} (hg : Le g r.c.w r.c.ρ) {f : FuncId} {args : List AV} {d : Option Tmp} {all os : List Oper} {post : AV → Prop} (hc : PcH r.c.P g f args post) (ha : args.all nr1 = true) {N : Nat} (hN : r.c.fn.ntmps = N) (hd : dOk N d = true)
    (hk : ∀ v, post v → AWpR r (.ops all os :: k) (put e d v) s) : ACallR r f args d all os k e s :=
  acallHR hg (hc.cth ha s) hN hd fun v s' ⟨hp, hs⟩ => by subst hs; exact hk v hp
theorem pcallHR1 {g : Std} (hg : Le g r.c.w r.c.ρ) {f : FuncId} {args : List AV} {d : Option Tmp} {all os : List Oper} {v : AV} (hc : PcH r.c.P g f args (· = v)) (ha : args.all nr1 = true) {N : Nat} (hN : r.c.fn.ntmps = N) (hd : dOk N d = true)
    (hk : AWpR r (.ops all os :: k) (put e d v) s) : ACallR r f args d all os k e s :=
  pcallHR hg hc ha hN hd fun v' hr => by subst hr; exact hk
end

section
variable {c : Cx} {e : Env} {s : List Blk}
/-! ### an open order: the text's order, with whatever follows -/
mutual
def dxk (c : Cx) (all : List Oper) (K : Env → List Blk → Prop) : Nat → List Oper → List AV → Env → List Blk → Prop
  | _, [], _, e, s => K e s
  | 0, _ :: _, _, _, _ => False
  | n + 1, o :: r, cs, e, s => dxkc c all K n (dgrd c all s o r cs e o.guard)
def dxkc (c : Cx) (all : List Oper) (K : Env → List Blk → Prop) : Nat → Dn → Prop
  | n, .go r cs e s => dxk c all K n r cs e s
  | n, .two b r cs e r' cs' e' s => dbrk c all K n b r cs e r' cs' e' s
  | n, .side p r cs e s => p ∧ dxk c all K n r cs e s
  | _, .fail => False
def dbrk (c : Cx) (all : List Oper) (K : Env → List Blk → Prop) : Nat → Bool → List Oper → List AV → Env → List Oper → List AV → Env → List Blk → Prop
  | 0, _, _, _, _, _, _, _, _ => False
  | n + 1, b, r, cs, e, r', cs', e', s => (b = true → dxk c all K n r cs e s) ∧ (b = false → dxk c all K n r' cs' e' s)
end
theorem dbrk_true {K : Env → List Blk → Prop} {all : List Oper} {n : Nat} {r cs e r' cs' e' s} : dbrk c all K (n + 1) true r cs e r' cs' e' s = dxk c all K n r cs e s := by rw [dbrk]; simp
theorem dbrk_false {K : Env → List Blk → Prop} {all : List Oper} {n : Nat} {r cs e r' cs' e' s} : dbrk c all K (n + 1) false r cs e r' cs' e' s = dxk c all K n r' cs' e' s := by rw [dbrk]; simp

theorem dxk_op {K : Env → List Blk → Prop} {all : List Oper} {n : Nat} {o : Oper} {r : List Oper} {cs : List AV} (hg : o.guard = none) (h : dxk c all K n (o :: r) cs e s) :
    ∃ cv v n' cs' s', DoesOp c s o cv e v s' ∧ dxk c all K n' r cs' (put e o.dst v) s' := by
  cases n with
  | zero => rw [dxk] at h; exact h.elim
  | succ n =>
    rw [dxk, hg] at h
    unfold dgrd at h
    unfold DoesOp
    revert h
    cases xop false true c.P e s o.op with
    | ok u => intro h; simp only [dres, dxkc] at h; exact ⟨.any, u, n, cs, s, ⟨rfl, rfl⟩, h⟩
    | side p u => intro h; simp only [dres, dxkc] at h; exact ⟨.any, u, n, cs, s, ⟨h.1, rfl, rfl⟩, h.2⟩
    | sto p u s' => intro h; simp only [dres, dxkc] at h; exact ⟨.any, u, n, cs, s', ⟨h.1.1, h.1.2, rfl, rfl⟩, h.2⟩
    | pick b x y =>
      intro h; simp only [dres, dxkc] at h
      cases n with
      | zero => rw [dbrk] at h; exact h.elim
      | succ n =>
      rw [dbrk] at h
      refine ⟨.any, _, n, cs, s, ⟨rfl, rfl⟩, ?_⟩
      cases b with
      | true => exact h.1 rfl
      | false => exact h.2 rfl
    | call f args =>
      intro h; simp only [dres] at h
      cases cs with
      | nil => simp only [dcall, dxkc] at h
      | cons cv cs => simp only [dcall, dxkc] at h; exact ⟨cv, cv, n, cs, s, ⟨h.1.1, h.1.2, rfl, rfl⟩, h.2⟩
    | anyb p => intro h; simp only [dres, dxkc] at h
    | stuck => intro h; simp only [dres, dxkc] at h

theorem dxk_step {K : Env → List Blk → Prop} {all : List Oper} {n : Nat} {o : Oper} {r : List Oper} {cs : List AV} (h : dxk c all K n (o :: r) cs e s) :
    ∃ cv v n' cs' s', Does c all.toArray s o cv e v s' ∧ dxk c all K n' r cs' (put e o.dst v) s' := by
  cases hg : o.guard with
  | none =>
    obtain ⟨cv, v, n', cs', s', h1, h2⟩ := dxk_op hg h
    exact ⟨cv, v, n', cs', s', by unfold Does; rw [hg]; exact h1, h2⟩
  | some jw =>
    obtain ⟨j, want⟩ := jw
    cases n with
    | zero => rw [dxk] at h; exact h.elim
    | succ n =>
      rw [dxk, hg] at h
      unfold dgrd dyld at h
      cases hy : yldD want e all[j]? with
      | none => simp only [hy, dxkc] at h
      | some b =>
        simp only [hy] at h
        have key : (b = want → ∃ n', dxk c all K n' ({ o with guard := none } :: r) cs e s) ∧ (b ≠ want → ∃ n', dxk c all K n' r cs (put e o.dst (.raw undef)) s) := by
          cases n with
          | zero => cases want <;> simp only [cond_true, cond_false, dxkc, dbrk] at h
          | succ n =>
            cases want <;> simp only [cond_true, cond_false, dxkc, dbrk] at h <;> cases b <;>
              first
              | exact ⟨fun _ => ⟨n, h.1 rfl⟩, fun hh => (hh rfl).elim⟩
              | exact ⟨fun _ => ⟨n, h.2 rfl⟩, fun hh => (hh rfl).elim⟩
              | exact ⟨fun hh => (by cases hh), fun _ => ⟨n, h.1 rfl⟩⟩
              | exact ⟨fun hh => (by cases hh), fun _ => ⟨n, h.2 rfl⟩⟩
        have hy' : yldD want e all.toArray[j]? = some b := by simpa using hy
        by_cases hb : b = want
        · obtain ⟨n1, h1⟩ := key.1 hb
          obtain ⟨cv, v, n', cs', s', h1, h2⟩ := dxk_op rfl h1
          refine ⟨cv, v, n', cs', s', ?_, h2⟩
          unfold Does
          rw [hg]
          simp only [hy']
          exact .inl ⟨hb, h1⟩
        · obtain ⟨n1, h1⟩ := key.2 hb
          refine ⟨.any, .raw undef, n1, cs, s, ?_, h1⟩
          unfold Does
          rw [hg]
          simp only [hy']
          exact .inr ⟨hb, trivial, trivial⟩

theorem chain_of_dxk {K : Env → List Blk → Prop} {all : List Oper} : ∀ {r : List Oper} {m n : Nat} {cs : List AV} {e : Env} {s : List Blk}, (∀ (j : Nat), r[j]? = all[m + j]?) → dxk c all K n r cs e s → Chain c all.toArray K (List.range' m r.length) e s
  | [], m, n, cs, e, s, _, h => by
    rw [dxk] at h
    exact h
  | o :: r, m, n, cs, e, s, hr, h => by
    obtain ⟨cv, v, n', cs', s', h1, h2⟩ := dxk_step h
    have h0 : all.toArray[m]? = some o := by have := hr 0; simpa using this.symm
    simp only [List.length_cons, List.range'_succ, Chain, h0]
    exact ⟨cv, v, s', h1, chain_of_dxk (fun j => by have := hr (j + 1); simpa [Nat.add_assoc, Nat.add_comm 1 j] using this) h2⟩


end

section
variable {r : Cr} {k : List It} {e : Env} {s : List Blk}
theorem SimR.eqv {e' : Env} {a : Act} {w : World} (h : Eqv e e') (hs : SimR r e s a w) : SimR r e' s a w := by
  obtain ⟨hh, ρ, hm, hl, he, hdf, hsz, hX⟩ := hs
  exact ⟨hh, ρ, hm, hl, fun t => by rw [← h t]; exact he t, hdf, hsz, hX⟩
theorem AWpR.eqv {e' : Env} (h : Eqv e e') (x : AWpR r k e s) : AWpR r k e' s := fun a w hs => x a w (hs.eqv fun t => (h t).symm)
theorem AWpR.K : ∀ e e' s, Eqv e e' → AWpR r k e s → AWpR r k e' s := fun _ _ _ h x => x.eqv h
/-- one operation of such a statement -/
theorem does_wpR {o : Oper} {ops : Array Oper} {cv v : AV} {s1 : List Blk} {a : Act} {w : World} {K : Act → World → Prop} {Q : Exit → Act → World → Prop} (hs : SimR r e s a w) (hd : dOk r.c.fn.ntmps o.dst = true) (h : Does r.c ops s o cv e v s1)
    (hK : ∀ a w, SimR r (put e o.dst v) s1 a w → K a w) : if Region.wanted o (yielded ops a.tmps) then o.wpIn r.F 0 r.c.P a w K Q else (∀ f, o.about r.c.P w a.eval = some f → r.F.fn f) ∧ K (a.put o.dst undef) w := by
  obtain ⟨hh, ρ, hm, hl, he, hdf, hsz, hX⟩ := hs
  have hop : DoesOp r.c s o cv e v s1 → o.wpIn r.F 0 r.c.P a w K Q := by
    intro hd1
    have hsnd := xop_sound (P := r.c.P) (wr := false) (frz := true) (o := o) hm he
    have fin : (∀ c, o.op ≠ .defer c) → Okv hh ρ s w ((execOp a.eval o).run r.c.P w) v s1 → o.wpIn r.F 0 r.c.P a w K Q := by
      rintro hnd ⟨u, w', h', ρ', hr, hm', hlt, rv⟩
      have he' : EnvOk h' ρ' s1 e a := fun t => (he t).mono hlt.hle hlt.keep
      have := hK (a.put o.dst u) w' ⟨h', ρ', hm', hl.trans hlt, he'.put (by rw [hsz]; exact hd) rv, by rw [put_defers']; exact hdf, by rw [put_size]; exact hsz, r.c.hx.later hm hlt hX⟩
      unfold Oper.wpIn
      refine ⟨fun _ _ => trivial, ?_⟩
      rw [Oper.semAt_eq _ _ _ hnd]
      rcases hr with hr | ⟨hr, hu⟩
      · rw [hr]; exact this
      · rw [hr]; subst hu; exact this
    unfold DoesOp at hd1
    have hnd := xop_defer (wr := false) (frz := true) (P := r.c.P) (e := e) (s := s) (o := o.op)
    revert hd1 hsnd hnd
    cases xop false true r.c.P e s o.op with
    | ok u => intro h2 h1 hnd; obtain ⟨h2, h3⟩ := h2; subst h2; subst h3; exact fin (hnd (by simp)) h1
    | side p u => intro h2 h1 hnd; obtain ⟨hp, h2, h3⟩ := h2; subst h2; subst h3; exact fin (hnd (by simp)) (h1 hp)
    | sto p u s' => intro h2 h1 hnd; obtain ⟨_, hp, h2, h3⟩ := h2; subst h2; subst h3; exact fin (hnd (by simp)) (h1 hp)
    | pick b x y => intro h2 h1 hnd; obtain ⟨h2, h3⟩ := h2; subst h2; subst h3; exact fin (hnd (by simp)) h1
    | call f args =>
      intro h2 h1 hnd
      obtain ⟨hp, hn, h2, h3⟩ := h2
      subst h2; subst h3
      obtain ⟨vs, hv, hr⟩ := h1
      unfold Oper.wpIn
      refine ⟨fun _ _ => trivial, ?_⟩
      rw [Oper.semAt_eq _ _ _ (hnd (by simp)), hr hp.1]
      refine ⟨fun hq => (by cases hq), calls_r ((hp.calls hn hm hl hv).mono ?_)⟩
      rintro en w' ⟨u, rr, s', h', ρ', rfl, ⟨hrv, hss⟩, hm', hlt, rv⟩
      subst hss; subst hrv
      have he' : EnvOk h' ρ' s' e a := fun t => (he t).mono hlt.hle hlt.keep
      exact hK _ _ ⟨h', ρ', hm', hl.trans hlt, he'.put (by rw [hsz]; exact hd) rv, by rw [put_defers']; exact hdf, by rw [put_size]; exact hsz, r.c.hx.later hm hlt hX⟩
    | anyb p => intro h2 _ _; exact h2.elim
    | stuck => intro h2 _ _; exact h2.elim
  unfold Does at h
  split at h
  · rename_i hg
    rw [if_pos (by simp [Region.wanted, hg])]
    exact hop h
  · rename_i j want hg
    split at h
    · rename_i b hb
      have hy := yielded_ok (all := ops.toList) he (by simpa using hb)
      simp only [Array.toArray_toList] at hy
      rcases h with ⟨h1, h2⟩ | ⟨h1, h2, h3⟩
      · rw [if_pos (by simp [Region.wanted, hg, hy.1 h1])]
        exact hop h2
      · rw [if_neg (by simpa [Region.wanted, hg] using hy.2 h1)]
        subst h2; subst h3
        refine ⟨fun _ _ => trivial, ?_⟩
        exact hK _ _ ⟨hh, ρ, hm, hl, he.put (by rw [hsz]; exact hd) (.raw _), by rw [put_defers']; exact hdf, by rw [put_size]; exact hsz, hX⟩
    · exact h.elim


/-- whatever order is drawn, whatever is carried from operation to operation -/
theorem any_of_genR {ops : List Oper} {okp : Nat → Nat → Bool} (Ch : List Nat → Env → List Blk → Prop) (hok : drawOkG okp ops = true) (hnil : ∀ e s, Ch [] e s → AWpR r k e s)
    (hfr : ∀ l i r' e s, (∀ j ∈ l, okp j i = true) → Ch (l ++ i :: r') e s → Ch (i :: (l ++ r')) e s)
    (hst : ∀ i o r' e s a w (Kc : Act → World → Prop), ops[i]? = some o → Ch (i :: r') e s → SimR r e s a w → (∀ e' s' a w, Ch r' e' s' → SimR r e' s' a w → Kc a w) →
      if Region.wanted o (yielded ops.toArray a.tmps) then o.wpIn r.F 0 r.c.P a w Kc (WQr r k) else (∀ f, o.about r.c.P w a.eval = some f → r.F.fn f) ∧ Kc (a.put o.dst undef) w) : ∀ (fuel : Nat) (listed : Array Bool) (l : List Nat) (e : Env) (s : List Blk) (a : Act) (w : World), listed.size = ops.length →
    l = (List.range ops.length).filter (fun i => !listed.getD i true) → l.length = fuel → (∀ i, listed.getD i true = true → ∀ j ∈ waits ops i, listed.getD j true = true) →
    Ch l e s → SimR r e s a w → wpAnyIn r.F 0 r.c.P .any ops.toArray (WQr r k) fuel listed a w := by
  have hready : ∀ (listed : Array Bool) (i : Nat), i ∈ Region.ready .any ops.toArray listed ↔ i < ops.length ∧ listed.getD i true = false ∧ ∀ j ∈ waits ops i, listed.getD j false = true := by
    intro listed i
    unfold Region.ready
    simp only [List.mem_filter, List.mem_range, List.size_toArray, Bool.and_eq_true, Bool.not_eq_true']
    refine and_congr_right fun hi => and_congr_right fun _ => ?_
    have : ops[i]? = some ops[i] := by simp [hi]
    simp only [List.getElem?_toArray, this, Option.map_some, Option.getD_some, waits]
    rw [Array.all_eq_true_iff_forall_mem]
    constructor
    · intro h j hj
      simp only [List.mem_map, List.mem_filter, Array.mem_toList_iff] at hj
      obtain ⟨ed, ⟨h1, h2⟩, rfl⟩ := hj
      have := h ed h1
      simpa [h2] using this
    · intro h ed hed
      by_cases hb : Region.binds .any ed = true
      · have := h ed.on (by simp only [List.mem_map, List.mem_filter, Array.mem_toList_iff]; exact ⟨ed, ⟨hed, hb⟩, rfl⟩)
        simp [this]
      · simp [hb]
  have hback : ∀ i, i < ops.length → ∀ j ∈ waits ops i, j < i := by
    intro i hi j hj
    have := (List.all_eq_true.1 hok) i (by simpa using hi)
    simp only [Bool.and_eq_true] at this
    simpa using (List.all_eq_true.1 this.1) j hj
  intro fuel
  induction fuel with
  | zero =>
    intro listed l e s a w hsz hl hlen hcl hch hsim
    have hnil : l = [] := List.eq_nil_of_length_eq_zero hlen
    subst hnil
    refine ⟨?_, hnil _ _ hch a w hsim⟩
    apply List.eq_nil_iff_forall_not_mem.2
    intro i hi
    obtain ⟨h1, h2, _⟩ := (hready listed i).1 hi
    have : i ∈ (List.range ops.length).filter (fun i => !listed.getD i true) := List.mem_filter.2 ⟨by simpa using h1, by simp [h2]⟩
    rw [← hl] at this
    cases this
  | succ fuel ih =>
    intro listed l e s a w hsz hl hlen hcl hch hsim
    have hmem : ∀ i, i ∈ l ↔ i < ops.length ∧ listed.getD i true = false := by
      intro i; rw [hl]; simp [List.mem_filter]
    refine ⟨fun hr => ?_, fun i hi => ?_⟩
    · exfalso
      cases hq : l with
      | nil => rw [hq] at hlen; simp at hlen
      | cons i r' =>
        have hil : i ∈ l := by rw [hq]; simp
        obtain ⟨h1, h2⟩ := (hmem i).1 hil
        have : i ∈ Region.ready .any ops.toArray listed := by
          refine (hready listed i).2 ⟨h1, h2, fun j hj => ?_⟩
          have hlt := hback i h1 j hj
          have hjn : j ∉ l := by
            intro hjl
            have hs : l.Pairwise (· < ·) := by rw [hl]; exact List.Pairwise.filter _ List.pairwise_lt_range
            rw [hq] at hs hjl
            rcases List.mem_cons.1 hjl with rfl | hjr
            · omega
            · have := (List.pairwise_cons.1 hs).1 j hjr; omega
          have hjlt : j < listed.size := by omega
          have := fun hf => hjn ((hmem j).2 ⟨by omega, hf⟩)
          cases hv : listed.getD j true with
          | true => simpa [Array.getD, hjlt] using hv
          | false => exact (this hv).elim
        rw [hr] at this
        cases this
    · obtain ⟨h1, h2, h3⟩ := (hready listed i).1 hi
      have hil : i ∈ l := (hmem i).2 ⟨h1, h2⟩
      obtain ⟨l1, l2, hsplit⟩ := List.append_of_mem hil
      have ho : ops.toArray[i]? = some ops[i] := by simp [h1]
      have hs : l.Pairwise (· < ·) := by rw [hl]; exact List.Pairwise.filter _ List.pairwise_lt_range
      have hapart : ∀ j ∈ l1, okp j i = true := by
        intro j hj
        have hjl : j ∈ l := by rw [hsplit]; simp [hj]
        obtain ⟨hj1, hj2⟩ := (hmem j).1 hjl
        have hji : j < i := by
          rw [hsplit] at hs
          exact (List.pairwise_append.1 hs).2.2 j hj i (by simp)
        have := (List.all_eq_true.1 hok) i (by simpa using h1)
        simp only [Bool.and_eq_true] at this
        have := (List.all_eq_true.1 this.2) j (by simpa using hji)
        simp only [Bool.or_eq_true] at this
        rcases this with h4 | h4
        · exact h4
        · exfalso
          have hm : j ∈ anc ops ops.length i := by simpa using h4
          have hw3 : ∀ j ∈ waits ops i, listed.getD j true = true := by
            intro j hj
            have h5 := h3 j hj
            have hjlt : j < listed.size := by have := hback i h1 j hj; omega
            simpa [Array.getD, hjlt] using h5
          have := anc_listed (L := fun j => listed.getD j true = true) hcl ops.length i hw3 j hm
          rw [this] at hj2
          cases hj2
      rw [hsplit] at hch
      have hfront := hfr l1 i l2 e s hapart hch
      have hlist : ∀ j, (listed.setIfInBounds i true).getD j true = if j = i then true else listed.getD j true := by
        intro j
        by_cases hj : j = i
        · subst hj
          have : j < listed.size := by omega
          simp [this]
        · rw [if_neg hj]
          simp [Array.getElem?_setIfInBounds_ne (Ne.symm hj)]
      have hnext : l1 ++ l2 = (List.range ops.length).filter (fun j => !(listed.setIfInBounds i true).getD j true) := by
        have e1 : (fun j => !(listed.setIfInBounds i true).getD j true) = fun j => (!listed.getD j true) && decide (j ≠ i) := by
          funext j
          rw [hlist]
          by_cases hj : j = i <;> simp [hj]
        have e2 : (List.range ops.length).filter (fun j => (!listed.getD j true) && decide (j ≠ i)) = l.filter (fun j => decide (j ≠ i)) := by
          rw [hl, List.filter_filter]
          congr 1
          funext j
          rw [Bool.and_comm]
        rw [e1, e2, hsplit]
        have hn : l.Nodup := hs.imp (fun h => Nat.ne_of_lt h)
        rw [hsplit] at hn
        have hn1 : i ∉ l1 := fun hh => (List.nodup_append.1 hn).2.2 i hh i (by simp) rfl
        have hn2 : i ∉ l2 := (List.nodup_cons.1 (List.nodup_append.1 hn).2.1).1
        simp only [List.filter_append, List.filter_cons]
        have f1 : ∀ x : List Nat, i ∉ x → x.filter (fun j => decide (j ≠ i)) = x := by
          intro x hx
          rw [List.filter_eq_self]
          intro y hy
          simp
          intro h; subst h; exact hx hy
        rw [f1 l1 hn1, f1 l2 hn2]
        simp
      have hgo : ∀ e' s' a w, Ch (l1 ++ l2) e' s' → SimR r e' s' a w → wpAnyIn r.F 0 r.c.P .any ops.toArray (WQr r k) fuel (listed.setIfInBounds i true) a w := fun e' s' a' w' hrest hs' =>
        ih (listed.setIfInBounds i true) (l1 ++ l2) _ _ a' w' (by simpa using hsz) hnext (by rw [hsplit] at hlen; simp at hlen ⊢; omega) (fun j hj m hm => by
          rw [hlist] at hj ⊢
          by_cases hmi : m = i
          · simp [hmi]
          · rw [if_neg hmi]
            by_cases hji : j = i
            · subst hji
              have h5 := h3 m hm
              have hmlt : m < listed.size := by have := hback j h1 m hm; omega
              simpa [Array.getD, hmlt] using h5
            · rw [if_neg hji] at hj
              exact hcl j hj m hm) hrest hs'
      have hw := hst i ops[i] (l1 ++ l2) e s a w _ (by simp [h1]) hfront hsim hgo
      unfold wpOpIn
      rw [ho]
      simp only
      by_cases hwant : Region.wanted ops[i] (yielded ops.toArray a.tmps) = true
      · rw [if_pos hwant] at hw ⊢
        exact hw
      · rw [if_neg hwant] at hw ⊢
        exact hw



/-- A STATEMENT WHOSE ORDER IS OPEN, in a round or behind one. -/
theorem adrawR (cs : List AV) {id : Nat} {ops : List Oper} (hm : r.c.P.follows .mixedOrders = true) (hok : drawOk ops = true) {N : Nat} (hN : r.c.fn.ntmps = N) (hdst : ops.all (fun o => dOk N o.dst) = true) (n : Nat)
    (h : dxk r.c ops (fun e s => AWpR r k e s) n ops cs e s) : AWpR r (.code (.region id ops.toArray true) :: k) e s := by
  intro a w hsim
  have hch := chain_of_dxk (m := 0) (by intro j; simp) h
  rw [← List.range_eq_range'] at hch
  refine wpIn_region_any hm ?_
  have hsim' : SimR r e s a { w with drawn := w.drawn + 1 } := by
    obtain ⟨hh, ρ, hmm, hl, he, hdf, hsz, hX⟩ := hsim
    have sm : Same w { w with drawn := w.drawn + 1 } := Same.drew w
    exact ⟨hh, ρ, hmm.same sm, hl.trans (Later.same sm), he, hdf, hsz, r.c.hx.later hmm (Later.same sm) hX⟩
  have hd : ∀ o ∈ ops, dOk r.c.fn.ntmps o.dst = true := fun o ho => by rw [hN]; exact (List.all_eq_true.1 hdst) o ho
  refine any_of_genR (okp := fun j i => match ops[i]?, ops[j]? with | some oi, some oj => oj.apart ops.toArray oi && together oj oi | _, _ => false) (fun l e s => Chain r.c ops.toArray (fun e s => AWpR r k e s) l e s) hok (fun e s x => x) (fun l i r' e s hj x => ?_)
    (fun i o r' e s a w Kc ho x hs hK => ?_)
    ops.length (Array.replicate ops.length false) (List.range ops.length) e s a _ (by simp) ?_ (by simp) ?_ hch hsim'
  · cases hi : ops[i]? with
    | none =>
      cases l with
      | nil => exact x
      | cons j l => have := hj j (by simp); simp [hi] at this
    | some oi =>
      refine Chain.front AWpR.K (oi := oi) (by simpa using hi) (fun j hjl => ?_) x
      have := hj j hjl
      rw [hi] at this
      cases hq : ops[j]? with
      | none => simp [hq] at this
      | some oj =>
        rw [hq] at this
        simp only [Bool.and_eq_true] at this
        exact ⟨oj, by simpa using hq, this.1, this.2⟩
  · have ho' : ops.toArray[i]? = some o := by simpa using ho
    simp only [Chain, ho'] at x
    obtain ⟨cv, v, s', h1, h2⟩ := x
    exact does_wpR hs (hd o (List.mem_of_getElem? ho)) h1 fun a w hs' => hK _ _ a w h2 hs'
  · symm
    rw [List.filter_eq_self]
    intro i hi
    simp at hi
    simp [hi]
  · intro i hi j hj
    exfalso
    by_cases h1 : i < ops.length
    · simp [h1] at hi
    · unfold waits at hj
      have : ops[i]? = none := by simp; omega
      simp [this] at hj
end
end Go.Av
/- A range over a function: the rule, for a caller whose body is walked in plain data; the iterator's contract; the function's end. Own work of this seat. -/
set_option linter.unusedSimpArgs false
set_option linter.unusedVariables false
namespace Go.Av
open Go Go.RowKit

section
variable {h h' h0 : Mem} {ρ ρ' ρ0 : Own} {s s' s0 : List Blk} {w w' w0 : World}

theorem cell_putObj {l b o : Nat} {x : Obj} (hb : b ≠ l) : (w.putObj l x).cell? ⟨b, o, none⟩ = w.cell? ⟨b, o, none⟩ :=
  World.cell?_of_block (World.putObj_heap_other hb)
/-- a block that is no cells, and not of the table, turns -/
theorem Mine.putObj (m : Mine h ρ s w) {l : Nat} {o x : Obj} (hl : w.heap[l]? = some o) (hc : o.isCells = false) (hn : ∀ i t, ρ i ≠ some (l, t)) : Mine h ρ s (w.putObj l x) := by
  refine ⟨fun b i v e => ?_, fun id blk e => ?_, m.out, m.inj, m.disj⟩
  · have h1 := m.mem b i v e
    refine ⟨?_, h1.2⟩
    by_cases hb : b = l
    · subst hb
      exfalso
      have := h1.1
      simp only [World.cell?, hl] at this
      cases o <;> simp [Obj.isCells] at hc this
    · rw [cell_putObj hb]; exact h1.1
  · exact (m.own id blk e).mono (fun _ _ _ x => x) (fun _ _ x => x) rfl fun g t hg => World.putObj_heap_other fun e => hn id t (by rw [← e]; exact hg)
theorem Later.putNew (L : Later h0 ρ0 s0 w0 h ρ s w) {l : Nat} {x : Obj} (hl : w0.heap.size ≤ l) : Later h0 ρ0 s0 w0 h ρ s (w.putObj l x) :=
  ⟨L.hle, L.hnew, L.keep, L.os, L.tape, L.output, by rw [World.putObj_size]; exact L.size, fun k hk hn => (World.putObj_heap_other (by omega)).trans (L.block k hk hn), L.newown⟩
/-- .. and turns back -/
theorem Later.around {l : Nat} {o1 o2 : Obj} (hl : w.heap[l]? = some o1) (L : Later h ρ s (w.putObj l o2) h' ρ' s' w') : Later h ρ s w h' ρ' s' (w'.putObj l o1) := by
  have hlt : l < w.heap.size := (Array.getElem?_eq_some_iff.1 hl).1
  have hsz := L.size
  rw [World.putObj_size] at hsz
  refine ⟨L.hle, fun b o a e => by have := L.hnew b o a e; rwa [World.putObj_size] at this, L.keep, L.os, L.tape, L.output, by rw [World.putObj_size]; exact hsz, fun k hk hn => ?_, fun i g t e => by have := L.newown i g t e; rwa [World.putObj_size] at this⟩
  by_cases hkl : k = l
  · subst hkl
    rw [World.putObj_heap_same (by omega), hl]
  · rw [World.putObj_heap_other hkl, L.block k (by rw [World.putObj_size]; exact hk) hn, World.putObj_heap_other hkl]
end

/-- fewer slots, the table told in other words -/
theorem Shift.weakS {c : Cx} {e e' : Env} {s s' : List Blk} (h : wk e e') (hs : s = s') : Shift c e s e' s' := hs ▸ Shift.weak h

/-- blocks that hold just this, and are not of the table -/
def XB (l : List (Nat × Obj)) : Mem → Own → World → Prop := fun _ ρ w => ∀ p ∈ l, w.heap[p.1]? = some p.2 ∧ ∀ i t, ρ i ≠ some (p.1, t)
theorem stbB (l : List (Nat × Obj)) : Stb (XB l) where
  later := fun {h ρ sto w h' ρ' sto' w'} _ L x p hp => by
    obtain ⟨h1, h2⟩ := x p hp
    have hlt : p.1 < w.heap.size := (Array.getElem?_eq_some_iff.1 h1).1
    refine ⟨(L.block p.1 hlt h2).trans h1, fun i t e => ?_⟩
    rcases L.newown i p.1 t e with ⟨j, t', hj⟩ | hs
    · exact h2 j t' hj
    · omega
  fewer := fun hf x p hp => by
    obtain ⟨h1, h2⟩ := x p hp
    refine ⟨h1, fun i t e => ?_⟩
    obtain ⟨j, t', hj⟩ := hf i p.1 t e
    exact h2 j t' hj
def DfO (Ds : List Nat) : List (Nat × Obj) := Ds.map fun D => (D, .deferred (some []))
def dfs (Ds : List Nat) : List Deferred := Ds.map fun D => { target := .collected D, args := #[] }

/-- the context of a round; of code behind ranges -/
def outM (P : Program) (fn : Func) (h : Mem) (ρ : Own) (sto : List Blk) (w : World) (post : AV → List Blk → Prop) : Exit → Act → World → Prop :=
  bodyPostM Fence.wide 0 P fn fun en w' => ∃ v r s h' ρ', en = .returned v ∧ post r s ∧ Mine h' ρ' s w' ∧ Later h ρ sto w h' ρ' s w' ∧ RV h' (Lf ρ' s) false v r
@[reducible] def mkM (P : Program) (fn : Func) (h : Mem) (ρ : Own) (sto : List Blk) (w : World) (post : AV → List Blk → Prop) (Ds : List Nat) : Cr :=
  ⟨⟨P, fn, h, ρ, sto, w, post, XB (DfO Ds), stbB _⟩, none, dfs Ds, outM P fn h ρ sto w post⟩
@[reducible] def mkL (P : Program) (fn : Func) (h : Mem) (ρ : Own) (sto : List Blk) (w : World) (l : List (Nat × Obj)) (id : Nat) : Cr :=
  ⟨⟨P, fn, h, ρ, sto, w, fun _ _ => True, XB l, stbB l⟩, some id, [], fun _ _ _ => False⟩

/-- what an iterator comes to: it hands on 'xs', one after the other; 'q' is a state of its own in the table -/
def ItC {σ : Type} (P : Program) (g : Std) (gf : FuncId) (lb xs : List AV) (S : Nat → σ → List Blk) (q0 : σ) : Prop :=
  hasBody P gf = true ∧ ∀ (l : Nat) (X : Mem → Own → World → Prop) (hX : Stb X) (h : Mem) (ρ : Own) (w : World) (vs : List Value), Le g w ρ → Mine h ρ (S 0 q0) w → RL h (Lf ρ (S 0 q0)) false vs lb → X h ρ w →
    (∀ j q x h1 ρ1 w1 v, xs[j]? = some x → Later h ρ (S 0 q0) w h1 ρ1 (S j q) w1 → Mine h1 ρ1 (S j q) w1 → X h1 ρ1 w1 → RV h1 (Lf ρ1 (S j q)) false v x →
      YieldAt Fence.wide 0 P l #[v] w1 fun en w' => en = .returned (.bool true) ∧ ∃ h' ρ', Mine h' ρ' (S (j + 1) q) w' ∧ Later h1 ρ1 (S j q) w1 h' ρ' (S (j + 1) q) w' ∧ X h' ρ' w') →
    CallsIn Fence.wide 0 P gf (#[.func (.yield l) #[] #[]] ++ vs.toArray) w fun en w' => (∃ v, en = .returned v) ∧ ∃ q h' ρ', Mine h' ρ' (S xs.length q) w' ∧ Later h ρ (S 0 q0) w h' ρ' (S xs.length q) w' ∧ X h' ρ' w'

theorem call_enters {P : Program} {f : FuncId} (hb : hasBody P f = true) (args : Array Value) (w : World) : (callFunc f args).run P w = .ok (.enter f args) w := by
  unfold hasBody at hb
  cases hq : P.funcs[f]? with
  | none => simp [hq] at hb
  | some fn =>
    simp only [hq] at hb
    have h3 : (fn.name == "runtime.NumGoroutine") = false := by cases h : fn.name == "runtime.NumGoroutine" <;> simp_all
    have h4 : fn.body.isNone = false := by cases h : fn.body <;> simp_all
    unfold callFunc
    simp only [Sem.run_bind, run_program, Result.andThen_ok, hq, h3, h4, Bool.false_eq_true, if_false, Sem.run_pure]

theorem wp_code {r : Cr} {c : Code} {J : Act → World → Prop} {a : Act} {w : World} {Q : Exit → Act → World → Prop} (h : WQr r [.code c, .inv J] .normal a w) (hout : ∀ e a w, ¬ r.out e a w) (hJ : ∀ a w, J a w → Q .normal a w) : c.wpIn r.F 0 r.c.P Q a w :=
  Code.wpIn_mono (fun en a' w' hq => by
    cases en with
    | normal => exact hJ _ _ hq
    | ret => exact (hout _ _ _ hq).elim
    | exit id => exact (hout _ _ _ hq).elim
    | goto l => exact (hout _ _ _ hq).elim
    | panic ch => exact (hout _ _ _ hq).elim
    | outgrown => exact (hout _ _ _ hq).elim) (show c.wpIn r.F 0 r.c.P (WQr r [.inv J]) a w from h)

/-- A RANGE OVER A FUNCTION, whose body is never left but at its end. -/
theorem arange {σ : Type} {P : Program} {fn : Func} {h0 : Mem} {ρ0 : Own} {sto0 : List Blk} {w0 : World} {post : AV → List Blk → Prop} {Ds : List Nat} {g : Operand} {p : Tmp} {assign body : Code} {k : List It} {e : Env} {s : List Blk} {gf : FuncId} {lb xs : List AV}
    {S : Nat → σ → List Blk} {q0 : σ} {gs : Std} (hg : Le gs w0 ρ0) (he : ev e g = .fn (.func gf) lb) (hs : s = S 0 q0) (hit : ItC P gs gf lb xs S q0) (hp : p < fn.ntmps) (E1 : Nat → Env)
    (hassign : ∀ j q x h ρ w l id J, xs[j]? = some x → Le gs w ρ → (∀ a w', SimR (mkL P fn h ρ (S j q) w l id) (E1 j) (S j q) a w' → J a w') → AWpR (mkL P fn h ρ (S j q) w l id) [.code assign, .inv J] (put e (some p) x) (S j q))
    (hbody : ∀ j q x h ρ w l id J, xs[j]? = some x → Le gs w ρ → (∀ a w', SimR (mkL P fn h ρ (S j q) w l id) [] (S (j + 1) q) a w' → J a w') → AWpR (mkL P fn h ρ (S j q) w l id) [.code body, .inv J] (E1 j) (S j q))
    (hdone : ∀ D q, w0.heap.size ≤ D → AWpR (mkM P fn h0 ρ0 sto0 w0 post (D :: Ds)) k e (S xs.length q)) : AWpR (mkM P fn h0 ρ0 sto0 w0 post Ds) (.code (.rangeFunc g #[p] assign body) :: k) e s := by
  subst hs
  intro a w hsim
  obtain ⟨h, ρ, hm, hl, hen, hdf, hsz, hX⟩ := hsim
  have hgv := ev_ok hen g
  rw [he] at hgv
  obtain ⟨vs, hvs, rvs⟩ : ∃ vs, a.eval g = .func (.func gf) #[] vs.toArray ∧ RL h (Lf ρ (S 0 q0)) false vs lb := by
    generalize a.eval g = v at hgv
    cases hgv with
    | fn f vs l r => exact ⟨vs, rfl, r⟩
    | leaf lf => exact lf.2.elim
  have hlw : Le gs w ρ := hg.later hl
  show (Code.rangeFunc g #[p] assign body).wpIn _ 0 P _ a w
  refine wpIn_rangeFunc ?_
  intro fno hfn
  obtain ⟨rec, hrec⟩ : ∃ rec : LoopState → Option Code → Loop, rec = fun st pe => { state := st, pending := pe, fn := fno, tmps := a.tmps, params := #[p], assign, body, defers := w.heap.size } := ⟨_, rfl⟩
  obtain ⟨W1, hW1⟩ : ∃ W1, (w.alloc (.deferred (some []))).alloc (.loop (rec .ready none)) = W1 := ⟨_, rfl⟩
  have hL1 : W1.heap[w.heap.size + 1]? = some (.loop (rec .ready none)) := by
    rw [← hW1]; have := World.alloc_heap_new (w.alloc (.deferred (some []))) (.loop (rec .ready none)); rwa [World.size_alloc] at this
  have hK1 : W1.heap[w.heap.size]? = some (.deferred (some [])) := by
    rw [← hW1]; exact (Below.heap_alloc _ _ _ (by simp)).trans (World.alloc_heap_new w _)
  have sm : Same w W1 := by rw [← hW1]; exact (Same.alloc w _).trans (Same.alloc _ _)
  have m1 : Mine h ρ (S 0 q0) W1 := hm.same sm
  have L1 : Later h ρ (S 0 q0) w h ρ (S 0 q0) W1 := Later.same sm
  have hnew : ∀ b, w.heap.size ≤ b → ∀ i t, ρ i ≠ some (b, t) := fun b hb i t hi => by have := hm.lt hi; omega
  have hX1 : XB ((w.heap.size + 1, .loop (rec .ready none)) :: DfO (w.heap.size :: Ds)) h ρ W1 := by
    intro p hp
    simp only [DfO, List.map_cons, List.mem_cons] at hp
    rcases hp with rfl | rfl | hp
    · exact ⟨hL1, hnew _ (by omega)⟩
    · exact ⟨hK1, hnew _ (by omega)⟩
    · exact (stbB (DfO Ds)).later hm L1 hX p hp
  refine ⟨w.heap.size + 1, [{ target := .collected w.heap.size, args := #[] }], W1, { target := .fn (.func gf) vs.toArray, args := #[.func (.yield (w.heap.size + 1)) #[] #[]] }, W1, gf,
    #[.func (.yield (w.heap.size + 1)) #[] #[]] ++ vs.toArray, W1, ?_, ?_, fun _ _ => trivial, ?_, fun hq => (by cases hq), ?_⟩
  · rw [← hW1, hrec]; exact run_enterLoop_outer _ _ _ _ _
  · simp only [resolve, hvs]
    simp [go_sem]
  · simp [invoke, go_sem, call_enters hit.1]
  refine ((hit.2 (w.heap.size + 1) (XB ((w.heap.size + 1, .loop (rec .ready none)) :: DfO (w.heap.size :: Ds))) (stbB _) h ρ W1 vs (hlw.later L1) m1 (rvs.mono (fun _ _ _ x => x) (fun _ _ x => x)) hX1 ?_).mono ?_ : CallsIn Fence.wide 0 P gf _ W1 _)
  · -- a round
    intro j q x h1 ρ1 w1 v hx hl1 hm1 hX1 rv
    have hlo : w1.heap[w.heap.size + 1]? = some (.loop (rec .ready none)) := (hX1 (w.heap.size + 1, .loop (rec .ready none)) (by simp)).1
    have hun : ∀ i t, ρ1 i ≠ some (w.heap.size + 1, t) := (hX1 (w.heap.size + 1, .loop (rec .ready none)) (by simp)).2
    have hy := run_yield (P := P) (args := #[v]) hlo (by rw [hrec]; rfl)
    rw [hrec] at hy
    refine ⟨fno, a.tmps.setIfInBounds p v, assign, body, hy.trans (by simp), roundIn_of_wpIn (n := 0) (F := Fence.wide) hfn ?_⟩
    have hle1 : Le gs w1 ρ1 := (hlw.later L1).later hl1
    have hsim1 : SimR (mkL P fn h1 ρ1 (S j q) w1 ((w.heap.size + 1, .loop (rec .ready none)) :: DfO (w.heap.size :: Ds)) (w.heap.size + 1)) (put e (some p) x) (S j q) { tmps := a.tmps.setIfInBounds p v, defers := [] } w1 := by
      refine ⟨h1, ρ1, hm1, .refl .., ?_, rfl, by simpa using hsz, hX1⟩
      have he1 : EnvOk h1 ρ1 (S j q) e { tmps := a.tmps, defers := [] } := fun t => ((hen t).mono L1.hle L1.keep).mono hl1.hle hl1.keep
      exact he1.put (d := some p) (by simpa [dOk, hsz] using hp) rv
    have := hassign j q x h1 ρ1 w1 _ (w.heap.size + 1) (fun a₁ w₁ => SimR (mkL P fn h1 ρ1 (S j q) w1 ((w.heap.size + 1, .loop (rec .ready none)) :: DfO (w.heap.size :: Ds)) (w.heap.size + 1)) (E1 j) (S j q) a₁ w₁) hx hle1 (fun a w' hh => hh) _ w1 hsim1
    refine wp_code this (fun _ _ _ x => x) fun a₁ w₁ hq => ?_
    · obtain ⟨h2, ρ2, hm2, hl2, he2, hd2, hs2, hx2⟩ := hq
      have hlo2 := (hx2 (w.heap.size + 1, .loop (rec .ready none)) (by simp)).1
      have hun2 := (hx2 (w.heap.size + 1, .loop (rec .ready none)) (by simp)).2
      simp only at hlo2 hun2
      refine ⟨_, run_beginRound hlo2 (by rw [hrec]), ?_⟩
      obtain ⟨W2, hW2⟩ : ∃ W2, w₁.putObj (w.heap.size + 1) (.loop { rec .ready none with state := .busy }) = W2 := ⟨_, rfl⟩
      rw [hW2]
      have hlt2 : w.heap.size + 1 < w₁.heap.size := (Array.getElem?_eq_some_iff.1 hlo2).1
      have mB : Mine h2 ρ2 (S j q) W2 := by rw [← hW2]; exact hm2.putObj hlo2 rfl hun2
      have hoth : ∀ p ∈ DfO (w.heap.size :: Ds), p.1 ≠ w.heap.size + 1 := fun p hp e => by
        have h1 := (hx2 p (List.mem_cons_of_mem _ hp)).1
        rw [e, hlo2] at h1
        simp only [DfO, List.mem_map] at hp
        obtain ⟨D, _, rfl⟩ := hp
        cases h1
      have xB : XB ((w.heap.size + 1, .loop { rec .ready none with state := .busy }) :: DfO (w.heap.size :: Ds)) h2 ρ2 W2 := by
        intro p hp
        rcases List.mem_cons.1 hp with rfl | hp'
        · exact ⟨by rw [← hW2]; exact World.putObj_heap_same hlt2, hun2⟩
        · have := hx2 p (List.mem_cons_of_mem _ hp')
          exact ⟨by rw [← hW2]; exact (World.putObj_heap_other (hoth p hp')).trans this.1, this.2⟩
      have hleB : Le gs W2 ρ2 := fun kk o e => by
        obtain ⟨a1, a2⟩ := (hle1.later hl2) kk o e
        refine ⟨?_, a2⟩
        rw [← hW2]
        refine (World.putObj_heap_other fun e2 => ?_).trans a1
        have h1 := (hlw kk o e).1
        have := (Array.getElem?_eq_some_iff.1 h1).1
        omega
      have simB : SimR (mkL P fn h2 ρ2 (S j q) W2 ((w.heap.size + 1, .loop { rec .ready none with state := .busy }) :: DfO (w.heap.size :: Ds)) (w.heap.size + 1)) (E1 j) (S j q) a₁ W2 :=
        ⟨h2, ρ2, mB, .refl .., he2, hd2, hs2, xB⟩
      have hb := hbody j q x h2 ρ2 W2 _ (w.heap.size + 1) (fun a₃ w₃ => SimR (mkL P fn h2 ρ2 (S j q) W2 ((w.heap.size + 1, .loop { rec .ready none with state := .busy }) :: DfO (w.heap.size :: Ds)) (w.heap.size + 1)) [] (S (j + 1) q) a₃ w₃) hx hleB (fun a w' hh => hh) _ W2 simB
      refine wp_code hb (fun _ _ _ x => x) fun a₃ w₃ hq3 => ?_
      · obtain ⟨h3, ρ3, hm3, hl3, _, _, _, hx3⟩ := hq3
        have hlo3 := (hx3 (w.heap.size + 1, .loop { rec .ready none with state := .busy }) (by simp)).1
        have hun3 := (hx3 (w.heap.size + 1, .loop { rec .ready none with state := .busy }) (by simp)).2
        simp only at hlo3 hun3
        have hend := run_endRound (P := P) none hlo3
        have hrr : ({ rec .ready none with state := .busy } : Loop) = { rec .ready none with state := .busy } := rfl
        have hback : ({ { rec .ready none with state := .busy } with state := if (none : Option Code).isNone then .ready else .done, pending := none } : Loop) = rec .ready none := by rw [hrec]; rfl
        rw [hback] at hend
        refine ⟨_, _, hend, rfl, h3, ρ3, hm3.putObj hlo3 rfl hun3, ?_, ?_⟩
        · rw [← hW2] at hl3
          exact hl2.trans (Later.around hlo2 hl3)
        · intro p hp
          have hlt3 : w.heap.size + 1 < w₃.heap.size := (Array.getElem?_eq_some_iff.1 hlo3).1
          rcases List.mem_cons.1 hp with rfl | hp'
          · exact ⟨World.putObj_heap_same hlt3, hun3⟩
          · have := hx3 p (List.mem_cons_of_mem _ hp')
            exact ⟨(World.putObj_heap_other (hoth p hp')).trans this.1, this.2⟩
  · -- behind the iterator
    rintro en W3 ⟨⟨v, rfl⟩, q, h3, ρ3, hm3, hl3, hx3⟩
    have hlo3 := (hx3 (w.heap.size + 1, .loop (rec .ready none)) (by simp)).1
    have hun3 := (hx3 (w.heap.size + 1, .loop (rec .ready none)) (by simp)).2
    simp only at hlo3 hun3
    have hend := run_endLoop (P := P) hlo3 (by rw [hrec]; simp)
    rw [show (rec .ready none).pending = none by rw [hrec]] at hend
    refine ⟨none, _, hend, ?_⟩
    have hD : w0.heap.size ≤ w.heap.size := hl.size
    have L3 := (hl.trans L1).trans hl3
    refine hdone w.heap.size q hD _ _ ⟨h3, ρ3, hm3.putObj hlo3 rfl hun3, L3.putNew (show w0.heap.size ≤ w.heap.size + 1 by omega), fun t => ((hen t).mono L1.hle L1.keep).mono hl3.hle hl3.keep, ?_, hsz, ?_⟩
    · show _ :: a.defers = _
      rw [hdf]; rfl
    · intro p hp
      have := hx3 p (List.mem_cons_of_mem _ hp)
      refine ⟨(World.putObj_heap_other fun e => ?_).trans this.1, this.2⟩
      have h1 := this.1
      rw [e, hlo3] at h1
      simp only [DfO, List.mem_map] at hp
      obtain ⟨D, _, rfl⟩ := hp
      cases h1

/-- a call of yield, in the iterator -/
theorem ayield {c : Cx} {out : Exit → Act → World → Prop} {k : List It} {e : Env} {s s' : List Blk} {all os : List Oper} {o : Oper} {f x : Operand} {ts : Array TypeId} {l : Nat} (ho : o.op = .call { callee := .value f, args := #[x], argTypes := ts }) (hf : ev e f = .raw (.func (.yield l) #[] #[]))
    (hY : ∀ h1 ρ1 w1 v, Later c.h c.ρ c.sto c.w h1 ρ1 s w1 → Mine h1 ρ1 s w1 → c.x h1 ρ1 w1 → RV h1 (Lf ρ1 s) false v (ev e x) →
      YieldAt Fence.wide 0 c.P l #[v] w1 fun en w' => en = .returned (.bool true) ∧ ∃ h' ρ', Mine h' ρ' s' w' ∧ Later h1 ρ1 s w1 h' ρ' s' w' ∧ c.x h' ρ' w')
    (hk : AWpR ⟨c, none, [], out⟩ (.ops all os :: k) (put e o.dst (.bool true)) s') : AWpR ⟨c, none, [], out⟩ (.op all o os :: k) e s := by
  intro a w hsim
  obtain ⟨h, ρ, hm, hl, he, hdf, hsz, hX⟩ := hsim
  show dOk c.fn.ntmps o.dst = true → _
  intro hd
  have hfv := ev_ok he f
  rw [hf] at hfv
  have hfe := inv_raw hfv
  obtain ⟨fno, tm, asg, bd, hy, hR⟩ := hY h ρ w (a.eval x) hl hm hX (ev_ok he x)
  unfold Oper.wpIn
  refine ⟨fun _ _ => trivial, ?_⟩
  rw [Oper.semAt_eq _ _ _ (by rw [ho]; intro c hc; cases hc)]
  have hrun : (execOp a.eval o).run c.P w = .ok (.round l fno tm asg bd) w := by
    rw [← hy]
    simp [execOp, ho, resolve, hfe, Deferred.ofValue, invoke]
  rw [hrun]
  refine ⟨fun hq => (by cases hq), RoundIn.mono hR ?_⟩
  rintro en w' ⟨rfl, h', ρ', hm', hl', hx'⟩
  have he' : EnvOk h' ρ' s' e a := fun t => (he t).mono hl'.hle hl'.keep
  exact hk _ _ ⟨h', ρ', hm', hl.trans hl', he'.put (by rw [hsz]; exact hd) (.bool true), by rw [put_defers']; exact hdf, by rw [put_size]; exact hsz, hx'⟩

/-- AN ITERATOR's CONTRACT, out of the walk over its text. -/
theorem itc_intro {σ : Type} {P : Program} {g : Std} {f : FuncId} {fn : Func} {body : Code} {N : Nat} {lb xs : List AV} {S : Nat → σ → List Blk} {q0 : σ} (hf : P.funcs[f]? = some fn) (hb : fn.body = some body) (hn : fn.ntmps = N) (hx : hasBody P f = true) (hres : fn.results = #[])
    (ha : lb.length + 1 ≤ N)
    (hw : ∀ (l : Nat) (c : Cx) (out : Exit → Act → World → Prop), c.P = P → c.fn = fn → c.sto = S 0 q0 → Le g c.w c.ρ →
      (∀ j q x, xs[j]? = some x → ∀ h1 ρ1 w1 v, Later c.h c.ρ c.sto c.w h1 ρ1 (S j q) w1 → Mine h1 ρ1 (S j q) w1 → c.x h1 ρ1 w1 → RV h1 (Lf ρ1 (S j q)) false v x →
        YieldAt Fence.wide 0 c.P l #[v] w1 fun en w' => en = .returned (.bool true) ∧ ∃ h' ρ', Mine h' ρ' (S (j + 1) q) w' ∧ Later h1 ρ1 (S j q) w1 h' ρ' (S (j + 1) q) w' ∧ c.x h' ρ' w') →
      (∀ x q, (x = .normal ∨ x = .ret) → AOut ⟨c, none, [], out⟩ x [] (S xs.length q)) →
      AWpR ⟨c, none, [], out⟩ [.code body] (args0 0 (.raw (.func (.yield l) #[] #[]) :: lb)) (S 0 q0)) : ItC P g f lb xs S q0 := by
  refine ⟨hx, fun l X hX h ρ w vs hg hm hv hXw hY => ?_⟩
  refine callsIn_of_wp hf hb trivial ?_
  let R : Ending → World → Prop := fun en w' => (∃ v, en = .returned v) ∧ ∃ q h' ρ', Mine h' ρ' (S xs.length q) w' ∧ Later h ρ (S 0 q0) w h' ρ' (S xs.length q) w' ∧ X h' ρ' w'
  have hfin : ∀ x q, (x = Exit.normal ∨ x = .ret) → AOut ⟨⟨P, fn, h, ρ, S 0 q0, w, fun _ _ => True, X, hX⟩, none, [], bodyPost P fn R⟩ x [] (S xs.length q) := by
    intro x q hxx a w' hsim
    obtain ⟨h', ρ', hm', hl', _, hdf, _, hx'⟩ := hsim
    have : a.defers = [] ∧ ∃ v, (results fn a.tmps).run P w' = .ok v w' ∧ R (.returned v) w' :=
      ⟨hdf, _, results_run (ts := []) (by rw [hres]; rfl) _ _, ⟨_, rfl⟩, q, h', ρ', hm', hl', hx'⟩
    rcases hxx with rfl | rfl <;> exact this
  have := hw l ⟨P, fn, h, ρ, S 0 q0, w, fun _ _ => True, X, hX⟩ (bodyPost P fn R) rfl rfl rfl hg (fun j q x hx h1 ρ1 w1 v a1 a2 a3 a4 => hY j q x h1 ρ1 w1 v hx a1 a2 a3 a4) hfin
  have hlen := hv.length
  have hargs : (#[Value.func (.yield l) #[] #[]] ++ vs.toArray) = (Value.func (.yield l) #[] #[] :: vs).toArray := by simp
  rw [hargs]
  have hv2 : RL h (Lf ρ (S 0 q0)) false (Value.func (.yield l) #[] #[] :: vs) (.raw (.func (.yield l) #[] #[]) :: lb) := .cons (.raw _) hv
  refine Code.wpIn_mono ?_ (this { tmps := (Value.func (.yield l) #[] #[] :: vs).toArray ++ Array.replicate (fn.ntmps - (Value.func (.yield l) #[] #[] :: vs).toArray.size) undef, defers := [] } w
    ⟨h, ρ, hm, .refl .., fun t => ?_, rfl, by simp; omega, hXw⟩)
  · intro en a' w' hq
    exact hq
  · rw [args0_get]
    simp only [Nat.zero_le, if_true, Nat.sub_zero]
    have h1 := hv2.getD t undef
    by_cases ht : t < vs.length + 1
    · have : ((Value.func (.yield l) #[] #[] :: vs).toArray ++ Array.replicate (fn.ntmps - (Value.func (.yield l) #[] #[] :: vs).toArray.size) undef).getD t undef = (Value.func (.yield l) #[] #[] :: vs).getD t undef := by
        simp [Array.getElem?_append, ht, List.getD]
      simp only [this]; exact h1
    · have : (AV.raw (.func (.yield l) #[] #[]) :: lb).getD t .any = .any := by simp [List.getD, List.getElem?_eq_none (by simp; omega : (AV.raw (.func (.yield l) #[] #[]) :: lb).length ≤ t)]
      rw [this]; exact .any _

/-- A FUNCTION's CONTRACT, out of the walk over its text, where it has ranges over functions. -/
theorem cthM_intro {P : Program} {g : Std} {f : FuncId} {fn : Func} {body : Code} {N : Nat} {args : List AV} {sto : List Blk} {post : AV → List Blk → Prop} (hf : P.funcs[f]? = some fn) (hb : fn.body = some body) (hn : fn.ntmps = N) (hx : hasBody P f = true)
    (ha : args.length ≤ N) (hw : ∀ h ρ w, Le g w ρ → AWpR (mkM P fn h ρ sto w post []) [.code body] (args0 0 args) sto) : CtH P g f args sto post := by
  refine ⟨hx, fun hh ρ w vs hg hm hv => ?_⟩
  refine (callsIn_wide (n := 0)).1 (callsIn_of_wp_marks hf hb trivial ?_)
  have hlen := hv.length
  have hsim : SimR (mkM P fn hh ρ sto w post []) (args0 0 args) sto { tmps := vs.toArray ++ Array.replicate (fn.ntmps - vs.toArray.size) undef, defers := [] } w := by
    refine ⟨hh, ρ, hm, .refl .., fun t => ?_, rfl, by simp; omega, fun p hp => by simp [DfO] at hp⟩
    rw [args0_get]
    simp only [Nat.zero_le, if_true, Nat.sub_zero]
    have h1 := hv.getD t undef
    by_cases ht : t < vs.length
    · have : (vs.toArray ++ Array.replicate (fn.ntmps - vs.toArray.size) undef).getD t undef = vs.getD t undef := by
        simp [Array.getElem?_append, ht, List.getD]
      simp only [this]; exact h1
    · have : args.getD t .any = .any := by simp [List.getD, List.getElem?_eq_none (by omega : args.length ≤ t)]
      rw [this]; exact .any _
  exact hw hh ρ w hg _ w hsim

/-- its end, behind one range (or none) -/
theorem aretM {P : Program} {fn : Func} {h0 : Mem} {ρ0 : Own} {sto0 : List Blk} {w0 : World} {post : AV → List Blk → Prop} {e : Env} {s : List Blk} {D : Nat} {x : Exit} (hx : x = .normal ∨ x = .ret) (hD : w0.heap.size ≤ D) (ts : List Tmp) (hr : fn.results = (ts.map ResultVar.tmp).toArray)
    (hp : post (resV e ts) s) : AOut (mkM P fn h0 ρ0 sto0 w0 post [D]) x e s := by
  intro a w hsim
  obtain ⟨h, ρ, hm, hl, he, hdf, hsz, hX⟩ := hsim
  have hK := (hX (D, .deferred (some [])) (by simp [DfO])).1
  have hun := (hX (D, .deferred (some [])) (by simp [DfO])).2
  have hdf : a.defers = [{ target := .collected D, args := #[] }] := hdf
  have hm' := hm.putObj (x := .deferred none) hK rfl hun
  have hl' := hl.putNew (l := D) (x := .deferred none) hD
  have hrv : RV h (Lf ρ s) false (resW a.tmps ts) (resV e ts) := by
    have hl : ∀ l : List Tmp, RL h (Lf ρ s) false (l.map fun t => a.tmps.getD t undef) (l.map (get e)) := by
      intro l
      induction l with
      | nil => exact .nil
      | cons t l ih => exact .cons (he t) ih
    match ts with
    | [] => exact .tup _ _ (hl [])
    | [t] => exact he t
    | t :: u :: r => exact .tup _ _ (hl (t :: u :: r))
  have : LeavesInM Fence.wide 0 P fn a.tmps (fun en w' => ∃ v r s h' ρ', en = .returned v ∧ post r s ∧ Mine h' ρ' s w' ∧ Later h0 ρ0 sto0 w0 h' ρ' s w' ∧ RV h' (Lf ρ' s) false v r) a.defers .returning w := by
    rw [hdf]
    exact ⟨by simp, .inl ⟨D, _, rfl, run_takeDeferred hK, _, results_run hr _ _, _, _, s, h, ρ, rfl, hp, hm', hl', hrv⟩⟩
  rcases hx with rfl | rfl <;> exact this
end Go.Av
/- strings.Builder: what writing a string does to memory, to the block. Own work of this seat. -/
set_option linter.unusedVariables false
set_option linter.unusedSimpArgs false
namespace Go.Proofs.YtpjbbpilgfihbaaGreatDoor
open Go Go.RowKit Go.Lib
open Go.Av (Fr rowOf WriteC StringC)

theorem jb : ∃ j, Tryz.prog.info? 118 = some j ∧ j.size = 2 := Option.map_eq_some_iff.1 (show (Tryz.prog.info? 118).map (·.size) = some 2 by kernel_rfl)

set_option maxRecDepth 100000 in
theorem cc_used (b : Nat) (w : World) (h0 : w.cell? ⟨b, 0, none⟩ = some (.pointer (some ⟨b, 0, none⟩))) :
    Calls Tryz.prog 122 #[.pointer (some ⟨b, 0, none⟩)] w fun e w' => e = .returned (.tuple #[]) ∧ w' = w := by
  obtain ⟨j, hj, hjs⟩ := jb
  go_enter Tryz.func122, Tryz.ntmps122
  go_wp2
  rw [run_neq_ptr_same w _ Tryz.underlying115 hj]
  go_wp2
  go_end0
  exact ⟨rfl, rfl⟩

set_option maxRecDepth 100000 in
theorem cc_fresh (b : Nat) (w : World) (h0 : w.cell? ⟨b, 0, none⟩ = some (.pointer none)) (hsh : w.shape? b = some (118, 2)) (hfz : w.frozen? ⟨b, 0, none⟩ = false) :
    Calls Tryz.prog 122 #[.pointer (some ⟨b, 0, none⟩)] w fun e w' => e = .returned (.tuple #[]) ∧ w' = w.setCell ⟨b, 0, none⟩ (.pointer (some ⟨b, 0, none⟩)) := by
  obtain ⟨j, hj, hjs⟩ := jb
  go_enter Tryz.func122, Tryz.ntmps122
  go_wp2
  rw [run_to_unsafe w ⟨b, 0, none⟩ Tryz.underlying115 Tryz.underlying167 hj (by rw [hjs]; decide) hsh (Nat.zero_lt_succ 1)]
  simp only [Result.andThen]
  rw [Oper.upon_value]
  go_wp2
  rw [run_callFunc_extern Tryz.func154 (by kernel_rfl) (by kernel_rfl) (by kernel_rfl) (e := Extern.AbiNoEscape.same) (by kernel_rfl)]
  rw [run_noEscape]
  simp only [Result.andThen]
  rw [Oper.upon_value]
  go_wp2
  rw [run_from_unsafe w ⟨b, 0, none⟩ Tryz.underlying167 Tryz.underlying115 hj hsh (by kernel_rfl)]
  simp only [Result.andThen]
  rw [Oper.upon_value]
  go_wp2
  go_end0
  exact ⟨rfl, rfl⟩

theorem cc (B b : Nat) (bs : List Value) (w : World) (h : IsBuilder 118 5 B b bs w) : Calls Tryz.prog 122 #[.pointer (some ⟨b, 0, none⟩)] w fun e w' => e = .returned (.tuple #[]) ∧ BuilderAt 118 5 B b (.pointer (some ⟨b, 0, none⟩)) bs w' ∧
    Fr w w' b none ∧ w'.cell? ⟨b, 1, none⟩ = w.cell? ⟨b, 1, none⟩ := by
  rcases h with h | h
  · refine (cc_fresh b w h.cell0 h.shape h.frozen0).mono ?_
    rintro e w' ⟨rfl, rfl⟩
    refine ⟨rfl, h.used _, ⟨rfl, rfl, rfl, by simp [World.setCell], fun k _ hk _ => heap_setCell_other w _ k _ hk⟩, World.cell?_setCell_other _ _ _ _ (by simp)⟩
  · refine (cc_used b w h.cell0).mono ?_
    rintro e w' ⟨rfl, rfl⟩
    exact ⟨rfl, h, ⟨rfl, rfl, rfl, Nat.le_refl _, fun _ _ _ _ => rfl⟩, rfl⟩

/-- where the row stands behind an append of a string's bytes -/
theorem append_block {w : World} {B : Nat} {v v' : Value} {n : Nat} {xs : List Value} {s : ByteArray} {ty : TypeId} {w' : World} {i : TypeInfo} (hi : Tryz.prog.info? 5 = some i) (hz : i.zero = some (.int .u8 0)) (hsize : i.size = 1) (hby : i.bytes = 1)
    (hown : w.ownsRow B 5 1 v n xs) (h63 : n + s.size ≤ maxLen) (hb : n + s.size ≤ 140737488355328) (hB : B ≤ w.heap.size) (hr : (Builtin.append_ #[116, 9] ty #[v, .string s]).run Tryz.prog w = .ok v' w') :
    v'.ownBlock = none ∨ v'.ownBlock = v.ownBlock ∨ v'.ownBlock = some w.heap.size := by
  have hm63 : n + s.size ≤ 9223372036854775807 := by unfold maxLen at h63; omega
  have hxl : xs.length = n := by simpa using hown.1
  obtain ⟨v1, w1, hr1, _, _, h4⟩ := run_append_own_string (P := Tryz.prog) w B 116 9 ty 5 i Tryz.underlying116 Tryz.underlying9 hi hz hsize hby v n xs hown s h63 hb hB
  rw [hr] at hr1
  obtain ⟨rfl, _⟩ : v' = v1 ∧ w' = w1 := by simpa using hr1
  rcases hown.2 with ⟨rfl, rfl⟩ | ⟨g, cap, cur, rfl, hbg, hg, hnc, hcm, hcs, htake⟩
  · by_cases hm : s.size = 0
    · rw [h4.2 ⟨rfl, hm⟩]; exact .inl rfl
    · have h := run_append_nil_string (P := Tryz.prog) w 116 9 ty 5 i (.int .u8 0) Tryz.underlying116 Tryz.underlying9 hi hz s (by omega) (by omega) (by rw [hby]; omega)
      rw [hr] at h
      have : v' = .slice (some ⟨w.heap.size, 0, none⟩) s.size (grownCap w s.size 0 5) := (show v' = _ ∧ w' = _ by simpa using h).1
      rw [this]; exact .inr (.inr rfl)
  · by_cases hroom : n + s.size ≤ cap
    · have h := run_append_room_string (P := Tryz.prog) w 116 9 ty 5 i Tryz.underlying116 Tryz.underlying9 hi hsize g n cap cur hg s hroom (by omega)
      rw [hr] at h
      have : v' = .slice (some ⟨g, 0, none⟩) (n + s.size) cap := (show v' = _ ∧ w' = _ by simpa using h).1
      rw [this]; exact .inr (.inl rfl)
    · have h := run_append_grow_string (P := Tryz.prog) w 116 9 ty 5 i (.int .u8 0) Tryz.underlying116 Tryz.underlying9 hi hz ⟨g, 0, none⟩ n cap xs (by rw [hsize]; simpa using hxl) (hown.cells (g := g) rfl) s (by omega) (by omega) (by rw [hby]; exact growslice_fits (by omega) (by omega))
      rw [hr] at h
      have : v' = .slice (some ⟨w.heap.size, 0, none⟩) (n + s.size) (grownCap w (n + s.size) cap 5) := (show v' = _ ∧ w' = _ by simpa using h).1
      rw [this]; exact .inr (.inr rfl)

/-- the operation, for the walk -/
theorem wpList_append {w : World} {ops : Array Oper} {rest : List Oper} {o : Oper} {a : Act} {Q : Exit → Act → World → Prop} (hgd : o.guard = none) (sl x : Operand)
    (ho : o.op = .call { callee := .builtin .append, args := #[sl, x], argTypes := #[116, 9] }) (B : Nat) (i : TypeInfo) (hi : Tryz.prog.info? 5 = some i) (hz : i.zero = some (.int .u8 0)) (hsize : i.size = 1) (hby : i.bytes = 1)
    (v : Value) (n : Nat) (xs : List Value) (hs : a.eval sl = v) (hown : w.ownsRow B 5 1 v n xs) (s : ByteArray) (hx : a.eval x = .string s) (h63 : n + s.size ≤ maxLen) (hb : n + s.size ≤ 140737488355328) (hB : B ≤ w.heap.size)
    (h : ∀ v' w', w'.ownsRow B 5 1 v' (n + s.size) (xs ++ strCells s) → w.grownBy w' v.ownBlock → (v'.ownBlock = none ∨ v'.ownBlock = v.ownBlock ∨ v'.ownBlock = some w.heap.size) → wpList Tryz.prog ops Q rest (a.put o.dst v') w') : wpList Tryz.prog ops Q (o :: rest) a w := by
  refine wpList_plain hgd fun K hK => ?_
  obtain ⟨v', w', hr, h2, h3, _⟩ := run_append_own_string (P := Tryz.prog) w B 116 9 o.type 5 i Tryz.underlying116 Tryz.underlying9 hi hz hsize hby v n xs hown s h63 hb hB
  have hbk := append_block hi hz hsize hby hown h63 hb hB hr
  unfold Oper.wp execOp
  simp only [ho, resolve, invoke, builtin, Sem.run_bind, Sem.run_pure, Result.andThen_ok, List.map_toArray, List.map_cons, List.map_nil, hs, hx, hr]
  exact hK _ _ (h v' w' h2 h3 hbk)

set_option maxHeartbeats 2000000 in
set_option maxRecDepth 100000 in
/-- what WriteString does -/
theorem wstr (B b : Nat) (bs : List Value) (s : ByteArray) (w : World) (h : IsBuilder 118 5 B b bs w) (hlen : bs.length + s.size ≤ 140737488355328) (hBw : B ≤ w.heap.size) :
    Calls Tryz.prog 80 #[.pointer (some ⟨b, 0, none⟩), .string s] w fun e w' => e = .returned (.tuple #[.int .i64 s.size, .nilIface]) ∧ BuilderAt 118 5 B b (.pointer (some ⟨b, 0, none⟩)) (bs ++ strCells s) w' ∧
      Fr w w' b (rowOf w b) ∧ ∀ r, rowOf w' b = some r → rowOf w b = some r ∨ w.heap.size ≤ r := by
  obtain ⟨i0, hi, hz0, hz1, hz2⟩ := info_parts Tryz.Builder_Extra_169.infoByte
  go_enter Tryz.func80, Tryz.ntmps80
  go_wp2_with (go_at_call 122; refine (cc B b bs _ h).mono ?_)
  rintro e w1 ⟨rfl, h1, hf, hc1⟩
  obtain ⟨hB, v, hbk, hown, hne⟩ := h1
  have c0 : w1.cell? ⟨b, 0, none⟩ = some (.pointer (some ⟨b, 0, none⟩)) := by rw [cell_of_heap hbk]; rfl
  have c1 : w1.cell? ⟨b, 1, none⟩ = some v := by rw [cell_of_heap hbk]; rfl
  have hrow : rowOf w b = v.ownBlock := by rw [rowOf, ← hc1, c1]; rfl
  clear hc1
  go_wp2_with (at_builtin; refine wpList_append rfl _ _ rfl B i0 hi hz0 hz1 hz2 _ _ _ rfl hown s rfl ?c3 ?c4 ?c5 ?_)
  case c3 => unfold maxLen; omega
  case c4 => omega
  case c5 => have := hf.size; omega
  intro v' w2 hown' hgrow hblk
  have hlt : b < w1.heap.size := by
    rcases Nat.lt_or_ge b w1.heap.size with h' | h'
    · exact h'
    · simp [Array.getElem?_eq_none h'] at hbk
  have hb2 : w2.heap[b]? = some (.cells #[.pointer (some ⟨b, 0, none⟩), v] 118 (0, 0)) := by
    rw [hgrow.block b hlt (fun e => hne e.symm)]
    exact hbk
  have d0 : w2.cell? ⟨b, 0, none⟩ = some (.pointer (some ⟨b, 0, none⟩)) := by rw [cell_of_heap hb2]; rfl
  have d1 : w2.cell? ⟨b, 1, none⟩ = some v := by rw [cell_of_heap hb2]; rfl
  have f1 : w2.frozen? ⟨b, 1, none⟩ = false := frozen_of_heap hb2 1
  obtain ⟨ao, n', cap, rfl⟩ : ∃ ao n' cap, v' = .slice ao n' cap := by
    rcases hown'.2 with ⟨hv, _⟩ | ⟨g, cap, cur, hv, _⟩
    · exact ⟨_, _, _, hv⟩
    · exact ⟨_, _, _, hv⟩
  go_wp2
  go_ret2
  refine ⟨rfl, BuilderAt.put (T := 118) (e := 5) hB hb2 (bs' := bs ++ strCells s) (by simpa [strCells_length] using hown') (by decide), ?_⟩
  have hw2 : rowOf (w2.setCell ⟨b, 1, none⟩ (.slice ao n' cap)) b = Value.ownBlock (.slice ao n' cap) := by
    rw [rowOf, World.cell?_setCell_same _ _ _ d1]; rfl
  rw [hrow]
  refine ⟨⟨(hgrow.os.trans hf.os), (hgrow.tape.trans hf.tape), (hgrow.output.trans hf.output), by have := hf.size; have := hgrow.size; simp [World.setCell]; omega, fun k hk hkb hkr => by
    rw [heap_setCell_other _ _ k _ hkb, hgrow.block k (by have := hf.size; omega) hkr, hf.block k hk hkb (by simp)]⟩, fun r hr => ?_⟩
  rw [hw2] at hr
  rcases hblk with h | h | h
  · rw [h] at hr; cases hr
  · rw [h] at hr; exact .inl hr
  · rw [h] at hr
    have := hf.size
    simp at hr
    exact .inr (by omega)

theorem write_c : WriteC Tryz.prog 80 118 5 := ⟨hB80, fun B b bs s w h h1 h2 => wstr B b bs s w h h1 h2⟩
theorem string_c : StringC Tryz.prog 82 118 5 := ⟨hB82, fun B b l w h h2 => Any.Builder_String_any Tryz.lays169 Tryz.Builder_Extra_169 B b l w h h2⟩
end Go.Proofs.YtpjbbpilgfihbaaGreatDoor
/- Functions of package strings, out of the library's contracts. Own work of this seat. -/
set_option linter.unusedSimpArgs false
set_option linter.unusedVariables false
namespace Go.Proofs.YtpjbbpilgfihbaaGreatDoor
open Go Go.Av Go.RowKit

theorem pch_lib {g : Std} {f : FuncId} {args : List AV} {r : AV} (vs : List Value) (v : Value) (hb : hasBody Tryz.prog f = true) (ha : ∀ h vs', RL h Lf0 true vs' args → vs' = vs) (hr : ∀ h, RV h Lf0 true v r)
    (H : ∀ w, Stands g w → Calls Tryz.prog f vs.toArray w fun e w' => e = .returned v ∧ Same w w') : PcH Tryz.prog g f args (· = r) := by
  refine ⟨hb, fun h w vs' hg hm hv => ?_⟩
  have := ha h vs' hv
  subst this
  refine (H w hg).mono ?_
  rintro e w' ⟨rfl, hs⟩
  exact ⟨v, r, h, rfl, rfl, fun b o v e => ⟨hs.cell (hm b o v e).1, (hm b o v e).2⟩, fun _ _ _ x => x, fun b o e n => (n e).elim, hs, hr h⟩
theorem pc_lib {f : FuncId} {args : List AV} {r : AV} (vs : List Value) (v : Value) (hb : hasBody Tryz.prog f = true) (ha : ∀ h vs', RL h Lf0 true vs' args → vs' = vs) (hr : ∀ h, RV h Lf0 true v r)
    (H : ∀ w, Calls Tryz.prog f vs.toArray w fun e w' => e = .returned v ∧ Same w w') : Pc Tryz.prog f args (· = r) := by
  refine ⟨hb, fun h w vs' hm hv => ?_⟩
  have := ha h vs' hv
  subst this
  refine (H w).mono ?_
  rintro e w' ⟨rfl, hs⟩
  exact ⟨v, r, h, rfl, rfl, fun b o v e => ⟨hs.cell (hm b o v e).1, (hm b o v e).2⟩, fun _ _ _ x => x, fun b o e n => (n e).elim, hs, hr h⟩

theorem rv_str {h : Mem} {v : Value} {s : List UInt8} (r : RV h Lf0 true v (.str s)) : v = .string ⟨s.toArray⟩ := by cases r with | str => rfl
theorem rv_int {h : Mem} {v : Value} {k : IntKind} {n : Int} (r : RV h Lf0 true v (.int k n)) : v = .int k n := by cases r with | int => rfl
theorem two_strs (s p : List UInt8) : ∀ h vs', RL h Lf0 true vs' [.str s, .str p] → vs' = [.string ⟨s.toArray⟩, .string ⟨p.toArray⟩] := by
  intro h vs' r
  cases r with | cons r1 r => cases r with | cons r2 r => cases r; rw [rv_str r1, rv_str r2]


theorem cutPrefix_pc (s p : List UInt8) : Pc Tryz.prog 64 [.str s, .str p] (· = .tup [.str (Lib.trimPrefix s p), .bool (Lib.hasPrefix s p)]) :=
  pc_lib [_, _] (.tuple #[.string ⟨(Lib.trimPrefix s p).toArray⟩, .bool (Lib.hasPrefix s p)]) hB64 (two_strs s p) (fun h => .tup [_, _] [_, _] (.cons (.str _) (.cons (.bool _) .nil)))
    fun w => (Any.strings_CutPrefix Tryz.lays103 ⟨s.toArray⟩ ⟨p.toArray⟩ w).mono fun e w' ⟨h1, h2⟩ => ⟨h1, h2 ▸ .refl w⟩
theorem hasPrefix_pc (s p : List UInt8) : Pc Tryz.prog 79 [.str s, .str p] (· = .bool (Lib.hasPrefix s p)) :=
  pc_lib [_, _] (.bool (Lib.hasPrefix s p)) hB79 (two_strs s p) (fun h => .bool _) fun w => (Any.strings_HasPrefix Tryz.lays99 ⟨s.toArray⟩ ⟨p.toArray⟩ w).mono fun e w' ⟨h1, h2⟩ => ⟨h1, h2 ▸ .refl w⟩
theorem hasSuffix_pc (s p : List UInt8) (hs : s.length ≤ 9223372036854775807) : Pc Tryz.prog 56 [.str s, .str p] (· = .bool (Lib.hasSuffix s p)) :=
  pc_lib [_, _] (.bool (Lib.hasSuffix s p)) hB56 (two_strs s p) (fun h => .bool _) fun w => (Any.strings_HasSuffix Tryz.lays100 ⟨s.toArray⟩ ⟨p.toArray⟩ w hs).mono fun e w' ⟨h1, h2⟩ => ⟨h1, h2 ▸ .refl w⟩
theorem lastIndex_pc (s p : List UInt8) (hs : s.length < 4611686018427387904) : Pc Tryz.prog 170 [.str s, .str p] (· = .int .i64 (Lib.lastIndex s p)) :=
  pc_lib [_, _] (.int .i64 (Lib.lastIndex s p)) hB170 (two_strs s p) (fun h => .int _ _) fun w => (Any.strings_LastIndex Tryz.lays148 ⟨s.toArray⟩ ⟨p.toArray⟩ hs w).mono fun e w' ⟨h1, h2⟩ => ⟨h1, h2 ▸ .refl w⟩
theorem indexByte_pc (s : List UInt8) (c : Int) : Pc Tryz.prog 119 [.str s, .int .u8 c] (· = .int .i64 (Lib.indexByte s c.toNat.toUInt8)) :=
  pc_lib [.string ⟨s.toArray⟩, .int .u8 c] (.int .i64 (Lib.indexByte s c.toNat.toUInt8)) hB119 (fun h vs' r => by cases r with | cons r1 r => cases r with | cons r2 r => cases r; rw [rv_str r1, rv_int r2]) (fun h => .int _ _)
    fun w => (Any.strings_IndexByte Tryz.lays137 ⟨s.toArray⟩ c w).mono fun e w' ⟨h1, h2⟩ => ⟨h1, h2 ▸ .refl w⟩


theorem contains_pch {S : Std} (hS : LibOk S) (s p : List UInt8) (hs : s.length < 4294967281) : PcH Tryz.prog S 115 [.str s, .str p] (· = .bool (Lib.contains s p)) :=
  pch_lib [_, _] (.bool (Lib.contains s p)) hB115 (two_strs s p) (fun h => .bool _) fun w H => (Any.strings_Contains Tryz.lays144 ⟨s.toArray⟩ ⟨p.toArray⟩ _ w hs (hS.cell.choose_spec w H)).mono fun e w' ⟨h1, h2⟩ => ⟨h1, h2 ▸ .refl w⟩

theorem same_drewN (w : World) : ∀ n, Same w (w.drewN n) := fun n => ⟨rfl, rfl, rfl, Nat.le_refl _, fun _ _ => rfl⟩

theorem cut_pch {S : Std} (hS : LibOk S) (s p : List UInt8) (hs : s.length < 4294967281) : PcH Tryz.prog S 169 [.str s, .str p] (· = .tup [.str (Lib.cut s p).1, .str (Lib.cut s p).2.1, .bool (Lib.cut s p).2.2]) :=
  pch_lib [_, _] (.tuple #[.string ⟨(Lib.cut s p).1.toArray⟩, .string ⟨(Lib.cut s p).2.1.toArray⟩, .bool (Lib.cut s p).2.2]) hB169 (two_strs s p) (fun h => .tup [_, _, _] [_, _, _] (.cons (.str _) (.cons (.str _) (.cons (.bool _) .nil))))
    fun w H => (Any.strings_Cut Tryz.lays145 ⟨s.toArray⟩ ⟨p.toArray⟩ _ w hs (hS.cell.choose_spec w H)).mono fun e w' ⟨h1, n, h2⟩ => ⟨h1, h2 ▸ same_drewN w n⟩

/-- the pieces of a text, as lists of bytes -/
def splitL (s p : List UInt8) : List (List UInt8) := (Lib.splitB ⟨p.toArray⟩ 0 (Lib.countB ⟨s.toArray⟩ ⟨p.toArray⟩) ⟨s.toArray⟩).map (·.data.toList)

theorem split_pch {S : Std} (hS : LibOk S) (s p : List UInt8) (hs : s.length < 4294967281) (hp : 1 ≤ p.length) : PcH Tryz.prog S 62 [.str s, .str p] (· = .fz 1 (splitL s p |>.map .str)) := by
  refine ⟨hB62, fun h w vs' hg hm hv => ?_⟩
  have := two_strs s p h vs' hv
  subst this
  refine (Any.strings_Split Tryz.lays146 (by kernel_rfl) ⟨s.toArray⟩ ⟨p.toArray⟩ _ w hs (hS.cell.choose_spec w hg) hp).mono ?_
  rintro e w' ⟨rfl, rfl⟩
  have hlen := Lib.splitB_all ⟨p.toArray⟩ hp 0 _ ⟨s.toArray⟩ rfl
  generalize hL : Lib.splitB ⟨p.toArray⟩ 0 (Lib.countB ⟨s.toArray⟩ ⟨p.toArray⟩) ⟨s.toArray⟩ = L at hlen ⊢
  have hsl : splitL s p = L.map (·.data.toList) := by rw [splitL, hL]
  have hval : L.map Value.string = (splitL s p).map sval := by
    rw [hsl, List.map_map]; rfl
  rw [hval, ← hlen, show L.length = (splitL s p).length by rw [hsl]; simp]
  have h1 : ∀ v ∈ (splitL s p).map sval, v.oneCell' = true := by intro v hv; obtain ⟨x, _, rfl⟩ := List.mem_map.1 hv; rfl
  have hmine : Mine h (fun _ => none) [] w := ⟨hm, fun id blk e => by simp at e, fun _ _ => rfl, fun i j g t t' e => by simp at e, fun i g t e => by simp at e⟩
  obtain ⟨m2, l2⟩ := hmine.freezeNew ((splitL s p).map sval) 9 h1
  refine ⟨_, _, Mem.add h w.heap.size ((splitL s p).map sval), rfl, rfl, m2.mem, l2.hle, fun b o e n => ?_, .alloc w _, ?_⟩
  · rcases l2.hnew b o e n with ⟨j, t, hj⟩ | hs
    · cases hj
    · exact hs
  · have := RV.fz (h := Mem.add h w.heap.size ((splitL s p).map sval)) (Lf := Lf0) (fl := true) w.heap.size 0 (splitL s p).length 1 ((splitL s p).map .str) ((splitL s p).map sval) ?_ (by simp [cellsOf]) ?_ (by simp)
    · simpa using this
    · rw [flat_strs]
      generalize Mem.add h w.heap.size ((splitL s p).map sval) = hh
      generalize splitL s p = z
      induction z with
      | nil => exact .nil
      | cons x z ih => exact .cons (.str x) ih
    · intro k v hv
      simp only [Mem.add, Nat.zero_add, if_true]
      exact hv
end Go.Proofs.YtpjbbpilgfihbaaGreatDoor
/- strings.SplitSeq at one blank: an iterator's contract. Own work of this seat. -/
set_option maxRecDepth 100000
set_option linter.unusedSimpArgs false
set_option linter.unusedVariables false
namespace Go.Proofs.YtpjbbpilgfihbaaGreatDoor
open Go Go.Av Go.RowKit
attribute [local go_sem ↓] br_true br_false dbr_true dbr_false dbri_true dbri_false dbrg_true dbrg_false
attribute [local go_sem] run cont br dbr dx dxc dgrd dyld dres dcall calm fieldPlace? allHas step1 opN grdN resN condN exitN stopN exitIt dOk xop xbin xint xarith xstr xbool xpick xnot xneg xextract xpart xpartOk xindex xfieldF fieldD xnew xbox xalloc xfieldAddr xptrAddIf xindexAddr xloadC xload putCells reElem xstoreB xstore xconv xtext xlen xlen2 xcall xfill xbuild cut rep xbuildSlice xbuildSliceD isRow elemD isU8 ev evs evp Go.Av.put Go.Av.get ofConst yldD yldV notBool_undef args0 cellsOf cond_true cond_false decide_true decide_false decide_eq_true_eq decide_eq_false_iff_not List.getElem?_cons_zero List.getElem?_cons_succ List.getElem?_nil List.getD_cons_zero List.getD_cons_succ List.getD_nil List.set_cons_zero List.set_cons_succ List.length_cons List.length_nil List.cons_append List.nil_append List.append_nil List.all_cons List.all_nil List.map_cons List.map_nil List.take_succ_cons List.take_zero List.drop_succ_cons List.drop_zero Bool.and_true Bool.true_and Bool.and_self Bool.and_false Bool.false_and one Go.Av.frozen beq_self_eq_true true_and and_true forall_const false_implies implies_true and_self Option.map_some Option.map_none Nat.zero_add Nat.add_zero Nat.zero_mul Nat.mul_one Nat.one_mul Int.toNat_zero ne_eq not_false_eq_true not_true_eq_false Bool.true_eq_false Bool.false_eq_true List.toList_toArray inr Go.Av.byteOf isByte decide_eq_decide Bool.not_true Bool.not_false Bool.not_eq_true' Bool.or_true Bool.true_or Bool.or_false Bool.false_or ge_iff_le gt_iff_lt and_assoc Bool.decide_eq_true beq_iff_eq beq_eq_false_iff_ne bne_iff_ne bne_self_eq_false if_true if_false Bool.and_eq_true Bool.or_eq_true Bool.and_eq_false_imp Bool.or_eq_false_iff Bool.not_eq_false' has Option.isSome_some Option.isSome_none Int.toNat_natCast Int.cast_ofNat_Int List.length_append xapp2 xapp xappS xappD xappB notInt srcOf srcB byteAV splice' xcut xcutS xcutF xcutB xcutN xcut0 cutL loOf hiOf evo xmake zelem xmax xcopy2 xcopyS xcopyB xnil xcut3 ixOf xclear2 xclearB List.getElem?_toArray xbin2 xnileq xempty xmkmap xmput xmputB xmputF isKey keyEq mfind xbin3 xeqs xeqop eqFs bothB leafEq xlook xlookB xlookF xbytes beq_c_n beq_n_c bne_c_n bne_n_c one_nil dxi dxic dbri rix dck reader blind opOk refOk Go.Op.operands Go.Call.operands List.contains_cons List.contains_nil dxg dxgc dbrg pck putD List.lookup_cons List.lookup_nil ts2 tb2 zl2 za2 Tryz.underlying2 ts3 tb3 zl3 za3 Tryz.underlying3 ts4 tb4 zl4 za4 Tryz.underlying4 ts5 tb5 zl5 za5 Tryz.underlying5 ts6 tb6 zl6 za6 Tryz.underlying6 ts7 tb7 za7 Tryz.underlying7 ts8 tb8 za8 Tryz.underlying8 ts9 tb9 zl9 za9 Tryz.underlying9 ts10 tb10 zl10 za10 Tryz.underlying10 ts11 tb11 zl11 za11 Tryz.underlying11 ts12 tb12 zl12 za12 Tryz.underlying12 ts13 tb13 za13 Tryz.underlying13 ts14 tb14 za14 Tryz.underlying14 ts18 tb18 za18 Tryz.underlying18 ts19 tb19 za19 Tryz.underlying19 ts21 tb21 zl21 za21 Tryz.underlying21 ts22 tb22 zl22 za22 Tryz.underlying22 ts24 tb24 za24 Tryz.underlying24 ts25 tb25 za25 Tryz.underlying25 ts27 tb27 zl27 za27 Tryz.underlying27 ts35 tb35 zl35 za35 Tryz.underlying35 ts36 tb36 za36 Tryz.underlying36 ts37 tb37 za37 Tryz.underlying37 ts39 tb39 zl39 za39 Tryz.underlying39 ts41 tb41 za41 Tryz.underlying41 ts42 tb42 za42 Tryz.underlying42 ts63 tb63 zl63 za63 Tryz.underlying63 ts64 tb64 zl64 za64 Tryz.underlying64 ts65 tb65 za65 Tryz.underlying65 ts66 tb66 za66 Tryz.underlying66 ts67 tb67 zl67 za67 Tryz.underlying67 ts69 tb69 za69 Tryz.underlying69 ts70 tb70 za70 Tryz.underlying70 ts73 tb73 za73 Tryz.underlying73 ts74 tb74 za74 Tryz.underlying74 ts75 tb75 zl75 za75 Tryz.underlying75 ts82 tb82 zl82 za82 Tryz.underlying82 ts96 tb96 za96 Tryz.underlying96 ts97 tb97 za97 Tryz.underlying97 ts103 tb103 za103 Tryz.underlying103 ts104 tb104 za104 Tryz.underlying104 ts109 tb109 zl109 za109 Tryz.underlying109 ts116 tb116 zl116 za116 Tryz.underlying116 ts117 tb117 za117 Tryz.underlying117 ts118 tb118 za118 Tryz.underlying118 ts120 tb120 zl120 za120 Tryz.underlying120 ts124 tb124 zl124 za124 Tryz.underlying124 ts126 tb126 za126 Tryz.underlying126 ts128 tb128 zl128 za128 Tryz.underlying128 ts130 tb130 za130 Tryz.underlying130 ts131 tb131 za131 Tryz.underlying131 ts153 tb153 zl153 za153 Tryz.underlying153 ts167 tb167 zl167 za167 Tryz.underlying167 ts171 tb171 zl171 za171 Tryz.underlying171 ts177 tb177 zl177 za177 Tryz.underlying177 ts183 tb183 zl183 za183 Tryz.underlying183 ts189 tb189 zl189 za189 Tryz.underlying189 ts191 tb191 zl191 za191 Tryz.underlying191 ts195 tb195 za195 Tryz.underlying195 ts196 tb196 za196 Tryz.underlying196 ts198 tb198 zl198 za198 Tryz.underlying198 ts203 tb203 Tryz.underlying203 ts209 tb209 za209 Tryz.underlying209 ts210 tb210 za210 Tryz.underlying210 ts211 tb211 Tryz.underlying211 ts216 tb216 za216 Tryz.underlying216 ts217 tb217 za217 Tryz.underlying217 ts220 tb220 Tryz.underlying220 ts225 tb225 Tryz.underlying225 ts226 tb226 Tryz.underlying226 ts227 tb227 za227 Tryz.underlying227 ts228 tb228 za228 Tryz.underlying228 ts232 tb232 zl232 za232 Tryz.underlying232 ts233 tb233 zl233 za233 Tryz.underlying233 ts235 tb235 zl235 za235 Tryz.underlying235 ts236 tb236 zl236 za236 Tryz.underlying236 ts237 tb237 za237 Tryz.underlying237 ts238 tb238 za238 Tryz.underlying238

def consW (c : UInt8) : List (List UInt8) → List (List UInt8)
  | [] => [[c]]
  | w :: ws => (c :: w) :: ws
/-- the pieces of a text between blanks -/
def splitW : List UInt8 → List (List UInt8)
  | [] => [[]]
  | c :: r => if c == 32 then [] :: splitW r else consW c (splitW r)
theorem split_idx : ∀ q : List UInt8, (Lib.index q [32] = -1 ∧ splitW q = [q]) ∨ ∃ i : Nat, Lib.index q [32] = i ∧ i < q.length ∧ splitW q = q.take i :: splitW (q.drop (i + 1))
  | [] => .inl ⟨rfl, rfl⟩
  | c :: r => by
    by_cases hc : c = 32
    · subst hc
      exact .inr ⟨0, by simp [Lib.index], by simp, by simp [splitW]⟩
    · have h1 : (c == 32) = false := by simpa using hc
      have h2 : ((32 : UInt8) == c) = false := by simpa using fun e => hc e.symm
      rcases split_idx r with ⟨h3, h4⟩ | ⟨i, h3, h4, h5⟩
      · refine .inl ⟨?_, by simp [splitW, h1, h4, consW]⟩
        simp [Lib.index, h3]
        exact fun e => hc e.symm
      · refine .inr ⟨i + 1, ?_, by simpa using h4, by simp [splitW, h1, h5, consW]⟩
        have : ((i : Int) == -1) = false := by rw [beq_eq_false_iff_ne]; omega
        simp [Lib.index, h3, this]
        exact fun e => (hc e.symm).elim

theorem index_pch {S : Std} (hS : LibOk S) (s p : List UInt8) (hs : s.length < 4294967281) : PcH Tryz.prog S 137 [.str s, .str p] (· = .int .i64 (Lib.index s p)) :=
  pch_lib [_, _] (.int .i64 (Lib.index s p)) hB137 (two_strs s p) (fun h => .int _ _) fun w H => (Any.strings_Index { Tryz.lays144 with } ⟨s.toArray⟩ ⟨p.toArray⟩ _ w hs (hS.cell.choose_spec w H)).mono fun e w' ⟨h1, h2⟩ => ⟨h1, h2 ▸ .refl w⟩

theorem splitSeq_ct (sto : List Blk) (t p : List UInt8) : Ct Tryz.prog 196 [.str t, .str p, .int .i64 0] sto (fun r s => r = .fn (.func 207) [.ptr (sto.length + 1) 1 0 0, .ptr sto.length 1 0 0, .ptr (sto.length + 1 + 1) 1 0 0] ∧ s = sto ++ [.arr 1 [.str t]] ++ [.arr 1 [.str p]] ++ [.arr 1 [.int .i64 0]]) := by
  refine ct_intro Tryz.func196 rfl Tryz.ntmps196 hB196 (by simp) fun h ρ w => go (N := 8) Tryz.ntmps196 300 ?_
  simp only [go_sem, Nat.reduceAdd, Nat.reduceMul, Nat.reduceSub, Nat.reduceBEq, Nat.reduceLT, Nat.reduceLeDiff, reduceIte, reduceCtorEq, Int.reduceToNat, Int.reduceLE, Int.reduceLT, Int.reduceNe, Int.reduceMul, Int.reduceAdd, Int.reduceSub, Int.reduceDiv, Int.reduceMod, Int.reduceEq, Int.reduceGE, Int.reduceGT, Int.reduceNeg, Int.reduceBEq, Int.reduceBNe, Nat.reduceEqDiff, List.length_append]
  exact aret [6] rfl ⟨rfl, rfl⟩
theorem splitSeqB_ct (sto : List Blk) (t p : List UInt8) : Ct Tryz.prog 177 [.str t, .str p] sto (fun r s => r = .fn (.func 207) [.ptr (sto.length + 1) 1 0 0, .ptr sto.length 1 0 0, .ptr (sto.length + 1 + 1) 1 0 0] ∧ s = sto ++ [.arr 1 [.str t]] ++ [.arr 1 [.str p]] ++ [.arr 1 [.int .i64 0]]) := by
  refine ct_intro Tryz.func177 rfl Tryz.ntmps177 hB177 (by simp) fun h ρ w => go (N := 8) Tryz.ntmps177 300 ?_
  simp only [go_sem, Nat.reduceAdd, Nat.reduceMul, Nat.reduceSub, Nat.reduceBEq, Nat.reduceLT, Nat.reduceLeDiff, reduceIte, reduceCtorEq, Int.reduceToNat, Int.reduceLE, Int.reduceLT, Int.reduceNe, Int.reduceMul, Int.reduceAdd, Int.reduceSub, Int.reduceDiv, Int.reduceMod, Int.reduceEq, Int.reduceGE, Int.reduceGT, Int.reduceNeg, Int.reduceBEq, Int.reduceBNe, Nat.reduceEqDiff]
  refine acall (splitSeq_ct sto t p) (N := 8) Tryz.ntmps177 rfl ?_
  rintro _ _ ⟨rfl, rfl⟩
  refine go (N := 8) Tryz.ntmps177 300 ?_
  simp only [go_sem, Nat.reduceAdd, Nat.reduceMul, Nat.reduceSub, Nat.reduceBEq, Nat.reduceLT, Nat.reduceLeDiff, reduceIte, reduceCtorEq, Int.reduceToNat, Int.reduceLE, Int.reduceLT, Int.reduceNe, Int.reduceMul, Int.reduceAdd, Int.reduceSub, Int.reduceDiv, Int.reduceMod, Int.reduceEq, Int.reduceGE, Int.reduceGT, Int.reduceNeg, Int.reduceBEq, Int.reduceBNe, Nat.reduceEqDiff]
  exact aret [4] rfl ⟨rfl, rfl⟩

set_option maxHeartbeats 2000000 in
/-- the iterator hands on the pieces; the part of the text that is left lies in its block 'is' -/
theorem splitSeq_it {St : Std} (hS : LibOk St) (text : List UInt8) (hl : text.length < 100000000) (S : Nat → List UInt8 → List Blk) (ip is iz : Nat) (h1 : ∀ j q, (S j q).getD ip .dead = .arr 1 [.str [32]]) (h2 : ∀ j q, (S j q).getD is .dead = .arr 1 [.str q])
    (h3 : ∀ j q, (S j q).getD iz .dead = .arr 1 [.int .i64 0]) (h4 : ∀ j q q', (S j q).set is (.arr 1 [.str q']) = S j q') :
    ItC Tryz.prog St 207 [.ptr ip 1 0 0, .ptr is 1 0 0, .ptr iz 1 0 0] ((splitW text).map .str) S text := by
  refine itc_intro Tryz.func207 rfl Tryz.ntmps207 hB207 rfl (by simp) fun l c out hP hfn hsto hg hY hfin => ?_
  obtain ⟨P, fn, h, ρ, sto, w, post, x, hx⟩ := c
  simp only at hP hfn hsto hg hY
  subst hP; subst hfn; subst hsto
  refine goR (N := 52) Tryz.ntmps207 300 ?_
  simp only [go_sem, Nat.reduceAdd, Nat.reduceMul, Nat.reduceSub, Nat.reduceBEq, Nat.reduceLT, Nat.reduceLeDiff, reduceIte, reduceCtorEq, Int.reduceToNat, Int.reduceLE, Int.reduceLT, Int.reduceNe, Int.reduceMul, Int.reduceAdd, Int.reduceSub, Int.reduceDiv, Int.reduceMod, Int.reduceEq, Int.reduceGE, Int.reduceGT, Int.reduceNeg, Int.reduceBEq, Int.reduceBNe, Nat.reduceEqDiff, runR, contR, brR, step1R, resNR, stopNR, exitNR, dxk, dxkc, dbrk, ↓brR_true, ↓brR_false, ↓dbrk_true, ↓dbrk_false, h1, h2, h3]
  refine aloopR (ι := Nat × List UInt8) (fun y => y.2.length) (fun _ => [(0, .raw (.func (.yield l) #[] #[])), (1, .ptr ip 1 0 0), (2, .ptr is 1 0 0), (3, .ptr iz 1 0 0)]) (fun y => S y.1 y.2)
    (fun y => (splitW text).drop y.1 = splitW y.2 ∧ y.2.length ≤ text.length) (0, text) ⟨rfl, Nat.le_refl _⟩ ?_ ?_
  · refine Shift.weak ?_
    simp only [wk, go_sem, Nat.reduceAdd, Nat.reduceMul, Nat.reduceSub, Nat.reduceBEq, Nat.reduceLT, Nat.reduceLeDiff, reduceIte, reduceCtorEq, Int.reduceToNat, Int.reduceLE, Int.reduceLT, Int.reduceNe, Int.reduceMul, Int.reduceAdd, Int.reduceSub, Int.reduceDiv, Int.reduceMod, Int.reduceEq, Int.reduceGE, Int.reduceGT, Int.reduceNeg, Int.reduceBEq, Int.reduceBNe, Nat.reduceEqDiff]
  · rintro ⟨j, q⟩ ⟨g1, g2⟩ J hJ
    simp only at g1 g2 hJ ⊢
    have hidx := index_pch hS q [32] (by omega)
    have hat : ∀ a r, splitW q = a :: r → (List.map AV.str (splitW text))[j]? = some (.str a) := fun a r e => by
      rw [e] at g1
      have : (splitW text)[j]? = some a := by
        have := congrArg (·[0]?) g1
        simpa using this
      simp [this]
    rcases split_idx q with ⟨e1, e2⟩ | ⟨i, e1, e2, e3⟩
    · rw [e1] at hidx
      have hn : (List.map AV.str (splitW text)).length = j + 1 := by
        rw [e2] at g1
        have := congrArg List.length g1
        simp at this ⊢; omega
      refine goR (N := 52) Tryz.ntmps207 300 ?_
      simp only [go_sem, Nat.reduceAdd, Nat.reduceMul, Nat.reduceSub, Nat.reduceBEq, Nat.reduceLT, Nat.reduceLeDiff, reduceIte, reduceCtorEq, Int.reduceToNat, Int.reduceLE, Int.reduceLT, Int.reduceNe, Int.reduceMul, Int.reduceAdd, Int.reduceSub, Int.reduceDiv, Int.reduceMod, Int.reduceEq, Int.reduceGE, Int.reduceGT, Int.reduceNeg, Int.reduceBEq, Int.reduceBNe, Nat.reduceEqDiff, runR, contR, brR, step1R, resNR, stopNR, exitNR, dxk, dxkc, dbrk, ↓brR_true, ↓brR_false, ↓dbrk_true, ↓dbrk_false, h1, h2, h3]
      refine pcallHR1 hg (hidx) rfl (N := 52) Tryz.ntmps207 rfl (goR (N := 52) Tryz.ntmps207 300 ?_)
      simp only [go_sem, Nat.reduceAdd, Nat.reduceMul, Nat.reduceSub, Nat.reduceBEq, Nat.reduceLT, Nat.reduceLeDiff, reduceIte, reduceCtorEq, Int.reduceToNat, Int.reduceLE, Int.reduceLT, Int.reduceNe, Int.reduceMul, Int.reduceAdd, Int.reduceSub, Int.reduceDiv, Int.reduceMod, Int.reduceEq, Int.reduceGE, Int.reduceGT, Int.reduceNeg, Int.reduceBEq, Int.reduceBNe, Nat.reduceEqDiff, runR, contR, brR, step1R, resNR, stopNR, exitNR, dxk, dxkc, dbrk, ↓brR_true, ↓brR_false, ↓dbrk_true, ↓dbrk_false, h1, h2, h3]
      refine ayield (f := ?f) (x := ?x) (ts := ?ts) (s' := S (j + 1) q) (l := l) ?ho ?hf ?_ ?_
      case ho => rfl
      case hf => rfl
      · intro a1 a2 a3 a4 b1 b2 b3 b4
        exact hY j q (.str q) (hat q [] e2) a1 a2 a3 a4 b1 b2 b3 b4
      refine goR (N := 52) Tryz.ntmps207 300 ?_
      simp only [go_sem, Nat.reduceAdd, Nat.reduceMul, Nat.reduceSub, Nat.reduceBEq, Nat.reduceLT, Nat.reduceLeDiff, reduceIte, reduceCtorEq, Int.reduceToNat, Int.reduceLE, Int.reduceLT, Int.reduceNe, Int.reduceMul, Int.reduceAdd, Int.reduceSub, Int.reduceDiv, Int.reduceMod, Int.reduceEq, Int.reduceGE, Int.reduceGT, Int.reduceNeg, Int.reduceBEq, Int.reduceBNe, Nat.reduceEqDiff, runR, contR, brR, step1R, resNR, stopNR, exitNR, dxk, dxkc, dbrk, ↓brR_true, ↓brR_false, ↓dbrk_true, ↓dbrk_false]
      rw [← hn]
      exact AOut.shift (e' := []) (Shift.weak trivial) (hfin .normal q (.inl rfl))
    · rw [e1] at hidx
      have hlt : decide ((i : Int) < 0) = false := by simp
      refine goR (N := 52) Tryz.ntmps207 300 ?_
      simp only [go_sem, Nat.reduceAdd, Nat.reduceMul, Nat.reduceSub, Nat.reduceBEq, Nat.reduceLT, Nat.reduceLeDiff, reduceIte, reduceCtorEq, Int.reduceToNat, Int.reduceLE, Int.reduceLT, Int.reduceNe, Int.reduceMul, Int.reduceAdd, Int.reduceSub, Int.reduceDiv, Int.reduceMod, Int.reduceEq, Int.reduceGE, Int.reduceGT, Int.reduceNeg, Int.reduceBEq, Int.reduceBNe, Nat.reduceEqDiff, runR, contR, brR, step1R, resNR, stopNR, exitNR, dxk, dxkc, dbrk, ↓brR_true, ↓brR_false, ↓dbrk_true, ↓dbrk_false, h1, h2, h3]
      refine pcallHR1 hg (hidx) rfl (N := 52) Tryz.ntmps207 rfl (goR (N := 52) Tryz.ntmps207 300 ?_)
      simp only [go_sem, Nat.reduceAdd, Nat.reduceMul, Nat.reduceSub, Nat.reduceBEq, Nat.reduceLT, Nat.reduceLeDiff, reduceIte, reduceCtorEq, Int.reduceToNat, Int.reduceLE, Int.reduceLT, Int.reduceNe, Int.reduceMul, Int.reduceAdd, Int.reduceSub, Int.reduceDiv, Int.reduceMod, Int.reduceEq, Int.reduceGE, Int.reduceGT, Int.reduceNeg, Int.reduceBEq, Int.reduceBNe, Nat.reduceEqDiff, runR, contR, brR, step1R, resNR, stopNR, exitNR, dxk, dxkc, dbrk, ↓brR_true, ↓brR_false, ↓dbrk_true, ↓dbrk_false, h1, h2, h3, hlt]
      repeat refine And.intro (by first | omega | exact .inl trivial | (simp; done) | (simp; omega)) ?_
      refine ayield (f := ?f2) (x := ?x2) (ts := ?ts2) (s' := S (j + 1) q) (l := l) ?ho2 ?hf2 ?_ ?_
      case ho2 => rfl
      case hf2 => rfl
      · intro a1 a2 a3 a4 b1 b2 b3 b4
        exact hY j q (.str (q.take i)) (hat _ _ e3) a1 a2 a3 a4 b1 b2 b3 (by simpa [ev, Av.get, Av.put, cutL] using b4)
      refine goR (N := 52) Tryz.ntmps207 300 ?_
      simp only [go_sem, Nat.reduceAdd, Nat.reduceMul, Nat.reduceSub, Nat.reduceBEq, Nat.reduceLT, Nat.reduceLeDiff, reduceIte, reduceCtorEq, Int.reduceToNat, Int.reduceLE, Int.reduceLT, Int.reduceNe, Int.reduceMul, Int.reduceAdd, Int.reduceSub, Int.reduceDiv, Int.reduceMod, Int.reduceEq, Int.reduceGE, Int.reduceGT, Int.reduceNeg, Int.reduceBEq, Int.reduceBNe, Nat.reduceEqDiff, runR, contR, brR, step1R, resNR, stopNR, exitNR, dxk, dxkc, dbrk, ↓brR_true, ↓brR_false, ↓dbrk_true, ↓dbrk_false, h1, h2, h3, h4]
      repeat refine And.intro (by first | omega | exact .inl trivial | (simp; done) | (simp; omega)) ?_
      refine ainvR (hJ (j + 1, q.drop (i + 1)) ⟨?_, by simp; omega⟩ (by simp; omega)) (Shift.weak ?_)
      · rw [e3] at g1
        rw [← List.drop_drop, g1]
        rfl
      · simp only [wk, go_sem, Nat.reduceAdd, Nat.reduceMul, Nat.reduceSub, Nat.reduceBEq, Nat.reduceLT, Nat.reduceLeDiff, reduceIte, reduceCtorEq, Int.reduceToNat, Int.reduceLE, Int.reduceLT, Int.reduceNe, Int.reduceMul, Int.reduceAdd, Int.reduceSub, Int.reduceDiv, Int.reduceMod, Int.reduceEq, Int.reduceGE, Int.reduceGT, Int.reduceNeg, Int.reduceBEq, Int.reduceBNe, Nat.reduceEqDiff]
end Go.Proofs.YtpjbbpilgfihbaaGreatDoor
/- What strings are: plain, proper, sets. Own work of this seat. -/
set_option maxRecDepth 100000
set_option linter.unusedSimpArgs false
set_option linter.unusedVariables false
namespace Go.Proofs.YtpjbbpilgfihbaaGreatDoor
open Go Go.Av Go.RowKit
attribute [local go_sem ↓] br_true br_false dbr_true dbr_false dbri_true dbri_false dbrg_true dbrg_false
attribute [local go_sem] run cont br dbr dx dxc dgrd dyld dres dcall calm fieldPlace? allHas step1 opN grdN resN condN exitN stopN exitIt dOk xop xbin xint xarith xstr xbool xpick xnot xneg xextract xpart xpartOk xindex xfieldF fieldD xnew xbox xalloc xfieldAddr xptrAddIf xindexAddr xloadC xload putCells reElem xstoreB xstore xconv xtext xlen xlen2 xcall xfill xbuild cut rep xbuildSlice xbuildSliceD isRow elemD isU8 ev evs evp Go.Av.put Go.Av.get ofConst yldD yldV notBool_undef args0 cellsOf cond_true cond_false decide_true decide_false decide_eq_true_eq decide_eq_false_iff_not List.getElem?_cons_zero List.getElem?_cons_succ List.getElem?_nil List.getD_cons_zero List.getD_cons_succ List.getD_nil List.set_cons_zero List.set_cons_succ List.length_cons List.length_nil List.cons_append List.nil_append List.append_nil List.all_cons List.all_nil List.map_cons List.map_nil List.take_succ_cons List.take_zero List.drop_succ_cons List.drop_zero Bool.and_true Bool.true_and Bool.and_self Bool.and_false Bool.false_and one Go.Av.frozen beq_self_eq_true true_and and_true forall_const false_implies implies_true and_self Option.map_some Option.map_none Nat.zero_add Nat.add_zero Nat.zero_mul Nat.mul_one Nat.one_mul Int.toNat_zero ne_eq not_false_eq_true not_true_eq_false Bool.true_eq_false Bool.false_eq_true List.toList_toArray inr Go.Av.byteOf isByte decide_eq_decide Bool.not_true Bool.not_false Bool.not_eq_true' Bool.or_true Bool.true_or Bool.or_false Bool.false_or ge_iff_le gt_iff_lt and_assoc Bool.decide_eq_true beq_iff_eq beq_eq_false_iff_ne bne_iff_ne bne_self_eq_false if_true if_false Bool.and_eq_true Bool.or_eq_true Bool.and_eq_false_imp Bool.or_eq_false_iff Bool.not_eq_false' has Option.isSome_some Option.isSome_none Int.toNat_natCast Int.cast_ofNat_Int List.length_append xapp2 xapp xappS xappD xappB notInt srcOf srcB byteAV splice' xcut xcutS xcutF xcutB xcutN xcut0 cutL loOf hiOf evo xmake zelem xmax xcopy2 xcopyS xcopyB xnil xcut3 ixOf xclear2 xclearB List.getElem?_toArray xbin2 xnileq xempty xmkmap xmput xmputB xmputF isKey keyEq mfind xbin3 xeqs xeqop eqFs bothB leafEq xlook xlookB xlookF xbytes beq_c_n beq_n_c bne_c_n bne_n_c one_nil dxi dxic dbri rix dck reader blind opOk refOk Go.Op.operands Go.Call.operands List.contains_cons List.contains_nil dxg dxgc dbrg pck putD List.lookup_cons List.lookup_nil ts2 tb2 zl2 za2 Tryz.underlying2 ts3 tb3 zl3 za3 Tryz.underlying3 ts4 tb4 zl4 za4 Tryz.underlying4 ts5 tb5 zl5 za5 Tryz.underlying5 ts6 tb6 zl6 za6 Tryz.underlying6 ts7 tb7 za7 Tryz.underlying7 ts8 tb8 za8 Tryz.underlying8 ts9 tb9 zl9 za9 Tryz.underlying9 ts10 tb10 zl10 za10 Tryz.underlying10 ts11 tb11 zl11 za11 Tryz.underlying11 ts12 tb12 zl12 za12 Tryz.underlying12 ts13 tb13 za13 Tryz.underlying13 ts14 tb14 za14 Tryz.underlying14 ts18 tb18 za18 Tryz.underlying18 ts19 tb19 za19 Tryz.underlying19 ts21 tb21 zl21 za21 Tryz.underlying21 ts22 tb22 zl22 za22 Tryz.underlying22 ts24 tb24 za24 Tryz.underlying24 ts25 tb25 za25 Tryz.underlying25 ts27 tb27 zl27 za27 Tryz.underlying27 ts35 tb35 zl35 za35 Tryz.underlying35 ts36 tb36 za36 Tryz.underlying36 ts37 tb37 za37 Tryz.underlying37 ts39 tb39 zl39 za39 Tryz.underlying39 ts41 tb41 za41 Tryz.underlying41 ts42 tb42 za42 Tryz.underlying42 ts63 tb63 zl63 za63 Tryz.underlying63 ts64 tb64 zl64 za64 Tryz.underlying64 ts65 tb65 za65 Tryz.underlying65 ts66 tb66 za66 Tryz.underlying66 ts67 tb67 zl67 za67 Tryz.underlying67 ts69 tb69 za69 Tryz.underlying69 ts70 tb70 za70 Tryz.underlying70 ts73 tb73 za73 Tryz.underlying73 ts74 tb74 za74 Tryz.underlying74 ts75 tb75 zl75 za75 Tryz.underlying75 ts82 tb82 zl82 za82 Tryz.underlying82 ts96 tb96 za96 Tryz.underlying96 ts97 tb97 za97 Tryz.underlying97 ts103 tb103 za103 Tryz.underlying103 ts104 tb104 za104 Tryz.underlying104 ts109 tb109 zl109 za109 Tryz.underlying109 ts116 tb116 zl116 za116 Tryz.underlying116 ts117 tb117 za117 Tryz.underlying117 ts118 tb118 za118 Tryz.underlying118 ts120 tb120 zl120 za120 Tryz.underlying120 ts124 tb124 zl124 za124 Tryz.underlying124 ts126 tb126 za126 Tryz.underlying126 ts128 tb128 zl128 za128 Tryz.underlying128 ts130 tb130 za130 Tryz.underlying130 ts131 tb131 za131 Tryz.underlying131 ts153 tb153 zl153 za153 Tryz.underlying153 ts167 tb167 zl167 za167 Tryz.underlying167 ts171 tb171 zl171 za171 Tryz.underlying171 ts177 tb177 zl177 za177 Tryz.underlying177 ts183 tb183 zl183 za183 Tryz.underlying183 ts189 tb189 zl189 za189 Tryz.underlying189 ts191 tb191 zl191 za191 Tryz.underlying191 ts195 tb195 za195 Tryz.underlying195 ts196 tb196 za196 Tryz.underlying196 ts198 tb198 zl198 za198 Tryz.underlying198 ts203 tb203 Tryz.underlying203 ts209 tb209 za209 Tryz.underlying209 ts210 tb210 za210 Tryz.underlying210 ts211 tb211 Tryz.underlying211 ts216 tb216 za216 Tryz.underlying216 ts217 tb217 za217 Tryz.underlying217 ts220 tb220 Tryz.underlying220 ts225 tb225 Tryz.underlying225 ts226 tb226 Tryz.underlying226 ts227 tb227 za227 Tryz.underlying227 ts228 tb228 za228 Tryz.underlying228 ts232 tb232 zl232 za232 Tryz.underlying232 ts233 tb233 zl233 za233 Tryz.underlying233 ts235 tb235 zl235 za235 Tryz.underlying235 ts236 tb236 zl236 za236 Tryz.underlying236 ts237 tb237 za237 Tryz.underlying237 ts238 tb238 za238 Tryz.underlying238


def digI (n : Int) : Bool := decide (n ≥ 48) && decide (n ≤ 57)
def capI (n : Int) : Bool := decide (n ≥ 65) && decide (n ≤ 90)

theorem isDigit_pc (n : Int) : Pc Tryz.prog 54 [.int .u8 n] (· = .bool (digI n)) := by
  refine pc_intro (ct_intro Tryz.func54 rfl Tryz.ntmps54 hB54 (by simp) fun h ρ w => go (N := 9) Tryz.ntmps54 200 ?_)
  by_cases h1 : n ≥ 48
  · have d1 : decide (n ≥ 48) = true := by simpa using h1
    simp only [go_sem, Nat.reduceAdd, Nat.reduceMul, Nat.reduceSub, Nat.reduceBEq, Nat.reduceLT, Nat.reduceLeDiff, reduceIte, reduceCtorEq, Int.reduceToNat, Int.reduceLE, Int.reduceLT, Int.reduceNe, Int.reduceMul, Int.reduceAdd, Int.reduceSub, Int.reduceDiv, Int.reduceMod, Int.reduceEq, Int.reduceGE, Int.reduceGT, Int.reduceNeg, Int.reduceBEq, Int.reduceBNe, Nat.reduceEqDiff, d1]
    exact aret [2] rfl ⟨by simp [resV, Av.get, digI, h1], rfl⟩
  · have d1 : decide (n ≥ 48) = false := by simpa using h1
    simp only [go_sem, Nat.reduceAdd, Nat.reduceMul, Nat.reduceSub, Nat.reduceBEq, Nat.reduceLT, Nat.reduceLeDiff, reduceIte, reduceCtorEq, Int.reduceToNat, Int.reduceLE, Int.reduceLT, Int.reduceNe, Int.reduceMul, Int.reduceAdd, Int.reduceSub, Int.reduceDiv, Int.reduceMod, Int.reduceEq, Int.reduceGE, Int.reduceGT, Int.reduceNeg, Int.reduceBEq, Int.reduceBNe, Nat.reduceEqDiff, d1]
    exact aret [2] rfl ⟨by simp [resV, Av.get, digI, h1], rfl⟩

theorem isCapital_pc (n : Int) : Pc Tryz.prog 55 [.int .u8 n] (· = .bool (capI n)) := by
  refine pc_intro (ct_intro Tryz.func55 rfl Tryz.ntmps55 hB55 (by simp) fun h ρ w => go (N := 9) Tryz.ntmps55 200 ?_)
  by_cases h1 : n ≥ 65
  · have d1 : decide (n ≥ 65) = true := by simpa using h1
    simp only [go_sem, Nat.reduceAdd, Nat.reduceMul, Nat.reduceSub, Nat.reduceBEq, Nat.reduceLT, Nat.reduceLeDiff, reduceIte, reduceCtorEq, Int.reduceToNat, Int.reduceLE, Int.reduceLT, Int.reduceNe, Int.reduceMul, Int.reduceAdd, Int.reduceSub, Int.reduceDiv, Int.reduceMod, Int.reduceEq, Int.reduceGE, Int.reduceGT, Int.reduceNeg, Int.reduceBEq, Int.reduceBNe, Nat.reduceEqDiff, d1]
    exact aret [2] rfl ⟨by simp [resV, Av.get, capI, h1], rfl⟩
  · have d1 : decide (n ≥ 65) = false := by simpa using h1
    simp only [go_sem, Nat.reduceAdd, Nat.reduceMul, Nat.reduceSub, Nat.reduceBEq, Nat.reduceLT, Nat.reduceLeDiff, reduceIte, reduceCtorEq, Int.reduceToNat, Int.reduceLE, Int.reduceLT, Int.reduceNe, Int.reduceMul, Int.reduceAdd, Int.reduceSub, Int.reduceDiv, Int.reduceMod, Int.reduceEq, Int.reduceGE, Int.reduceGT, Int.reduceNeg, Int.reduceBEq, Int.reduceBNe, Nat.reduceEqDiff, d1]
    exact aret [2] rfl ⟨by simp [resV, Av.get, capI, h1], rfl⟩

def okB (c : UInt8) : Bool := !(decide ((c.toNat : Int) < 32)) && !(decide ((c.toNat : Int) > 126))
def plainL (s : List UInt8) : Bool := s.all okB && (!Lib.hasPrefix s [32] && (!Lib.hasSuffix s [32] && !Lib.contains s [32, 32]))

theorem all_take_succ {α : Type} {p : α → Bool} {s : List α} {i : Nat} (h : i < s.length) (h1 : (s.take i).all p = true) (h2 : p s[i] = true) : (s.take (i + 1)).all p = true := by
  rw [List.take_succ_eq_append_getElem h, List.all_append, h1]
  simpa using h2
theorem all_false_at {α : Type} {p : α → Bool} {s : List α} {i : Nat} (h : i < s.length) (h2 : p s[i] = false) : s.all p = false := by
  rw [List.all_eq_false]
  exact ⟨s[i], List.getElem_mem h, by simp [h2]⟩

theorem plain_pch {S : Std} (hS : LibOk S) (s : List UInt8) (hs : s.length < 1000000) : PcH Tryz.prog S 71 [.str s] (· = .bool (plainL s)) := by
  refine pch_intro (cth_intro Tryz.func71 rfl Tryz.ntmps71 hB71 (by simp) fun h ρ w hg => go (N := 33) Tryz.ntmps71 200 ?_)
  simp only [go_sem, Nat.reduceAdd, Nat.reduceMul, Nat.reduceSub, Nat.reduceBEq, Nat.reduceLT, Nat.reduceLeDiff, reduceIte, reduceCtorEq, Int.reduceToNat, Int.reduceLE, Int.reduceLT, Int.reduceNe, Int.reduceMul, Int.reduceAdd, Int.reduceSub, Int.reduceDiv, Int.reduceMod, Int.reduceEq, Int.reduceGE, Int.reduceGT, Int.reduceNeg, Int.reduceBEq, Int.reduceBNe, Nat.reduceEqDiff]
  refine aloop (ι := Nat) (fun i => s.length - i) (fun i => [(6, .int .i64 i), (5, .int .i64 s.length), (0, .str s)]) (fun _ => []) (fun i => i ≤ s.length ∧ (s.take i).all okB = true) 0 ⟨by omega, by simp⟩ ?_ ?_
  · refine Shift.weak ?_
    simp only [wk, go_sem, Nat.reduceAdd, Nat.reduceMul, Nat.reduceSub, Nat.reduceBEq, Nat.reduceLT, Nat.reduceLeDiff, reduceIte, reduceCtorEq, Int.reduceToNat, Int.reduceLE, Int.reduceLT, Int.reduceNe, Int.reduceMul, Int.reduceAdd, Int.reduceSub, Int.reduceDiv, Int.reduceMod, Int.reduceEq, Int.reduceGE, Int.reduceGT, Int.reduceNeg, Int.reduceBEq, Int.reduceBNe, Nat.reduceEqDiff]
  · rintro i ⟨g1, g2⟩ J hJ
    refine go (N := 33) Tryz.ntmps71 200 ?_
    by_cases hi : (i : Int) < s.length
    · have hil : i < s.length := by omega
      have hgd : s.getD i 0 = s[i] := by simp [List.getD, hil]
      by_cases hc1 : ((s[i].toNat : Int) < 32)
      · have d1 : decide ((s[i].toNat : Int) < 32) = true := by simpa using hc1
        simp only [go_sem, Nat.reduceAdd, Nat.reduceMul, Nat.reduceSub, Nat.reduceBEq, Nat.reduceLT, Nat.reduceLeDiff, reduceIte, reduceCtorEq, Int.reduceToNat, Int.reduceLE, Int.reduceLT, Int.reduceNe, Int.reduceMul, Int.reduceAdd, Int.reduceSub, Int.reduceDiv, Int.reduceMod, Int.reduceEq, Int.reduceGE, Int.reduceGT, Int.reduceNeg, Int.reduceBEq, Int.reduceBNe, Nat.reduceEqDiff, hi, hgd, d1]
        refine ⟨by omega, aret [2] rfl ⟨?_, rfl⟩⟩
        simp [resV, Av.get, plainL, all_false_at hil (p := okB) (by simp [okB]; omega)]
      · have d1 : decide ((s[i].toNat : Int) < 32) = false := by simpa using hc1
        by_cases hc2 : ((s[i].toNat : Int) > 126)
        · have d2 : decide ((s[i].toNat : Int) > 126) = true := by simpa using hc2
          simp only [go_sem, Nat.reduceAdd, Nat.reduceMul, Nat.reduceSub, Nat.reduceBEq, Nat.reduceLT, Nat.reduceLeDiff, reduceIte, reduceCtorEq, Int.reduceToNat, Int.reduceLE, Int.reduceLT, Int.reduceNe, Int.reduceMul, Int.reduceAdd, Int.reduceSub, Int.reduceDiv, Int.reduceMod, Int.reduceEq, Int.reduceGE, Int.reduceGT, Int.reduceNeg, Int.reduceBEq, Int.reduceBNe, Nat.reduceEqDiff, hi, hgd, d1, d2]
          refine ⟨by omega, by omega, aret [2] rfl ⟨?_, rfl⟩⟩
          simp [resV, Av.get, plainL, all_false_at hil (p := okB) (by simp [okB]; omega)]
        · have d2 : decide ((s[i].toNat : Int) > 126) = false := by simpa using hc2
          simp only [go_sem, Nat.reduceAdd, Nat.reduceMul, Nat.reduceSub, Nat.reduceBEq, Nat.reduceLT, Nat.reduceLeDiff, reduceIte, reduceCtorEq, Int.reduceToNat, Int.reduceLE, Int.reduceLT, Int.reduceNe, Int.reduceMul, Int.reduceAdd, Int.reduceSub, Int.reduceDiv, Int.reduceMod, Int.reduceEq, Int.reduceGE, Int.reduceGT, Int.reduceNeg, Int.reduceBEq, Int.reduceBNe, Nat.reduceEqDiff, hi, hgd, d1, d2]
          rw [show (i : Int) + 1 = ((i + 1 : Nat) : Int) by omega]
          repeat refine And.intro (by omega) ?_
          refine ainv (hJ (i + 1) ⟨by omega, all_take_succ hil g2 (by simp [okB]; omega)⟩ (by omega)) (Shift.weak ?_)
          simp only [wk, go_sem, Nat.reduceAdd, Nat.reduceMul, Nat.reduceSub, Nat.reduceBEq, Nat.reduceLT, Nat.reduceLeDiff, reduceIte, reduceCtorEq, Int.reduceToNat, Int.reduceLE, Int.reduceLT, Int.reduceNe, Int.reduceMul, Int.reduceAdd, Int.reduceSub, Int.reduceDiv, Int.reduceMod, Int.reduceEq, Int.reduceGE, Int.reduceGT, Int.reduceNeg, Int.reduceBEq, Int.reduceBNe, Nat.reduceEqDiff]
    · simp only [go_sem, Nat.reduceAdd, Nat.reduceMul, Nat.reduceSub, Nat.reduceBEq, Nat.reduceLT, Nat.reduceLeDiff, reduceIte, reduceCtorEq, Int.reduceToNat, Int.reduceLE, Int.reduceLT, Int.reduceNe, Int.reduceMul, Int.reduceAdd, Int.reduceSub, Int.reduceDiv, Int.reduceMod, Int.reduceEq, Int.reduceGE, Int.reduceGT, Int.reduceNeg, Int.reduceBEq, Int.reduceBNe, Nat.reduceEqDiff, hi]
      have hall : s.all okB = true := by rw [← g2, List.take_of_length_le (by omega)]
      refine pcall1 (hasPrefix_pc s [32]) rfl (N := 33) Tryz.ntmps71 rfl (go (N := 33) Tryz.ntmps71 200 ?_)
      cases e1 : Lib.hasPrefix s [32] with
      | true =>
        simp only [go_sem, Nat.reduceAdd, Nat.reduceMul, Nat.reduceSub, Nat.reduceBEq, Nat.reduceLT, Nat.reduceLeDiff, reduceIte, reduceCtorEq, Int.reduceToNat, Int.reduceLE, Int.reduceLT, Int.reduceNe, Int.reduceMul, Int.reduceAdd, Int.reduceSub, Int.reduceDiv, Int.reduceMod, Int.reduceEq, Int.reduceGE, Int.reduceGT, Int.reduceNeg, Int.reduceBEq, Int.reduceBNe, Nat.reduceEqDiff]
        refine aret [2] rfl ⟨?_, rfl⟩
        simp [resV, Av.get, plainL, e1]
      | false =>
        simp only [go_sem, Nat.reduceAdd, Nat.reduceMul, Nat.reduceSub, Nat.reduceBEq, Nat.reduceLT, Nat.reduceLeDiff, reduceIte, reduceCtorEq, Int.reduceToNat, Int.reduceLE, Int.reduceLT, Int.reduceNe, Int.reduceMul, Int.reduceAdd, Int.reduceSub, Int.reduceDiv, Int.reduceMod, Int.reduceEq, Int.reduceGE, Int.reduceGT, Int.reduceNeg, Int.reduceBEq, Int.reduceBNe, Nat.reduceEqDiff]
        refine pcall1 (hasSuffix_pc s [32] (by omega)) rfl (N := 33) Tryz.ntmps71 rfl (go (N := 33) Tryz.ntmps71 200 ?_)
        cases e2 : Lib.hasSuffix s [32] with
        | true =>
          simp only [go_sem, Nat.reduceAdd, Nat.reduceMul, Nat.reduceSub, Nat.reduceBEq, Nat.reduceLT, Nat.reduceLeDiff, reduceIte, reduceCtorEq, Int.reduceToNat, Int.reduceLE, Int.reduceLT, Int.reduceNe, Int.reduceMul, Int.reduceAdd, Int.reduceSub, Int.reduceDiv, Int.reduceMod, Int.reduceEq, Int.reduceGE, Int.reduceGT, Int.reduceNeg, Int.reduceBEq, Int.reduceBNe, Nat.reduceEqDiff]
          refine aret [2] rfl ⟨?_, rfl⟩
          simp [resV, Av.get, plainL, e2]
        | false =>
          simp only [go_sem, Nat.reduceAdd, Nat.reduceMul, Nat.reduceSub, Nat.reduceBEq, Nat.reduceLT, Nat.reduceLeDiff, reduceIte, reduceCtorEq, Int.reduceToNat, Int.reduceLE, Int.reduceLT, Int.reduceNe, Int.reduceMul, Int.reduceAdd, Int.reduceSub, Int.reduceDiv, Int.reduceMod, Int.reduceEq, Int.reduceGE, Int.reduceGT, Int.reduceNeg, Int.reduceBEq, Int.reduceBNe, Nat.reduceEqDiff]
          refine pcallH1 hg (contains_pch hS s [32, 32] (by omega)) rfl (N := 33) Tryz.ntmps71 rfl (go (N := 33) Tryz.ntmps71 200 ?_)
          simp only [go_sem, Nat.reduceAdd, Nat.reduceMul, Nat.reduceSub, Nat.reduceBEq, Nat.reduceLT, Nat.reduceLeDiff, reduceIte, reduceCtorEq, Int.reduceToNat, Int.reduceLE, Int.reduceLT, Int.reduceNe, Int.reduceMul, Int.reduceAdd, Int.reduceSub, Int.reduceDiv, Int.reduceMod, Int.reduceEq, Int.reduceGE, Int.reduceGT, Int.reduceNeg, Int.reduceBEq, Int.reduceBNe, Nat.reduceEqDiff]
          refine aret [2] rfl ⟨?_, rfl⟩
          simp [resV, Av.get, plainL, e1, e2, hall]

/-- one byte of a proper string -/
def okP (o : List UInt8) (c : UInt8) : Bool := capI c.toNat || (digI c.toNat || (((c.toNat : Int) == 32) || !(decide (Lib.indexByte o c < 0))))
def properL (s : List UInt8) (most : Int) (o : List UInt8) : Bool :=
  !(decide ((s.length : Int) < 1)) && (!(decide ((s.length : Int) > most)) && (capI (s.getD 0 0).toNat && (plainL s && s.all (okP o))))

theorem proper_pch {S : Std} (hS : LibOk S) (s : List UInt8) (most : Int) (o : List UInt8) (hs : s.length < 1000000) : PcH Tryz.prog S 73 [.str s, .int .i64 most, .str o] (· = .bool (properL s most o)) := by
  refine pch_intro (cth_intro Tryz.func73 rfl Tryz.ntmps73 hB73 (by simp) fun h ρ w hg => go (N := 60) Tryz.ntmps73 300 ?_)
  by_cases h1 : (s.length : Int) < 1
  · have d1 : decide ((s.length : Int) < 1) = true := by simpa using h1
    simp only [go_sem, Nat.reduceAdd, Nat.reduceMul, Nat.reduceSub, Nat.reduceBEq, Nat.reduceLT, Nat.reduceLeDiff, reduceIte, reduceCtorEq, Int.reduceToNat, Int.reduceLE, Int.reduceLT, Int.reduceNe, Int.reduceMul, Int.reduceAdd, Int.reduceSub, Int.reduceDiv, Int.reduceMod, Int.reduceEq, Int.reduceGE, Int.reduceGT, Int.reduceNeg, Int.reduceBEq, Int.reduceBNe, Nat.reduceEqDiff, d1]
    exact aret [6] rfl ⟨by simp [resV, Av.get, properL, h1], rfl⟩
  have d1 : decide ((s.length : Int) < 1) = false := by simpa using h1
  by_cases h2 : (s.length : Int) > most
  · have d2 : decide ((s.length : Int) > most) = true := by simpa using h2
    simp only [go_sem, Nat.reduceAdd, Nat.reduceMul, Nat.reduceSub, Nat.reduceBEq, Nat.reduceLT, Nat.reduceLeDiff, reduceIte, reduceCtorEq, Int.reduceToNat, Int.reduceLE, Int.reduceLT, Int.reduceNe, Int.reduceMul, Int.reduceAdd, Int.reduceSub, Int.reduceDiv, Int.reduceMod, Int.reduceEq, Int.reduceGE, Int.reduceGT, Int.reduceNeg, Int.reduceBEq, Int.reduceBNe, Nat.reduceEqDiff, d1, d2]
    exact aret [6] rfl ⟨by simp [resV, Av.get, properL, h2], rfl⟩
  have d2 : decide ((s.length : Int) > most) = false := by simpa using h2
  simp only [go_sem, Nat.reduceAdd, Nat.reduceMul, Nat.reduceSub, Nat.reduceBEq, Nat.reduceLT, Nat.reduceLeDiff, reduceIte, reduceCtorEq, Int.reduceToNat, Int.reduceLE, Int.reduceLT, Int.reduceNe, Int.reduceMul, Int.reduceAdd, Int.reduceSub, Int.reduceDiv, Int.reduceMod, Int.reduceEq, Int.reduceGE, Int.reduceGT, Int.reduceNeg, Int.reduceBEq, Int.reduceBNe, Nat.reduceEqDiff, d1, d2]
  have hpos : 0 < s.length := by omega
  refine ⟨by omega, ?_⟩
  refine pcall1 (isCapital_pc _) rfl (N := 60) Tryz.ntmps73 rfl (go (N := 60) Tryz.ntmps73 300 ?_)
  cases e1 : capI (s.getD 0 0).toNat with
  | false =>
    simp only [go_sem, Nat.reduceAdd, Nat.reduceMul, Nat.reduceSub, Nat.reduceBEq, Nat.reduceLT, Nat.reduceLeDiff, reduceIte, reduceCtorEq, Int.reduceToNat, Int.reduceLE, Int.reduceLT, Int.reduceNe, Int.reduceMul, Int.reduceAdd, Int.reduceSub, Int.reduceDiv, Int.reduceMod, Int.reduceEq, Int.reduceGE, Int.reduceGT, Int.reduceNeg, Int.reduceBEq, Int.reduceBNe, Nat.reduceEqDiff]
    exact aret [6] rfl ⟨by simp only [resV, Av.get, properL, e1]; simp, rfl⟩
  | true =>
  simp only [go_sem, Nat.reduceAdd, Nat.reduceMul, Nat.reduceSub, Nat.reduceBEq, Nat.reduceLT, Nat.reduceLeDiff, reduceIte, reduceCtorEq, Int.reduceToNat, Int.reduceLE, Int.reduceLT, Int.reduceNe, Int.reduceMul, Int.reduceAdd, Int.reduceSub, Int.reduceDiv, Int.reduceMod, Int.reduceEq, Int.reduceGE, Int.reduceGT, Int.reduceNeg, Int.reduceBEq, Int.reduceBNe, Nat.reduceEqDiff]
  refine pcallH1 hg (plain_pch hS s hs) rfl (N := 60) Tryz.ntmps73 rfl (go (N := 60) Tryz.ntmps73 300 ?_)
  cases e2 : plainL s with
  | false =>
    simp only [go_sem, Nat.reduceAdd, Nat.reduceMul, Nat.reduceSub, Nat.reduceBEq, Nat.reduceLT, Nat.reduceLeDiff, reduceIte, reduceCtorEq, Int.reduceToNat, Int.reduceLE, Int.reduceLT, Int.reduceNe, Int.reduceMul, Int.reduceAdd, Int.reduceSub, Int.reduceDiv, Int.reduceMod, Int.reduceEq, Int.reduceGE, Int.reduceGT, Int.reduceNeg, Int.reduceBEq, Int.reduceBNe, Nat.reduceEqDiff]
    exact aret [6] rfl ⟨by simp only [resV, Av.get, properL, e2]; simp, rfl⟩
  | true =>
  simp only [go_sem, Nat.reduceAdd, Nat.reduceMul, Nat.reduceSub, Nat.reduceBEq, Nat.reduceLT, Nat.reduceLeDiff, reduceIte, reduceCtorEq, Int.reduceToNat, Int.reduceLE, Int.reduceLT, Int.reduceNe, Int.reduceMul, Int.reduceAdd, Int.reduceSub, Int.reduceDiv, Int.reduceMod, Int.reduceEq, Int.reduceGE, Int.reduceGT, Int.reduceNeg, Int.reduceBEq, Int.reduceBNe, Nat.reduceEqDiff]
  have hval : properL s most o = s.all (okP o) := by simp only [properL, d1, d2, e1, e2]; simp
  rw [hval]
  refine aloop (ι := Nat) (fun i => s.length - i) (fun i => [(30, .int .i64 i), (29, .int .i64 s.length), (0, .str s), (2, .str o)]) (fun _ => []) (fun i => i ≤ s.length ∧ (s.take i).all (okP o) = true) 0 ⟨by omega, by simp⟩ ?_ ?_
  · refine Shift.weak ?_
    simp only [wk, go_sem, Nat.reduceAdd, Nat.reduceMul, Nat.reduceSub, Nat.reduceBEq, Nat.reduceLT, Nat.reduceLeDiff, reduceIte, reduceCtorEq, Int.reduceToNat, Int.reduceLE, Int.reduceLT, Int.reduceNe, Int.reduceMul, Int.reduceAdd, Int.reduceSub, Int.reduceDiv, Int.reduceMod, Int.reduceEq, Int.reduceGE, Int.reduceGT, Int.reduceNeg, Int.reduceBEq, Int.reduceBNe, Nat.reduceEqDiff]
  · rintro i ⟨g1, g2⟩ J hJ
    refine go (N := 60) Tryz.ntmps73 300 ?_
    by_cases hi : (i : Int) < s.length
    · have hil : i < s.length := by omega
      have hgd : s.getD i 0 = s[i] := by simp [List.getD, hil]
      simp only [go_sem, Nat.reduceAdd, Nat.reduceMul, Nat.reduceSub, Nat.reduceBEq, Nat.reduceLT, Nat.reduceLeDiff, reduceIte, reduceCtorEq, Int.reduceToNat, Int.reduceLE, Int.reduceLT, Int.reduceNe, Int.reduceMul, Int.reduceAdd, Int.reduceSub, Int.reduceDiv, Int.reduceMod, Int.reduceEq, Int.reduceGE, Int.reduceGT, Int.reduceNeg, Int.reduceBEq, Int.reduceBNe, Nat.reduceEqDiff, hi, hgd]
      refine ⟨by omega, ?_⟩
      refine pcall1 (isCapital_pc _) rfl (N := 60) Tryz.ntmps73 rfl (go (N := 60) Tryz.ntmps73 300 ?_)
      cases c1 : capI (s[i].toNat : Int) with
      | true =>
        simp only [go_sem, Nat.reduceAdd, Nat.reduceMul, Nat.reduceSub, Nat.reduceBEq, Nat.reduceLT, Nat.reduceLeDiff, reduceIte, reduceCtorEq, Int.reduceToNat, Int.reduceLE, Int.reduceLT, Int.reduceNe, Int.reduceMul, Int.reduceAdd, Int.reduceSub, Int.reduceDiv, Int.reduceMod, Int.reduceEq, Int.reduceGE, Int.reduceGT, Int.reduceNeg, Int.reduceBEq, Int.reduceBNe, Nat.reduceEqDiff]
        rw [show (i : Int) + 1 = ((i + 1 : Nat) : Int) by omega]
        repeat refine And.intro (by omega) ?_
        refine ainv (hJ (i + 1) ⟨by omega, all_take_succ hil g2 (by simp only [okP, c1]; rfl)⟩ (by omega)) (Shift.weak ?_)
        simp only [wk, go_sem, Nat.reduceAdd, Nat.reduceMul, Nat.reduceSub, Nat.reduceBEq, Nat.reduceLT, Nat.reduceLeDiff, reduceIte, reduceCtorEq, Int.reduceToNat, Int.reduceLE, Int.reduceLT, Int.reduceNe, Int.reduceMul, Int.reduceAdd, Int.reduceSub, Int.reduceDiv, Int.reduceMod, Int.reduceEq, Int.reduceGE, Int.reduceGT, Int.reduceNeg, Int.reduceBEq, Int.reduceBNe, Nat.reduceEqDiff]
      | false =>
        simp only [go_sem, Nat.reduceAdd, Nat.reduceMul, Nat.reduceSub, Nat.reduceBEq, Nat.reduceLT, Nat.reduceLeDiff, reduceIte, reduceCtorEq, Int.reduceToNat, Int.reduceLE, Int.reduceLT, Int.reduceNe, Int.reduceMul, Int.reduceAdd, Int.reduceSub, Int.reduceDiv, Int.reduceMod, Int.reduceEq, Int.reduceGE, Int.reduceGT, Int.reduceNeg, Int.reduceBEq, Int.reduceBNe, Nat.reduceEqDiff, hi, hgd]
        refine ⟨by omega, ?_⟩
        refine pcall1 (isDigit_pc _) rfl (N := 60) Tryz.ntmps73 rfl (go (N := 60) Tryz.ntmps73 300 ?_)
        cases c2 : digI (s[i].toNat : Int) with
        | true =>
          simp only [go_sem, Nat.reduceAdd, Nat.reduceMul, Nat.reduceSub, Nat.reduceBEq, Nat.reduceLT, Nat.reduceLeDiff, reduceIte, reduceCtorEq, Int.reduceToNat, Int.reduceLE, Int.reduceLT, Int.reduceNe, Int.reduceMul, Int.reduceAdd, Int.reduceSub, Int.reduceDiv, Int.reduceMod, Int.reduceEq, Int.reduceGE, Int.reduceGT, Int.reduceNeg, Int.reduceBEq, Int.reduceBNe, Nat.reduceEqDiff]
          rw [show (i : Int) + 1 = ((i + 1 : Nat) : Int) by omega]
          repeat refine And.intro (by omega) ?_
          refine ainv (hJ (i + 1) ⟨by omega, all_take_succ hil g2 (by simp only [okP, c1, c2]; rfl)⟩ (by omega)) (Shift.weak ?_)
          simp only [wk, go_sem, Nat.reduceAdd, Nat.reduceMul, Nat.reduceSub, Nat.reduceBEq, Nat.reduceLT, Nat.reduceLeDiff, reduceIte, reduceCtorEq, Int.reduceToNat, Int.reduceLE, Int.reduceLT, Int.reduceNe, Int.reduceMul, Int.reduceAdd, Int.reduceSub, Int.reduceDiv, Int.reduceMod, Int.reduceEq, Int.reduceGE, Int.reduceGT, Int.reduceNeg, Int.reduceBEq, Int.reduceBNe, Nat.reduceEqDiff]
        | false =>
          cases c3 : ((s[i].toNat : Int) == 32) with
          | true =>
            have c3' : ((s[i].toNat : Int) != 32) = false := by simpa using c3
            simp only [go_sem, Nat.reduceAdd, Nat.reduceMul, Nat.reduceSub, Nat.reduceBEq, Nat.reduceLT, Nat.reduceLeDiff, reduceIte, reduceCtorEq, Int.reduceToNat, Int.reduceLE, Int.reduceLT, Int.reduceNe, Int.reduceMul, Int.reduceAdd, Int.reduceSub, Int.reduceDiv, Int.reduceMod, Int.reduceEq, Int.reduceGE, Int.reduceGT, Int.reduceNeg, Int.reduceBEq, Int.reduceBNe, Nat.reduceEqDiff, hi, hgd, c3']
            rw [show (i : Int) + 1 = ((i + 1 : Nat) : Int) by omega]
            repeat refine And.intro (by omega) ?_
            refine ainv (hJ (i + 1) ⟨by omega, all_take_succ hil g2 (by simp only [okP, c1, c2, c3]; rfl)⟩ (by omega)) (Shift.weak ?_)
            simp only [wk, go_sem, Nat.reduceAdd, Nat.reduceMul, Nat.reduceSub, Nat.reduceBEq, Nat.reduceLT, Nat.reduceLeDiff, reduceIte, reduceCtorEq, Int.reduceToNat, Int.reduceLE, Int.reduceLT, Int.reduceNe, Int.reduceMul, Int.reduceAdd, Int.reduceSub, Int.reduceDiv, Int.reduceMod, Int.reduceEq, Int.reduceGE, Int.reduceGT, Int.reduceNeg, Int.reduceBEq, Int.reduceBNe, Nat.reduceEqDiff]
          | false =>
            have c3' : ((s[i].toNat : Int) != 32) = true := by simpa using c3
            simp only [go_sem, Nat.reduceAdd, Nat.reduceMul, Nat.reduceSub, Nat.reduceBEq, Nat.reduceLT, Nat.reduceLeDiff, reduceIte, reduceCtorEq, Int.reduceToNat, Int.reduceLE, Int.reduceLT, Int.reduceNe, Int.reduceMul, Int.reduceAdd, Int.reduceSub, Int.reduceDiv, Int.reduceMod, Int.reduceEq, Int.reduceGE, Int.reduceGT, Int.reduceNeg, Int.reduceBEq, Int.reduceBNe, Nat.reduceEqDiff, hi, hgd, c3']
            refine ⟨by omega, by omega, ?_⟩
            refine pcall1 (indexByte_pc o (s[i].toNat : Int)) rfl (N := 60) Tryz.ntmps73 rfl (go (N := 60) Tryz.ntmps73 300 ?_)
            have hb : ((s[i].toNat : Int)).toNat.toUInt8 = s[i] := by simp
            rw [hb]
            cases c4 : decide (Lib.indexByte o s[i] < 0) with
            | false =>
              simp only [go_sem, Nat.reduceAdd, Nat.reduceMul, Nat.reduceSub, Nat.reduceBEq, Nat.reduceLT, Nat.reduceLeDiff, reduceIte, reduceCtorEq, Int.reduceToNat, Int.reduceLE, Int.reduceLT, Int.reduceNe, Int.reduceMul, Int.reduceAdd, Int.reduceSub, Int.reduceDiv, Int.reduceMod, Int.reduceEq, Int.reduceGE, Int.reduceGT, Int.reduceNeg, Int.reduceBEq, Int.reduceBNe, Nat.reduceEqDiff, c4]
              rw [show (i : Int) + 1 = ((i + 1 : Nat) : Int) by omega]
              repeat refine And.intro (by omega) ?_
              refine ainv (hJ (i + 1) ⟨by omega, all_take_succ hil g2 (by simp only [okP, c1, c2, c3, c4]; rfl)⟩ (by omega)) (Shift.weak ?_)
              simp only [wk, go_sem, Nat.reduceAdd, Nat.reduceMul, Nat.reduceSub, Nat.reduceBEq, Nat.reduceLT, Nat.reduceLeDiff, reduceIte, reduceCtorEq, Int.reduceToNat, Int.reduceLE, Int.reduceLT, Int.reduceNe, Int.reduceMul, Int.reduceAdd, Int.reduceSub, Int.reduceDiv, Int.reduceMod, Int.reduceEq, Int.reduceGE, Int.reduceGT, Int.reduceNeg, Int.reduceBEq, Int.reduceBNe, Nat.reduceEqDiff]
            | true =>
              simp only [go_sem, Nat.reduceAdd, Nat.reduceMul, Nat.reduceSub, Nat.reduceBEq, Nat.reduceLT, Nat.reduceLeDiff, reduceIte, reduceCtorEq, Int.reduceToNat, Int.reduceLE, Int.reduceLT, Int.reduceNe, Int.reduceMul, Int.reduceAdd, Int.reduceSub, Int.reduceDiv, Int.reduceMod, Int.reduceEq, Int.reduceGE, Int.reduceGT, Int.reduceNeg, Int.reduceBEq, Int.reduceBNe, Nat.reduceEqDiff, c4]
              refine aret [6] rfl ⟨?_, rfl⟩
              simp [resV, Av.get, all_false_at hil (p := okP o) (by simp only [okP, c1, c2, c3, c4]; rfl)]
    · simp only [go_sem, Nat.reduceAdd, Nat.reduceMul, Nat.reduceSub, Nat.reduceBEq, Nat.reduceLT, Nat.reduceLeDiff, reduceIte, reduceCtorEq, Int.reduceToNat, Int.reduceLE, Int.reduceLT, Int.reduceNe, Int.reduceMul, Int.reduceAdd, Int.reduceSub, Int.reduceDiv, Int.reduceMod, Int.reduceEq, Int.reduceGE, Int.reduceGT, Int.reduceNeg, Int.reduceBEq, Int.reduceBNe, Nat.reduceEqDiff, hi]
      have hall : s.all (okP o) = true := by rw [← g2, List.take_of_length_le (by omega)]
      exact aret [6] rfl ⟨by simp [resV, Av.get, hall], rfl⟩

def isSetL (s : List UInt8) : Bool := properL s 60 [39, 46, 45, 47] && (!Lib.contains s [32, 45, 32] && !Lib.hasSuffix s [32, 45])

theorem isSet_pch {S : Std} (hS : LibOk S) (s : List UInt8) (hs : s.length < 1000000) : PcH Tryz.prog S 116 [.str s] (· = .bool (isSetL s)) := by
  refine pch_intro (cth_intro Tryz.func116 rfl Tryz.ntmps116 hB116 (by simp) fun h ρ w hg => go (N := 15) Tryz.ntmps116 300 ?_)
  simp only [go_sem, Nat.reduceAdd, Nat.reduceMul, Nat.reduceSub, Nat.reduceBEq, Nat.reduceLT, Nat.reduceLeDiff, reduceIte, reduceCtorEq, Int.reduceToNat, Int.reduceLE, Int.reduceLT, Int.reduceNe, Int.reduceMul, Int.reduceAdd, Int.reduceSub, Int.reduceDiv, Int.reduceMod, Int.reduceEq, Int.reduceGE, Int.reduceGT, Int.reduceNeg, Int.reduceBEq, Int.reduceBNe, Nat.reduceEqDiff]
  refine pcallH1 hg (proper_pch hS s 60 [39, 46, 45, 47] hs) rfl (N := 15) Tryz.ntmps116 rfl (go (N := 15) Tryz.ntmps116 300 ?_)
  cases e1 : properL s 60 [39, 46, 45, 47] with
  | false =>
    simp only [go_sem, Nat.reduceAdd, Nat.reduceMul, Nat.reduceSub, Nat.reduceBEq, Nat.reduceLT, Nat.reduceLeDiff, reduceIte, reduceCtorEq, Int.reduceToNat, Int.reduceLE, Int.reduceLT, Int.reduceNe, Int.reduceMul, Int.reduceAdd, Int.reduceSub, Int.reduceDiv, Int.reduceMod, Int.reduceEq, Int.reduceGE, Int.reduceGT, Int.reduceNeg, Int.reduceBEq, Int.reduceBNe, Nat.reduceEqDiff]
    exact aret [2] rfl ⟨by simp [resV, Av.get, isSetL, e1], rfl⟩
  | true =>
    simp only [go_sem, Nat.reduceAdd, Nat.reduceMul, Nat.reduceSub, Nat.reduceBEq, Nat.reduceLT, Nat.reduceLeDiff, reduceIte, reduceCtorEq, Int.reduceToNat, Int.reduceLE, Int.reduceLT, Int.reduceNe, Int.reduceMul, Int.reduceAdd, Int.reduceSub, Int.reduceDiv, Int.reduceMod, Int.reduceEq, Int.reduceGE, Int.reduceGT, Int.reduceNeg, Int.reduceBEq, Int.reduceBNe, Nat.reduceEqDiff]
    refine pcallH1 hg (contains_pch hS s [32, 45, 32] (by omega)) rfl (N := 15) Tryz.ntmps116 rfl (go (N := 15) Tryz.ntmps116 300 ?_)
    cases e2 : Lib.contains s [32, 45, 32] with
    | true =>
      simp only [go_sem, Nat.reduceAdd, Nat.reduceMul, Nat.reduceSub, Nat.reduceBEq, Nat.reduceLT, Nat.reduceLeDiff, reduceIte, reduceCtorEq, Int.reduceToNat, Int.reduceLE, Int.reduceLT, Int.reduceNe, Int.reduceMul, Int.reduceAdd, Int.reduceSub, Int.reduceDiv, Int.reduceMod, Int.reduceEq, Int.reduceGE, Int.reduceGT, Int.reduceNeg, Int.reduceBEq, Int.reduceBNe, Nat.reduceEqDiff]
      exact aret [2] rfl ⟨by simp [resV, Av.get, isSetL, e2], rfl⟩
    | false =>
      simp only [go_sem, Nat.reduceAdd, Nat.reduceMul, Nat.reduceSub, Nat.reduceBEq, Nat.reduceLT, Nat.reduceLeDiff, reduceIte, reduceCtorEq, Int.reduceToNat, Int.reduceLE, Int.reduceLT, Int.reduceNe, Int.reduceMul, Int.reduceAdd, Int.reduceSub, Int.reduceDiv, Int.reduceMod, Int.reduceEq, Int.reduceGE, Int.reduceGT, Int.reduceNeg, Int.reduceBEq, Int.reduceBNe, Nat.reduceEqDiff]
      refine pcall1 (hasSuffix_pc s [32, 45] (by omega)) rfl (N := 15) Tryz.ntmps116 rfl (go (N := 15) Tryz.ntmps116 300 ?_)
      simp only [go_sem, Nat.reduceAdd, Nat.reduceMul, Nat.reduceSub, Nat.reduceBEq, Nat.reduceLT, Nat.reduceLeDiff, reduceIte, reduceCtorEq, Int.reduceToNat, Int.reduceLE, Int.reduceLT, Int.reduceNe, Int.reduceMul, Int.reduceAdd, Int.reduceSub, Int.reduceDiv, Int.reduceMod, Int.reduceEq, Int.reduceGE, Int.reduceGT, Int.reduceNeg, Int.reduceBEq, Int.reduceBNe, Nat.reduceEqDiff]
      exact aret [2] rfl ⟨by simp [resV, Av.get, isSetL, e1, e2], rfl⟩
end Go.Proofs.YtpjbbpilgfihbaaGreatDoor
/- Texts without blanks at their ends and without two blanks next to each other: plain law. Own work of this seat. -/
set_option linter.unusedSimpArgs false
set_option linter.unusedVariables false
namespace Go.Proofs.YtpjbbpilgfihbaaGreatDoor
open Go Go.Av Go.RowKit

def noDbl : List UInt8 → Bool
  | a :: b :: r => !(a == 32 && b == 32) && noDbl (b :: r)
  | _ => true

structure TextOk (p : UInt8 → Bool) (t : List UInt8) : Prop where
  ne : t ≠ []
  all : t.all p = true
  dbl : noDbl t = true
  hd : t.head? ≠ some 32
  lst : t.getLast? ≠ some 32

theorem index_dbl : ∀ t : List UInt8, noDbl t = true → Lib.index t [32, 32] = -1
  | [], _ => rfl
  | [a], _ => by
    have h : ([32, 32] : List UInt8).isPrefixOf [a] = false := by simp [List.isPrefixOf]
    simp only [Lib.index, h, if_false, Bool.false_eq_true]
    rfl
  | a :: b :: r, h => by
    simp only [noDbl, Bool.and_eq_true, Bool.not_eq_true'] at h
    have h1 : ([32, 32] : List UInt8).isPrefixOf (a :: b :: r) = false := by
      cases hq : ([32, 32] : List UInt8).isPrefixOf (a :: b :: r) with
      | false => rfl
      | true =>
        simp [List.isPrefixOf] at hq
        obtain ⟨rfl, rfl⟩ := hq
        simp at h
    rw [Lib.index]
    simp only [h1, Bool.false_eq_true, if_false]
    rw [index_dbl (b :: r) h.2]
    rfl

theorem pre_blank {t : List UInt8} (h : t.head? ≠ some 32) : Lib.hasPrefix t [32] = false := by
  cases t with
  | nil => rfl
  | cons a r =>
    simp only [Lib.hasPrefix, List.isPrefixOf, Bool.and_true]
    simp at h
    simpa using fun e => h e.symm
theorem suf_blank {t : List UInt8} (h : t.getLast? ≠ some 32) : Lib.hasSuffix t [32] = false := by
  unfold Lib.hasSuffix
  cases hq : ([32] : List UInt8).isSuffixOf t with
  | false => rfl
  | true =>
    rw [List.isSuffixOf_iff_suffix] at hq
    obtain ⟨r, rfl⟩ := hq
    simp at h
theorem plain_of {p : UInt8 → Bool} {t : List UInt8} (hp : ∀ c, p c = true → okB c = true) (h : TextOk p t) : plainL t = true := by
  have h1 : t.all okB = true := by
    have := h.all
    rw [List.all_eq_true] at this ⊢
    exact fun c hc => hp c (this c hc)
  simp [plainL, h1, pre_blank h.hd, suf_blank h.lst, Lib.contains, index_dbl t h.dbl]

theorem noDbl_append : ∀ {a b : List UInt8}, noDbl a = true → noDbl b = true → a.getLast? ≠ some 32 ∨ b.head? ≠ some 32 → noDbl (a ++ b) = true
  | [], b, _, h, _ => h
  | [x], [], _, _, _ => rfl
  | [x], y :: b, _, h, e => by
    simp only [List.cons_append, List.nil_append, noDbl, h, Bool.and_true, Bool.not_eq_true', Bool.and_eq_false_iff]
    rcases e with e | e
    · left; simpa using e
    · right; simpa using e
  | x :: y :: a, b, h, h', e => by
    simp only [noDbl, Bool.and_eq_true] at h
    have ih := noDbl_append (a := y :: a) h.2 h' (by simpa using e)
    simp only [List.cons_append, noDbl, Bool.and_eq_true] at ih ⊢
    exact ⟨h.1, ih⟩
theorem TextOk.join {p : UInt8 → Bool} {a b : List UInt8} (hb : p 32 = true) (x : TextOk p a) (y : TextOk p b) : TextOk p (a ++ 32 :: b) := by
  refine ⟨by simp, ?_, ?_, ?_, ?_⟩
  · simp only [List.all_append, List.all_cons, x.all, y.all, hb, Bool.and_self]
  · have h : noDbl (32 :: b) = true := by
      have := noDbl_append (a := [32]) (b := b) rfl y.dbl (.inr y.hd)
      simpa using this
    exact noDbl_append x.dbl h (.inl x.lst)
  · have := x.ne
    cases a with
    | nil => exact (this rfl).elim
    | cons c a => simpa using x.hd
  · rw [List.getLast?_append]
    have := y.lst
    cases b with
    | nil => exact (y.ne rfl).elim
    | cons c b =>
      simp only [List.getLast?_cons_cons]
      cases hq : (c :: b).getLast? with
      | none => simp at hq
      | some z => rw [hq] at this; simpa using this
theorem TextOk.pre {p q : UInt8 → Bool} {a b : List UInt8} (hpq : ∀ c, q c = true → p c = true) (ha : a.all p = true) (h1 : noDbl a = true) (h2 : a.head? ≠ some 32) (h0 : a ≠ []) (y : TextOk q b) : TextOk p (a ++ b) := by
  refine ⟨by simp [h0], ?_, noDbl_append h1 y.dbl (.inr y.hd), ?_, ?_⟩
  · have : b.all p = true := by
      have := y.all
      rw [List.all_eq_true] at this ⊢
      exact fun c hc => hpq c (this c hc)
    simp only [List.all_append, ha, this, Bool.and_self]
  · cases a with
    | nil => exact (h0 rfl).elim
    | cons c a => simpa using h2
  · rw [List.getLast?_append]
    have := y.lst
    cases hq : b.getLast? with
    | none => exact (y.ne (List.getLast?_eq_none_iff.1 hq)).elim
    | some z => rw [hq] at this; simpa using this
theorem TextOk.weak {p q : UInt8 → Bool} {b : List UInt8} (hpq : ∀ c, q c = true → p c = true) (y : TextOk q b) : TextOk p b :=
  ⟨y.ne, by have := y.all; rw [List.all_eq_true] at this ⊢; exact fun c hc => hpq c (this c hc), y.dbl, y.hd, y.lst⟩

/-- as a test -/
def textB (p : UInt8 → Bool) (t : List UInt8) : Bool := t != [] && (t.all p && (noDbl t && (t.head? != some 32 && t.getLast? != some 32)))
theorem textB_ok {p : UInt8 → Bool} {t : List UInt8} (h : textB p t = true) : TextOk p t := by
  simp only [textB, Bool.and_eq_true, bne_iff_ne, ne_eq] at h
  exact ⟨h.1, h.2.1, h.2.2.1, h.2.2.2.1, h.2.2.2.2⟩
end Go.Proofs.YtpjbbpilgfihbaaGreatDoor
