/- The library contracts laid at this seat, in the plain words that a tool of the kit has written. -/
import Derived.Shelf.Small.Wraps
import Derived.Shelf.Strings.Prefix
import Derived.Shelf.Strings.LastIndexAll
import Derived.Shelf.Strings.Split
import Derived.Shelf.Strings.Cut
import Derived.Shelf.Strings.Search3
import Derived.Shelf.Small.Strs
import Derived.Shelf.Strings.Builder1
import Derived.Shelf.Strconv.Atoi
import Derived.Shelf.Strconv.Itoa3
import Derived.Shelf.Strings.Repeat
import Derived.Test.YtkomcdohejibmaaGreatDoorProg
import Derived.WalkKit
import Derived.Orders
namespace Go.Proofs
open Go.Shelf
def Tryz.lays100_ren : Go.Shelf.Ren := ⟨fun | 100 => 136 | 207 => 177 | n => n, fun | 9 => 9 | 4 => 4 | 3 => 3 | n => n, fun | n => n⟩
theorem Tryz.lays100 : Go.Proofs.Lays.n100 Tryz.prog Tryz.lays100_ren := {
  mixed := by kernel_rfl
  f100 := Tryz.func136.trans (congrArg some (by kernel_rfl))
  f207 := Tryz.func177.trans (congrArg some (by kernel_rfl))
  t3 := Tryz.underlying3
  a3 := Tryz.isAgg3
  z3 := Tryz.sizeOf3
  v3 := Tryz.zeroValue3
  t4 := Tryz.underlying4
  a4 := Tryz.isAgg4
  z4 := Tryz.sizeOf4
  v4 := Tryz.zeroValue4
  t9 := Tryz.underlying9
  a9 := Tryz.isAgg9
  z9 := Tryz.sizeOf9
  v9 := Tryz.zeroValue9 }
def Tryz.lays169_ren : Go.Shelf.Ren := ⟨fun | 169 => 130 | n => n, fun | 70 => 143 | 9 => 9 | 0 => 0 | 72 => 146 | 37 => 144 | 127 => 180 | 3 => 3 | 5 => 5 | n => n, fun | n => n⟩
theorem Tryz.lays169 : Go.Proofs.Lays.n169 Tryz.prog Tryz.lays169_ren := {
  mixed := by kernel_rfl
  f169 := Tryz.func130.trans (congrArg some (by kernel_rfl))
  t0 := Tryz.underlying0
  a0 := Tryz.isAgg0
  z0 := Tryz.sizeOf0
  v0 := Tryz.zeroValue0
  t3 := Tryz.underlying3
  a3 := Tryz.isAgg3
  z3 := Tryz.sizeOf3
  v3 := Tryz.zeroValue3
  t9 := Tryz.underlying9
  a9 := Tryz.isAgg9
  z9 := Tryz.sizeOf9
  v9 := Tryz.zeroValue9
  t37 := Tryz.underlying144
  a37 := Tryz.isAgg144
  z37 := Tryz.sizeOf144
  v37 := Tryz.zeroValue144
  t70 := Tryz.underlying143
  a70 := Tryz.isAgg143
  z70 := Tryz.sizeOf143
  v70 := Tryz.zeroValue143
  t72 := Tryz.underlying146
  a72 := Tryz.isAgg146
  z72 := Tryz.sizeOf146
  v72 := Tryz.zeroValue146
  t127 := Tryz.underlying180
  a127 := Tryz.isAgg180
  z127 := Tryz.sizeOf180
  v127 := Tryz.zeroValue180 }
def Tryz.lays106_ren : Go.Shelf.Ren := ⟨fun | 106 => 96 | 213 => 152 | 265 => 184 | n => n, fun | 9 => 9 | 3 => 3 | n => n, fun | n => n⟩
theorem Tryz.lays106 : Go.Proofs.Lays.n106 Tryz.prog Tryz.lays106_ren := {
  mixed := by kernel_rfl
  f106 := Tryz.func96.trans (congrArg some (by kernel_rfl))
  f213 := Tryz.func152.trans (congrArg some (by kernel_rfl))
  f265 := Tryz.func184.trans (congrArg some (by kernel_rfl))
  t3 := Tryz.underlying3
  a3 := Tryz.isAgg3
  z3 := Tryz.sizeOf3
  v3 := Tryz.zeroValue3
  t9 := Tryz.underlying9
  a9 := Tryz.isAgg9
  z9 := Tryz.sizeOf9
  v9 := Tryz.zeroValue9 }
def Tryz.lays105_ren : Go.Shelf.Ren := ⟨fun | 105 => 163 | 212 => 188 | 99 => 189 | 165 => 128 | 166 => 129 | 170 => 190 | 169 => 130 | 263 => 218 | 264 => 219 | 206 => 220 | 240 => 172 | 241 => 173 | 276 => 205 | 277 => 206 | n => n, fun | 9 => 9 | 3 => 3 | 4 => 4 | 20 => 20 | 0 => 0 | 46 => 123 | 109 => 190 | 5 => 5 | 72 => 146 | 76 => 150 | 51 => 166 | 146 => 215 | 53 => 168 | 148 => 217 | 70 => 143 | 37 => 144 | 75 => 149 | 127 => 180 | 164 => 200 | 80 => 130 | n => n, fun | n => n⟩
theorem Tryz.lays105 : Go.Proofs.Lays.n105 Tryz.prog Tryz.lays105_ren := {
  mixed := by kernel_rfl
  f99 := Tryz.func189.trans (congrArg some (by kernel_rfl))
  f105 := Tryz.func163.trans (congrArg some (by kernel_rfl))
  f165 := Tryz.func128.trans (congrArg some (by kernel_rfl))
  f166 := Tryz.func129.trans (congrArg some (by kernel_rfl))
  f169 := Tryz.func130.trans (congrArg some (by kernel_rfl))
  f170 := Tryz.func190.trans (congrArg some (by kernel_rfl))
  f206 := Tryz.func220.trans (congrArg some (by kernel_rfl))
  f212 := Tryz.func188.trans (congrArg some (by kernel_rfl))
  f240 := Tryz.func172.trans (congrArg some (by kernel_rfl))
  f241 := Tryz.func173.trans (congrArg some (by kernel_rfl))
  f263 := Tryz.func218.trans (congrArg some (by kernel_rfl))
  f264 := Tryz.func219.trans (congrArg some (by kernel_rfl))
  f276 := Tryz.func205.trans (congrArg some (by kernel_rfl))
  f277 := Tryz.func206.trans (congrArg some (by kernel_rfl))
  t0 := Tryz.underlying0
  a0 := Tryz.isAgg0
  z0 := Tryz.sizeOf0
  v0 := Tryz.zeroValue0
  t3 := Tryz.underlying3
  a3 := Tryz.isAgg3
  z3 := Tryz.sizeOf3
  v3 := Tryz.zeroValue3
  t4 := Tryz.underlying4
  a4 := Tryz.isAgg4
  z4 := Tryz.sizeOf4
  v4 := Tryz.zeroValue4
  t5 := Tryz.underlying5
  a5 := Tryz.isAgg5
  z5 := Tryz.sizeOf5
  v5 := Tryz.zeroValue5
  t9 := Tryz.underlying9
  a9 := Tryz.isAgg9
  z9 := Tryz.sizeOf9
  v9 := Tryz.zeroValue9
  t20 := Tryz.underlying20
  a20 := Tryz.isAgg20
  z20 := Tryz.sizeOf20
  v20 := Tryz.zeroValue20
  t37 := Tryz.underlying144
  a37 := Tryz.isAgg144
  z37 := Tryz.sizeOf144
  v37 := Tryz.zeroValue144
  t46 := Tryz.underlying123
  a46 := Tryz.isAgg123
  z46 := Tryz.sizeOf123
  v46 := Tryz.zeroValue123
  t51 := Tryz.underlying166
  a51 := Tryz.isAgg166
  z51 := Tryz.sizeOf166
  v51 := Tryz.zeroValue166
  t53 := Tryz.underlying168
  a53 := Tryz.isAgg168
  z53 := Tryz.sizeOf168
  v53 := Tryz.zeroValue168
  t70 := Tryz.underlying143
  a70 := Tryz.isAgg143
  z70 := Tryz.sizeOf143
  v70 := Tryz.zeroValue143
  t72 := Tryz.underlying146
  a72 := Tryz.isAgg146
  z72 := Tryz.sizeOf146
  v72 := Tryz.zeroValue146
  t75 := Tryz.underlying149
  a75 := Tryz.isAgg149
  z75 := Tryz.sizeOf149
  v75 := Tryz.zeroValue149
  t76 := Tryz.underlying150
  a76 := Tryz.isAgg150
  z76 := Tryz.sizeOf150
  v76 := Tryz.zeroValue150
  t109 := Tryz.underlying190
  a109 := Tryz.isAgg190
  z109 := Tryz.sizeOf190
  v109 := Tryz.zeroValue190
  t127 := Tryz.underlying180
  a127 := Tryz.isAgg180
  z127 := Tryz.sizeOf180
  v127 := Tryz.zeroValue180
  t146 := Tryz.underlying215
  a146 := Tryz.isAgg215
  z146 := Tryz.sizeOf215
  v146 := Tryz.zeroValue215
  t148 := Tryz.underlying217
  a148 := Tryz.isAgg217
  z148 := Tryz.sizeOf217
  v148 := Tryz.zeroValue217
  t164 := Tryz.underlying200
  a164 := Tryz.isAgg200
  z164 := Tryz.sizeOf200
  v164 := Tryz.zeroValue200 }
end Go.Proofs
/- Values of Go programs as plain data: what a value of the machine means when what it leads to never changes any more (a frozen list), or lies in memory of the call's own. Own work of this seat. -/
set_option linter.unusedSimpArgs false
set_option linter.unusedVariables false
set_option linter.unusedSectionVars false
namespace Go.Av
open Go Go.RowKit

/-- plain data. 'fz': a slice whose cells never change any more; 'sl', 'ptr': a slice of, a pointer into, a block of the call's own (numbered); 'pin': a pointer into a frozen slice; 'raw': the value itself; 'any': nothing is known. -/
inductive AV where
  | int (k : IntKind) (n : Int)
  | bool (b : Bool)
  | str (s : List UInt8)
  | fz (esz : Nat) (l : List AV)
  | agg (l : List AV)
  | tup (l : List AV)
  | sl (id off len cap : Nat)
  | ptr (id n i off : Nat)
  | pin (esz : Nat) (l : List AV) (i off : Nat)
  | mp (id : Nat)
  | fn (f : Fn) (cap : List AV)
  | raw (v : Value)
  | any

def cellsOf : AV → List AV
  | .agg l => l
  | v => [v]
def flat : List AV → List AV
  | [] => []
  | x :: r => cellsOf x ++ flat r

abbrev Mem := Nat → Nat → Option Value

mutual
/-- 'v' is 'a': the cells of frozen slices stand in 'h'; 'Lf' says what a reference into memory of one's own is (let in where the flag is false). -/
inductive RV (h : Mem) (Lf : Value → AV → Prop) : Bool → Value → AV → Prop
  | leaf {v a} : Lf v a → RV h Lf false v a
  | int {fl} (k n) : RV h Lf fl (.int k n) (.int k n)
  | bool {fl} (b) : RV h Lf fl (.bool b) (.bool b)
  | str {fl} (s : List UInt8) : RV h Lf fl (.string ⟨s.toArray⟩) (.str s)
  | raw {fl} (v) : RV h Lf fl v (.raw v)
  | any {fl} (v) : RV h Lf fl v .any
  | fznil {fl} (esz) : RV h Lf fl (.slice none 0 0) (.fz esz [])
  | fz {fl} (b o c esz : Nat) (l : List AV) (vs : List Value) : RL h Lf true vs (flat l) → (∀ x ∈ l, (cellsOf x).length = esz) →
      (∀ k v, vs[k]? = some v → h b (o + k) = some v) → l.length ≤ c → RV h Lf fl (.slice (some ⟨b, o, none⟩) l.length c) (.fz esz l)
  | pin {fl} (b o esz : Nat) (l : List AV) (vs : List Value) (i off : Nat) : RL h Lf true vs (flat l) → (∀ x ∈ l, (cellsOf x).length = esz) →
      (∀ k v, vs[k]? = some v → h b (o + k) = some v) → i < l.length → RV h Lf fl (.pointer (some ⟨b, o + (i * esz + off), none⟩)) (.pin esz l i off)
  | agg {fl} (vs : List Value) (l : List AV) : RL h Lf fl vs l → RV h Lf fl (.agg vs.toArray) (.agg l)
  | tup {fl} (vs : List Value) (l : List AV) : RL h Lf fl vs l → RV h Lf fl (.tuple vs.toArray) (.tup l)
  | fn {fl} (f : Fn) (vs : List Value) (l : List AV) : RL h Lf fl vs l → RV h Lf fl (.func f #[] vs.toArray) (.fn f l)
inductive RL (h : Mem) (Lf : Value → AV → Prop) : Bool → List Value → List AV → Prop
  | nil {fl} : RL h Lf fl [] []
  | cons {fl v a vs l} : RV h Lf fl v a → RL h Lf fl vs l → RL h Lf fl (v :: vs) (a :: l)
end

section
variable {h h' : Mem} {Lf Lf' : Value → AV → Prop}

/-- a greater memory, and leaves that mean more -/
theorem RV.mono (hh : ∀ b o v, h b o = some v → h' b o = some v) (hl : ∀ v a, Lf v a → Lf' v a) {fl v a} (r : RV h Lf fl v a) : RV h' Lf' fl v a := by
  induction r using RV.rec (motive_2 := fun fl vs l _ => RL h' Lf' fl vs l) with
  | leaf p => exact .leaf (hl _ _ p)
  | int k n => exact .int k n
  | bool b => exact .bool b
  | str s => exact .str s
  | raw v => exact .raw v
  | any v => exact .any v
  | fznil e => exact .fznil e
  | fz b o c esz l vs _ h1 h2 h3 ih => exact .fz b o c esz l vs ih h1 (fun k v hk => hh _ _ _ (h2 k v hk)) h3
  | pin b o esz l vs i off _ h1 h2 h3 ih => exact .pin b o esz l vs i off ih h1 (fun k v hk => hh _ _ _ (h2 k v hk)) h3
  | agg vs l _ ih => exact .agg vs l ih
  | tup vs l _ ih => exact .tup vs l ih
  | fn f vs l _ ih => exact .fn f vs l ih
  | nil => exact .nil
  | cons _ _ ih1 ih2 => exact .cons ih1 ih2

theorem RL.mono (hh : ∀ b o v, h b o = some v → h' b o = some v) (hl : ∀ v a, Lf v a → Lf' v a) {fl vs l} (r : RL h Lf fl vs l) : RL h' Lf' fl vs l := by
  induction l generalizing vs with
  | nil => cases r; exact .nil
  | cons a l ih => cases r with | cons h1 h2 => exact .cons (h1.mono hh hl) (ih h2)

/-- what is frozen needs no leaves -/
theorem RV.thaw (hh : ∀ b o v, h b o = some v → h' b o = some v) {fl v a} (r : RV h Lf true v a) : RV h' Lf' fl v a := by
  suffices H : ∀ {f v a} (_ : RV h Lf f v a), f = true → ∀ fl, RV h' Lf' fl v a from H r rfl fl
  intro f v a r
  induction r using RV.rec (motive_2 := fun f vs l _ => f = true → ∀ fl, RL h' Lf' fl vs l) with
  | leaf p => intro e; cases e
  | int k n => intro _ fl; exact .int k n
  | bool b => intro _ fl; exact .bool b
  | str s => intro _ fl; exact .str s
  | raw v => intro _ fl; exact .raw v
  | any v => intro _ fl; exact .any v
  | fznil e => intro _ fl; exact .fznil e
  | fz b o c esz l vs _ h1 h2 h3 ih => intro _ fl; exact .fz b o c esz l vs (ih rfl true) h1 (fun k v hk => hh _ _ _ (h2 k v hk)) h3
  | pin b o esz l vs i off _ h1 h2 h3 ih => intro _ fl; exact .pin b o esz l vs i off (ih rfl true) h1 (fun k v hk => hh _ _ _ (h2 k v hk)) h3
  | agg vs l _ ih => intro e fl; exact .agg vs l (ih e fl)
  | tup vs l _ ih => intro e fl; exact .tup vs l (ih e fl)
  | fn f vs l _ ih => intro e fl; exact .fn f vs l (ih e fl)
  | nil => exact .nil
  | cons _ _ ih1 ih2 => exact .cons (ih1 (by assumption) _) (ih2 (by assumption) _)

theorem RL.thaw (hh : ∀ b o v, h b o = some v → h' b o = some v) {fl vs l} (r : RL h Lf true vs l) : RL h' Lf' fl vs l := by
  induction l generalizing vs with
  | nil => cases r; exact .nil
  | cons a l ih => cases r with | cons h1 h2 => exact .cons (h1.thaw hh) (ih h2)

theorem RL.length {fl vs l} (r : RL h Lf fl vs l) : vs.length = l.length := by
  induction l generalizing vs with
  | nil => cases r; rfl
  | cons a l ih => cases r with | cons h1 h2 => simp [ih h2]

theorem RL.get {fl vs l} (r : RL h Lf fl vs l) {k : Nat} {a : AV} (hk : l[k]? = some a) : ∃ v, vs[k]? = some v ∧ RV h Lf fl v a := by
  induction l generalizing vs k with
  | nil => simp at hk
  | cons b l ih =>
    cases r with
    | cons h1 h2 =>
      cases k with
      | zero => simp at hk; subst hk; exact ⟨_, rfl, h1⟩
      | succ k => simpa using ih h2 (by simpa using hk)

theorem RL.getD {fl vs l} (r : RL h Lf fl vs l) (k : Nat) (v0 : Value) : RV h Lf fl (vs.getD k v0) (l.getD k .any) := by
  cases hk : l[k]? with
  | none => simp [List.getD, hk]; exact .any _
  | some a =>
    obtain ⟨v, h1, h2⟩ := r.get hk
    simpa [List.getD, hk, h1] using h2

theorem RL.append {fl vs l vs' l'} (r : RL h Lf fl vs l) (r' : RL h Lf fl vs' l') : RL h Lf fl (vs ++ vs') (l ++ l') := by
  induction l generalizing vs with
  | nil => cases r; exact r'
  | cons a l ih => cases r with | cons h1 h2 => exact .cons h1 (ih h2)

theorem RL.take {fl vs l} (r : RL h Lf fl vs l) (n : Nat) : RL h Lf fl (vs.take n) (l.take n) := by
  induction l generalizing vs n with
  | nil => cases r; simp; exact .nil
  | cons a l ih =>
    cases r with
    | cons h1 h2 =>
      cases n with
      | zero => simp; exact .nil
      | succ n => simp; exact .cons h1 (ih h2 n)

theorem RL.drop {fl vs l} (r : RL h Lf fl vs l) (n : Nat) : RL h Lf fl (vs.drop n) (l.drop n) := by
  induction l generalizing vs n with
  | nil => cases r; simp; exact .nil
  | cons a l ih =>
    cases r with
    | cons h1 h2 =>
      cases n with
      | zero => simp; exact .cons h1 h2
      | succ n => simp; exact ih h2 n

theorem RL.set {fl vs l} (r : RL h Lf fl vs l) (k : Nat) {v : Value} {a : AV} (rv : RV h Lf fl v a) : RL h Lf fl (vs.set k v) (l.set k a) := by
  induction l generalizing vs k with
  | nil => cases r; simp; exact .nil
  | cons b l ih =>
    cases r with
    | cons h1 h2 =>
      cases k with
      | zero => simp; exact .cons rv h2
      | succ k => simp; exact .cons h1 (ih h2 k)

theorem RL.of_get {fl : Bool} : ∀ {vs : List Value} {l : List AV}, vs.length = l.length → (∀ (k : Nat) (v : Value) (a : AV), vs[k]? = some v → l[k]? = some a → RV h Lf fl v a) → RL h Lf fl vs l
  | [], [], _, _ => .nil
  | [], _ :: _, e, _ => by simp at e
  | _ :: _, [], e, _ => by simp at e
  | v :: vs, a :: l, e, H => .cons (H 0 v a rfl rfl) (RL.of_get (by simpa using e) fun k v a h1 h2 => H (k + 1) v a (by simpa using h1) (by simpa using h2))
end

theorem flat_append (l m : List AV) : flat (l ++ m) = flat l ++ flat m := by
  induction l with
  | nil => rfl
  | cons x l ih => simp [flat, ih]

theorem flat_length {l : List AV} {esz : Nat} (h : ∀ x ∈ l, (cellsOf x).length = esz) : (flat l).length = l.length * esz := by
  induction l with
  | nil => simp [flat]
  | cons x l ih =>
    simp only [flat, List.length_append, List.length_cons, Nat.succ_mul]
    rw [h x (by simp), ih (fun y hy => h y (by simp [hy]))]
    omega

theorem flat_drop {esz : Nat} : ∀ {l : List AV} (_ : ∀ x ∈ l, (cellsOf x).length = esz) (i : Nat), (flat l).drop (i * esz) = flat (l.drop i)
  | [], _, i => by simp [flat]
  | x :: l, h, 0 => by simp
  | x :: l, h, i + 1 => by
    have hx := h x (by simp)
    rw [Nat.succ_mul, Nat.add_comm, ← List.drop_drop]
    simp only [flat, List.drop_succ_cons]
    rw [List.drop_append, hx]
    simp [← hx]
    rw [hx]
    exact flat_drop (fun y hy => h y (by simp [hy])) i

theorem flat_take {esz : Nat} : ∀ {l : List AV} (_ : ∀ x ∈ l, (cellsOf x).length = esz) (i : Nat), (flat l).take (i * esz) = flat (l.take i)
  | [], _, i => by simp [flat]
  | x :: l, h, 0 => by simp [flat]
  | x :: l, h, i + 1 => by
    have hx := h x (by simp)
    rw [Nat.succ_mul, Nat.add_comm]
    simp only [flat, List.take_succ_cons]
    rw [← hx, List.take_length_add_append, hx, flat_take (fun y hy => h y (by simp [hy])) i]

theorem flat_get {l : List AV} {esz : Nat} (h : ∀ x ∈ l, (cellsOf x).length = esz) {i j : Nat} {x : AV} (hi : l[i]? = some x) (hj : j < esz) : (flat l)[i * esz + j]? = (cellsOf x)[j]? := by
  have h1 := flat_drop h i
  have : l.drop i = x :: l.drop (i + 1) := by
    rw [List.drop_eq_getElem?_toList_append, hi]; rfl
  rw [this] at h1
  simp only [flat] at h1
  have hx := h x (List.mem_of_getElem? hi)
  rw [← List.getElem?_drop, h1, List.getElem?_append_left (by omega)]

end Go.Av
