/- Typed pure data for the values of the model, and a condition on code that says what a call gives. -/
import Derived.Calls
import Derived.Below
import Derived.KernelRfl
import Derived.Laws.Cells
import Derived.Laws.StructEq
import Derived.Laws.Small
import Derived.Tactics
import Derived.Laws.CopyRow
import Derived.Laws.AppendOwn
import Derived.Laws.MakeOwn
set_option linter.unusedVariables false
set_option linter.unusedSimpArgs false
namespace Go.VM
open Go Go.RowKit

/-- Values without payload. -/
inductive Cst where
  | nilSl | nilFn | nilPtr | nilIf
  | fn (f : Nat)
  deriving DecidableEq

def Cst.val : Cst → Value
  | .nilSl => .slice none 0 0
  | .nilFn => .nilFunc
  | .nilPtr => .pointer none
  | .nilIf => .nilIface
  | .fn f => .func (.func f) #[] #[]

inductive Ty where
  | int (k : IntKind)
  | bool
  | str
  | cst (c : Cst)
  | sl (t : Ty)
  | unit
  | pair (a b : Ty)
  | agg (c : Ty)
  | arr (n : Nat) (t : Ty)
  | tup (c : Ty)
  | ref (b o : Nat)
  | own (b : Nat)
  | eref (b o : Nat)
  | fref (t : Ty)
  | vw (b : Nat)
  deriving DecidableEq

@[reducible] def den : Ty → Type
  | .int _ => Int
  | .bool => Bool
  | .str => ByteArray
  | .cst _ => Unit
  | .sl t => Option (List (den t))
  | .unit => Unit
  | .pair a b => den a × den b
  | .agg c => den c
  | .arr _ t => List (den t)
  | .tup c => den c
  | .ref _ _ => Unit
  | .own _ => Unit
  | .eref _ _ => Nat
  | .fref t => den t
  | .vw _ => Int × Int

structure V where
  t : Ty
  x : den t

def width : Ty → Nat
  | .unit => 0
  | .pair a b => width a + width b
  | .agg c => width c
  | .arr n t => n * width t
  | _ => 1

def dflt : (t : Ty) → den t
  | .int _ => (0 : Int)
  | .bool => false
  | .str => ByteArray.empty
  | .cst _ => ()
  | .sl _ => none
  | .unit => ()
  | .pair a b => (dflt a, dflt b)
  | .agg c => dflt c
  | .arr n t => List.replicate n (dflt t)
  | .tup c => dflt c
  | .ref _ _ => ()
  | .own _ => ()
  | .eref _ _ => (0 : Nat)
  | .fref t => dflt t
  | .vw _ => ((0 : Int), (0 : Int))

/-- Where a local block lies. -/
structure Ref where
  blk : Nat
  off : Nat
  wd : Nat
  nil : Bool
  len : Nat
  cap : Nat

def Ref.val (r : Ref) : Value := if r.nil then .slice none 0 0 else .slice (some ⟨r.blk, r.off, none⟩) r.len r.cap

/-- The part of a local list from `l` to `h`. -/
def Ref.view (r : Ref) (l h : Int) : Value := .slice (some ⟨r.blk, if r.cap = l.toNat then r.off else r.off + l.toNat * r.wd, none⟩) (h.toNat - l.toNat) (r.cap - l.toNat)

def seg (cs : List Value) (o n : Nat) : List Value := (cs.drop o).take n

/-- The cells `cs` represent `x` in the world `w`; what is reached behind lies in blocks of `F`. -/
def rep (w : World) (F : Nat → Prop) (ι : Nat → Option Ref) : (t : Ty) → den t → List Value → Prop
  | .int k, n, cs => cs = [.int k n]
  | .bool, b, cs => cs = [.bool b]
  | .str, s, cs => cs = [.string s]
  | .cst c, _, cs => cs = [c.val]
  | .sl t, x, cs => match x with
    | none => cs = [.slice none 0 0]
    | some l => ∃ blk off cap cells el fz, cs = [.slice (some ⟨blk, off, none⟩) l.length cap] ∧ F blk ∧ l.length ≤ cap ∧
        w.heap[blk]? = some (.cells cells el fz) ∧
        ∀ i y, l[i]? = some y → rep w F ι t y (seg cells.toList (off + i * width t) (width t))
  | .unit, _, cs => cs = []
  | .pair a b, x, cs => ∃ c1 c2, cs = c1 ++ c2 ∧ rep w F ι a x.1 c1 ∧ rep w F ι b x.2 c2
  | .agg c, x, cs => rep w F ι c x cs
  | .arr n t, (l : List (den t)), cs => l.length = n ∧ cs.length = n * width t ∧ ∀ i y, l[i]? = some y → rep w F ι t y (seg cs (i * width t) (width t))
  | .tup _, _, _ => False
  | .ref b o, _, cs => ∃ r, ι b = some r ∧ cs = [.pointer (some ⟨r.blk, r.off + o, none⟩)]
  | .own b, _, cs => ∃ r, ι b = some r ∧ cs = [r.val]
  | .eref b o, (i : Nat), cs => ∃ r, ι b = some r ∧ r.nil = false ∧ i < r.len ∧ cs = [.pointer (some ⟨r.blk, r.off + i * r.wd + o, none⟩)]
  | .fref t, x, cs => ∃ blk off cells el fz, cs = [.pointer (some ⟨blk, off, none⟩)] ∧ F blk ∧ w.heap[blk]? = some (.cells cells el fz) ∧
      rep w F ι t x (seg cells.toList off (width t))
  | .vw b, (x : Int × Int), cs => ∃ r, ι b = some r ∧ r.nil = false ∧ 0 ≤ x.1 ∧ x.1 ≤ x.2 ∧ x.2 ≤ (r.len : Int) ∧ cs = [r.view x.1 x.2]

theorem rep_length {w : World} {F : Nat → Prop} {ι : Nat → Option Ref} : ∀ (t : Ty) (x : den t) (cs : List Value), rep w F ι t x cs → cs.length = width t
  | .int _, _, _, h | .bool, _, _, h | .str, _, _, h | .cst _, _, _, h => by simp only [rep] at h; subst h; rfl
  | .sl _, none, _, h => by simp only [rep] at h; subst h; rfl
  | .sl _, some _, _, h => by simp only [rep] at h; obtain ⟨_, _, _, _, _, _, rfl, _⟩ := h; rfl
  | .unit, _, _, h => by simp only [rep] at h; subst h; rfl
  | .pair a b, x, _, h => by
    simp only [rep] at h
    obtain ⟨c1, c2, rfl, h1, h2⟩ := h
    simp [width, rep_length a _ _ h1, rep_length b _ _ h2]
  | .agg c, x, cs, h => by simp only [rep] at h; simp only [width]; exact rep_length c x cs h
  | .arr _ _, _, _, h => by simp only [rep] at h; exact h.2.1
  | .tup _, _, _, h => by simp only [rep] at h
  | .ref _ _, _, _, h => by simp only [rep] at h; obtain ⟨_, _, rfl⟩ := h; rfl
  | .own _, _, _, h => by simp only [rep] at h; obtain ⟨_, _, rfl⟩ := h; rfl
  | .eref _ _, _, _, h => by simp only [rep] at h; obtain ⟨_, _, _, _, rfl⟩ := h; rfl
  | .fref _, _, _, h => by simp only [rep] at h; obtain ⟨_, _, _, _, _, rfl, _⟩ := h; rfl
  | .vw _, _, _, h => by simp only [rep] at h; obtain ⟨_, _, _, _, _, _, rfl⟩ := h; rfl

/-- What is represented stays so: more blocks of `F`, more names, blocks of `F` unchanged. -/
theorem rep_mono {w w' : World} {F F' : Nat → Prop} {ι ι' : Nat → Option Ref} (hF : ∀ b, F b → F' b) (hι : ∀ b r, ι b = some r → ι' b = some r)
    (hw : ∀ b, F b → w'.heap[b]? = w.heap[b]?) : ∀ (t : Ty) (x : den t) (cs : List Value), rep w F ι t x cs → rep w' F' ι' t x cs
  | .int _, _, _, h | .bool, _, _, h | .str, _, _, h | .cst _, _, _, h => by simpa only [rep] using h
  | .sl _, none, _, h => by simpa only [rep] using h
  | .sl t, some l, _, h => by
    simp only [rep] at h ⊢
    obtain ⟨blk, off, cap, cells, el, fz, rfl, hf, hl, hb, hr⟩ := h
    exact ⟨blk, off, cap, cells, el, fz, rfl, hF _ hf, hl, (hw _ hf).trans hb, fun i y hy => rep_mono hF hι hw t y _ (hr i y hy)⟩
  | .unit, _, _, h => by simpa only [rep] using h
  | .pair a b, x, _, h => by
    simp only [rep] at h ⊢
    obtain ⟨c1, c2, rfl, h1, h2⟩ := h
    exact ⟨c1, c2, rfl, rep_mono hF hι hw a _ _ h1, rep_mono hF hι hw b _ _ h2⟩
  | .agg c, x, cs, h => by simp only [rep] at h ⊢; exact rep_mono hF hι hw c x cs h
  | .arr _ t, _, _, h => by simp only [rep] at h ⊢; exact ⟨h.1, h.2.1, fun i y hy => rep_mono hF hι hw t y _ (h.2.2 i y hy)⟩
  | .tup _, _, _, h => by simp only [rep] at h
  | .ref _ _, _, _, h => by simp only [rep] at h ⊢; obtain ⟨r, hr, rfl⟩ := h; exact ⟨r, hι _ _ hr, rfl⟩
  | .own _, _, _, h => by simp only [rep] at h ⊢; obtain ⟨r, hr, rfl⟩ := h; exact ⟨r, hι _ _ hr, rfl⟩
  | .eref _ _, _, _, h => by simp only [rep] at h ⊢; obtain ⟨r, hr, h1, h2, rfl⟩ := h; exact ⟨r, hι _ _ hr, h1, h2, rfl⟩
  | .fref t, _, _, h => by
    simp only [rep] at h ⊢
    obtain ⟨blk, off, cells, el, fz, rfl, hf, hb, hr⟩ := h
    exact ⟨blk, off, cells, el, fz, rfl, hF _ hf, (hw _ hf).trans hb, rep_mono hF hι hw t _ _ hr⟩
  | .vw _, _, _, h => by simp only [rep] at h ⊢; obtain ⟨r, hr, h1, h2⟩ := h; exact ⟨r, hι _ _ hr, h1, h2⟩

def isAggT : Ty → Bool
  | .agg _ => true
  | .arr _ _ => true
  | _ => false

/-- Types of one value of one cell. -/
def cellT : Ty → Bool
  | .unit | .pair _ _ | .agg _ | .arr _ _ | .tup _ => false
  | _ => true

/-- The value `v`, which is no tuple, represents `x`. -/
def vrep1 (w : World) (F : Nat → Prop) (ι : Nat → Option Ref) (t : Ty) (x : den t) (v : Value) : Prop :=
  match isAggT t with
  | true => ∃ cs, v = .agg cs ∧ rep w F ι t x cs.toList
  | false => cellT t = true ∧ rep w F ι t x [v]

/-- The values of a tuple. -/
def trep (w : World) (F : Nat → Prop) (ι : Nat → Option Ref) : (t : Ty) → den t → List Value → Prop
  | .unit, _, vs => vs = []
  | .pair a b, x, vs => ∃ v vs', vs = v :: vs' ∧ vrep1 w F ι a x.1 v ∧ trep w F ι b x.2 vs'
  | _, _, _ => False

/-- The value `v` represents `x`. -/
def vrep (w : World) (F : Nat → Prop) (ι : Nat → Option Ref) : (t : Ty) → den t → Value → Prop
  | .tup c, x, v => ∃ vs, v = .tuple vs ∧ trep w F ι c x vs.toList
  | t, x, v => vrep1 w F ι t x v

section mono
variable {w w' : World} {F F' : Nat → Prop} {ι ι' : Nat → Option Ref} (hF : ∀ b, F b → F' b) (hι : ∀ b r, ι b = some r → ι' b = some r)
  (hw : ∀ b, F b → w'.heap[b]? = w.heap[b]?)
include hF hι hw

theorem vrep1_mono {t : Ty} {x : den t} {v : Value} (h : vrep1 w F ι t x v) : vrep1 w' F' ι' t x v := by
  unfold vrep1 at h ⊢
  cases ht : isAggT t <;> rw [ht] at h
  · exact ⟨h.1, rep_mono hF hι hw _ _ _ h.2⟩
  · obtain ⟨cs, e, h⟩ := h; exact ⟨cs, e, rep_mono hF hι hw _ _ _ h⟩

theorem trep_mono : ∀ (t : Ty) (x : den t) (vs : List Value), trep w F ι t x vs → trep w' F' ι' t x vs
  | .unit, _, _, h => by simpa only [trep] using h
  | .pair a b, x, _, h => by
    simp only [trep] at h ⊢
    obtain ⟨v, vs', rfl, h1, h2⟩ := h
    exact ⟨v, vs', rfl, vrep1_mono hF hι hw h1, trep_mono b _ _ h2⟩
  | .int _, _, _, h | .bool, _, _, h | .str, _, _, h | .cst _, _, _, h | .sl _, _, _, h | .agg _, _, _, h | .arr _ _, _, _, h | .tup _, _, _, h
  | .ref _ _, _, _, h | .own _, _, _, h | .eref _ _, _, _, h | .fref _, _, _, h | .vw _, _, _, h => by simp only [trep] at h

theorem vrep_mono {t : Ty} {x : den t} {v : Value} (h : vrep w F ι t x v) : vrep w' F' ι' t x v := by
  cases t <;> simp only [vrep] at h ⊢ <;> first
    | exact vrep1_mono hF hι hw h
    | (obtain ⟨vs, e, h⟩ := h; exact ⟨vs, e, trep_mono hF hι hw _ _ _ h⟩)
end mono

/-- A value of a cell's type is a cell. -/
theorem cell_cells {w : World} {F : Nat → Prop} {ι : Nat → Option Ref} : ∀ {t : Ty} {x : den t} {v : Value}, cellT t = true → rep w F ι t x [v] → v.cells = #[v]
  | .int _, _, _, _, h | .bool, _, _, _, h | .str, _, _, _, h => by simp only [rep, List.cons.injEq, and_true] at h; subst h; rfl
  | .cst c, _, _, _, h => by simp only [rep, List.cons.injEq, and_true] at h; subst h; cases c <;> rfl
  | .sl _, none, _, _, h => by simp only [rep, List.cons.injEq, and_true] at h; subst h; rfl
  | .sl _, some _, _, _, h => by simp only [rep, List.cons.injEq, and_true] at h; obtain ⟨_, _, _, _, _, _, rfl, _⟩ := h; rfl
  | .ref _ _, _, _, _, h => by simp only [rep, List.cons.injEq, and_true] at h; obtain ⟨_, _, rfl⟩ := h; rfl
  | .own _, _, _, _, h => by simp only [rep, List.cons.injEq, and_true] at h; obtain ⟨r, _, rfl⟩ := h; unfold Ref.val; split <;> rfl
  | .eref _ _, _, _, _, h => by simp only [rep, List.cons.injEq, and_true] at h; obtain ⟨_, _, _, _, rfl⟩ := h; rfl
  | .fref _, _, _, _, h => by simp only [rep, List.cons.injEq, and_true] at h; obtain ⟨_, _, _, _, _, rfl, _⟩ := h; rfl
  | .vw _, _, _, _, h => by simp only [rep, List.cons.injEq, and_true] at h; obtain ⟨_, _, _, _, _, _, rfl⟩ := h; rfl
  | .unit, _, _, h, _ | .pair _ _, _, _, h, _ | .agg _, _, _, h, _ | .arr _ _, _, _, h, _ | .tup _, _, _, h, _ => by simp [cellT] at h

theorem vrep1_cells {w : World} {F : Nat → Prop} {ι : Nat → Option Ref} {t : Ty} {x : den t} {v : Value} (h : vrep1 w F ι t x v) :
    rep w F ι t x v.cells.toList := by
  unfold vrep1 at h
  cases ht : isAggT t <;> rw [ht] at h
  · rw [cell_cells h.1 h.2]; exact h.2
  · obtain ⟨cs, rfl, h⟩ := h; exact h

end Go.VM

namespace Go.VM
open Go Go.RowKit

inductive Blk where
  | box (t : Ty) (x : den t)
  | arr (t : Ty) (l : Option (List (den t)))

structure St where
  env : Nat → Option V
  heap : Nat → Option Blk
  used : Nat → Bool

def upd {α : Type} (f : Nat → α) (n : Nat) (v : α) : Nat → α := fun m => bif Nat.beq m n then v else f m

def constV : Value → Option V
  | .int k n => some ⟨.int k, n⟩
  | .bool b => some ⟨.bool, b⟩
  | .string s => some ⟨.str, s⟩
  | .slice none 0 0 => some ⟨.cst .nilSl, ()⟩
  | .nilFunc => some ⟨.cst .nilFn, ()⟩
  | .pointer none => some ⟨.cst .nilPtr, ()⟩
  | .nilIface => some ⟨.cst .nilIf, ()⟩
  | _ => none

def St.val (st : St) : Operand → Option V
  | .tmp t => st.env t
  | .const v => constV v
  | .func f => some ⟨.cst (.fn f), ()⟩
  | .global _ => none

/-! Words for what is computed of data. -/
abbrev notB (b : Bool) : Bool := !b
abbrev andB (a b : Bool) : Bool := a && b
abbrev eqB (a b : Bool) : Bool := Bool.xor (!a) b
abbrev lst {α : Type} (l : Option (List α)) : List α := l.getD []
abbrev szStr (s : ByteArray) : Int := s.size
abbrev szSl {α : Type} (x : Option (List α)) : Int := (x.getD []).length
abbrev inS {α : Type} (l : Option (List α)) (i : Int) : Prop := 0 ≤ i ∧ i < (l.getD []).length
abbrev eltS {α : Type} (d : α) (l : Option (List α)) (i : Int) : α := (l.getD []).getD i.toNat d
abbrev eltN {α : Type} (d : α) (l : Option (List α)) (i : Nat) : α := (l.getD []).getD i d
abbrev inR {α : Type} (x : Option (List α)) (l h : Int) : Prop := 0 ≤ l ∧ l ≤ h ∧ h ≤ ((x.getD []).length : Int)
abbrev inW {α : Type} (x : Option (List α)) (l h : Int) : Prop := x.isSome = true ∧ inR x l h
abbrev slcS {α : Type} (x : Option (List α)) (l h : Int) : Option (List α) := x.map (fun y => (y.take h.toNat).drop l.toNat)
abbrev inStr (s : ByteArray) (l h : Int) : Prop := 0 ≤ l ∧ l ≤ h ∧ h ≤ (s.size : Int)
abbrev subStr (s : ByteArray) (l h : Int) : ByteArray := s.extract l.toNat h.toNat
abbrev repS {α : Type} (n : Int) (x : α) : List α := List.replicate n.toNat x
abbrev appS {α : Type} (a b : List α) : List α := a ++ b
abbrev toN (i : Int) : Nat := i.toNat
abbrev mkC (bytes : Nat) (l c : Int) : Prop := 0 ≤ l ∧ l ≤ c ∧ c * bytes ≤ 281474976710656
abbrev catC (a b : ByteArray) : Prop := a.size + b.size ≤ 9223372036854775807
abbrev catS (a b : ByteArray) : ByteArray := a ++ b
def sameK (a b : IntKind) : Bool := if a = b then true else false
theorem sameK_eq {a b : IntKind} (h : sameK a b = true) : a = b := by unfold sameK at h; split at h <;> simp_all

inductive Res where
  | val (v : V)
  | cond (c : Prop) (v : V)
  | new (k : Blk)
  | newc (c : Prop) (k : Blk)

/-- The part of `n` cells at `o`; `ag`: as an aggregate. -/
def sub (ag : Bool) : (t : Ty) → den t → (o n : Nat) → Option V
  | .pair a b, x, o, n => bif Nat.ble (o + n) (width a) then sub ag a x.1 o n else bif Nat.ble (width a) o then sub ag b x.2 (o - width a) n else none
  | .agg c, x, o, n => bif ag && Nat.beq o 0 && Nat.beq n (width c) then some ⟨.agg c, x⟩ else sub ag c x o n
  | .arr m t, l, o, n => bif ag && Nat.beq o 0 && Nat.beq n (m * width t) then some ⟨.arr m t, l⟩ else none
  | .unit, _, _, _ => none
  | .tup _, _, _, _ => none
  | t, x, o, n => bif !ag && Nat.beq o 0 && Nat.beq n 1 then some ⟨t, x⟩ else none

theorem seg_seg (cs : List Value) (o n p m : Nat) (h : p + m ≤ n) : seg (seg cs o n) p m = seg cs (o + p) m := by
  simp only [seg, List.drop_take, List.take_take, List.drop_drop]
  congr 1
  omega

theorem seg_all (cs : List Value) (n : Nat) (h : cs.length = n) : seg cs 0 n = cs := by
  simp [seg, ← h]

theorem seg_left (c1 c2 : List Value) (o n : Nat) (h : o + n ≤ c1.length) : seg (c1 ++ c2) o n = seg c1 o n := by
  unfold seg
  rw [List.drop_append_of_le_length (by omega), List.take_append_of_le_length (by simp; omega)]

theorem seg_right (c1 c2 : List Value) (o n : Nat) (h : c1.length ≤ o) : seg (c1 ++ c2) o n = seg c2 (o - c1.length) n := by
  unfold seg
  rw [List.drop_append, List.drop_of_length_le h]; simp

theorem sub_cell {w : World} {F : Nat → Prop} {ι : Nat → Option Ref} {ag : Bool} {t : Ty} {x : den t} {cs : List Value} {o n : Nat} {u : V}
    (hc : cellT t = true) (hr : rep w F ι t x cs) (h : (bif !ag && Nat.beq o 0 && Nat.beq n 1 then some (⟨t, x⟩ : V) else none) = some u) :
    rep w F ι u.t u.x (seg cs o n) ∧ o + n ≤ cs.length ∧ isAggT u.t = ag ∧ (ag = false → cellT u.t = true ∧ n = 1) := by
  cases hb : (!ag && Nat.beq o 0 && Nat.beq n 1) <;> rw [hb] at h
  · simp at h
  · simp only [cond_true, Option.some.injEq] at h
    subst h
    simp only [Bool.and_eq_true, Bool.not_eq_true', Nat.beq_eq] at hb
    obtain ⟨⟨h1, rfl⟩, rfl⟩ := hb
    subst h1
    have hl := rep_length t x cs hr
    have hw : width t = 1 := by cases t <;> simp_all [cellT, width]
    refine ⟨by rw [seg_all _ _ (by omega)]; exact hr, by omega, ?_, fun _ => ⟨hc, rfl⟩⟩
    cases t <;> simp_all [cellT, isAggT]

theorem sub_rep {w : World} {F : Nat → Prop} {ι : Nat → Option Ref} {ag : Bool} : ∀ (t : Ty) (x : den t) (cs : List Value) (o n : Nat) (u : V),
    rep w F ι t x cs → sub ag t x o n = some u →
    rep w F ι u.t u.x (seg cs o n) ∧ o + n ≤ cs.length ∧ isAggT u.t = ag ∧ (ag = false → cellT u.t = true ∧ n = 1)
  | .pair a b, x, cs, o, n, u, hr, h => by
    simp only [rep] at hr
    obtain ⟨c1, c2, rfl, h1, h2⟩ := hr
    have hl1 := rep_length _ _ _ h1
    simp only [sub] at h
    cases hb : Nat.ble (o + n) (width a) <;> rw [hb] at h
    · simp only [cond_false] at h
      cases hb2 : Nat.ble (width a) o <;> rw [hb2] at h
      · simp at h
      · simp only [cond_true] at h
        rw [Nat.ble_eq] at hb2
        obtain ⟨q1, q2, q3, q4⟩ := sub_rep b x.2 c2 _ n u h2 h
        refine ⟨?_, by simp; omega, q3, q4⟩
        rw [seg_right _ _ _ _ (by omega), hl1]; exact q1
    · simp only [cond_true] at h
      rw [Nat.ble_eq] at hb
      obtain ⟨q1, q2, q3, q4⟩ := sub_rep a x.1 c1 o n u h1 h
      refine ⟨?_, by simp; omega, q3, q4⟩
      rw [seg_left _ _ _ _ (by omega)]; exact q1
  | .agg c, x, cs, o, n, u, hr, h => by
    simp only [sub] at h
    cases hb : (ag && Nat.beq o 0 && Nat.beq n (width c)) <;> rw [hb] at h
    · simp only [rep] at hr
      exact sub_rep c x cs o n u hr h
    · simp only [cond_true, Option.some.injEq] at h
      subst h
      simp only [Bool.and_eq_true, Nat.beq_eq] at hb
      obtain ⟨⟨rfl, rfl⟩, rfl⟩ := hb
      have hl := rep_length _ _ _ hr
      simp only [width] at hl
      exact ⟨by rw [seg_all _ _ hl]; exact hr, by omega, rfl, fun h => by simp at h⟩
  | .arr m t, x, cs, o, n, u, hr, h => by
    simp only [sub] at h
    cases hb : (ag && Nat.beq o 0 && Nat.beq n (m * width t)) <;> rw [hb] at h
    · simp at h
    · simp only [cond_true, Option.some.injEq] at h
      subst h
      simp only [Bool.and_eq_true, Nat.beq_eq] at hb
      obtain ⟨⟨rfl, rfl⟩, rfl⟩ := hb
      have hl := rep_length _ _ _ hr
      simp only [width] at hl
      exact ⟨by rw [seg_all _ _ hl]; exact hr, by omega, rfl, fun h => by simp at h⟩
  | .unit, _, _, _, _, _, _, h | .tup _, _, _, _, _, _, _, h => by simp [sub] at h
  | .int _, _, _, _, _, _, hr, h | .bool, _, _, _, _, _, hr, h | .str, _, _, _, _, _, hr, h | .cst _, _, _, _, _, _, hr, h | .sl _, _, _, _, _, _, hr, h
  | .ref _ _, _, _, _, _, _, hr, h | .own _, _, _, _, _, _, hr, h | .eref _ _, _, _, _, _, _, hr, h | .fref _, _, _, _, _, _, hr, h | .vw _, _, _, _, _, _, hr, h =>
    sub_cell rfl hr (by simpa only [sub] using h)

/-- `x`, of type `t`, with the value `v` at `o`. -/
def put (v : V) : (t : Ty) → den t → (o : Nat) → Option V
  | .pair a b, x, o => bif Nat.ble (o + width v.t) (width a)
      then match put v a x.1 o with | some u => some ⟨.pair u.t b, (u.x, x.2)⟩ | none => none
      else bif Nat.ble (width a) o then match put v b x.2 (o - width a) with | some u => some ⟨.pair a u.t, (x.1, u.x)⟩ | none => none else none
  | .agg c, x, o => bif isAggT v.t && Nat.beq o 0 && Nat.beq (width v.t) (width c) then some v
      else match put v c x o with | some u => some ⟨.agg u.t, u.x⟩ | none => none
  | .arr m t, _, o => bif isAggT v.t && Nat.beq o 0 && Nat.beq (width v.t) (m * width t) then some v else none
  | .unit, _, _ => none
  | .tup _, _, _ => none
  | _, _, o => bif cellT v.t && Nat.beq o 0 then some v else none

def splice (cs : List Value) (o : Nat) (vs : List Value) : List Value := cs.take o ++ vs ++ cs.drop (o + vs.length)

theorem put_rep {w : World} {F : Nat → Prop} {ι : Nat → Option Ref} {v : V} {vs : List Value} (hv : rep w F ι v.t v.x vs) : ∀ (t : Ty) (x : den t) (cs : List Value) (o : Nat) (u : V),
    rep w F ι t x cs → put v t x o = some u → rep w F ι u.t u.x (splice cs o vs) ∧ o + vs.length ≤ cs.length ∧ isAggT u.t = isAggT t ∧ cellT u.t = cellT t
  | .pair a b, x, cs, o, u, hr, h => by
    have hlv := rep_length _ _ _ hv
    simp only [rep] at hr
    obtain ⟨c1, c2, rfl, h1, h2⟩ := hr
    have hl1 := rep_length _ _ _ h1
    have hl2 := rep_length _ _ _ h2
    simp only [put] at h
    cases hb : Nat.ble (o + width v.t) (width a) <;> rw [hb] at h
    · simp only [cond_false] at h
      cases hb2 : Nat.ble (width a) o <;> rw [hb2] at h
      · simp at h
      · simp only [cond_true] at h
        rw [Nat.ble_eq] at hb2
        split at h
        case h_2 => simp at h
        case h_1 u' hu =>
          simp only [Option.some.injEq] at h
          subst h
          obtain ⟨q1, q2, _, _⟩ := put_rep hv b x.2 c2 _ u' h2 hu
          refine ⟨?_, by simp; omega, rfl, rfl⟩
          simp only [rep]
          refine ⟨c1, splice c2 (o - width a) vs, ?_, h1, q1⟩
          simp only [splice, List.take_append, List.drop_append, hl1]
          rw [List.take_of_length_le (by omega : c1.length ≤ o), List.drop_of_length_le (by omega : c1.length ≤ o + vs.length)]
          simp only [List.nil_append, List.append_assoc]
          rw [show o + vs.length - width a = o - width a + vs.length by omega]
    · simp only [cond_true] at h
      rw [Nat.ble_eq] at hb
      split at h
      case h_2 => simp at h
      case h_1 u' hu =>
        simp only [Option.some.injEq] at h
        subst h
        obtain ⟨q1, q2, _, _⟩ := put_rep hv a x.1 c1 o u' h1 hu
        refine ⟨?_, by simp; omega, rfl, rfl⟩
        simp only [rep]
        refine ⟨splice c1 o vs, c2, ?_, q1, h2⟩
        simp only [splice]
        rw [List.take_append_of_le_length (by omega), List.drop_append_of_le_length (by omega)]
        simp only [List.append_assoc]
  | .agg c, x, cs, o, u, hr, h => by
    have hlv := rep_length _ _ _ hv
    have hlc := rep_length _ _ _ hr
    simp only [put] at h
    cases hb : (isAggT v.t && Nat.beq o 0 && Nat.beq (width v.t) (width c)) <;> rw [hb] at h
    · simp only [cond_false] at h
      split at h
      case h_2 => simp at h
      case h_1 u' hu =>
        simp only [Option.some.injEq] at h
        subst h
        simp only [rep] at hr ⊢
        obtain ⟨q1, q2, _, _⟩ := put_rep hv c x cs o u' hr hu
        exact ⟨q1, q2, rfl, rfl⟩
    · simp only [cond_true, Option.some.injEq] at h
      subst h
      simp only [Bool.and_eq_true, Nat.beq_eq] at hb
      obtain ⟨⟨h1, rfl⟩, h2⟩ := hb
      simp only [width] at hlc
      refine ⟨?_, by omega, h1, ?_⟩
      · have : splice cs 0 vs = vs := by simp only [splice, List.take_zero, List.nil_append]; rw [List.drop_of_length_le (by omega)]; simp
        rw [this]; exact hv
      · revert h1; cases v.t <;> simp [isAggT, cellT]
  | .arr m t, x, cs, o, u, hr, h => by
    have hlv := rep_length _ _ _ hv
    have hlc := rep_length _ _ _ hr
    simp only [put] at h
    cases hb : (isAggT v.t && Nat.beq o 0 && Nat.beq (width v.t) (m * width t)) <;> rw [hb] at h
    · simp at h
    · simp only [cond_true, Option.some.injEq] at h
      subst h
      simp only [Bool.and_eq_true, Nat.beq_eq] at hb
      obtain ⟨⟨h1, rfl⟩, h2⟩ := hb
      simp only [width] at hlc
      refine ⟨?_, by omega, h1, ?_⟩
      · have : splice cs 0 vs = vs := by simp only [splice, List.take_zero, List.nil_append]; rw [List.drop_of_length_le (by omega)]; simp
        rw [this]; exact hv
      · revert h1; cases v.t <;> simp [isAggT, cellT]
  | .unit, _, _, _, _, _, h | .tup _, _, _, _, _, _, h => by simp [put] at h
  | .int _, _, cs, o, u, hr, h | .bool, _, cs, o, u, hr, h | .str, _, cs, o, u, hr, h | .cst _, _, cs, o, u, hr, h | .sl _, _, cs, o, u, hr, h
  | .ref _ _, _, cs, o, u, hr, h | .own _, _, cs, o, u, hr, h | .eref _ _, _, cs, o, u, hr, h | .fref _, _, cs, o, u, hr, h | .vw _, _, cs, o, u, hr, h => by
    have hlv := rep_length _ _ _ hv
    have hlc := rep_length _ _ _ hr
    simp only [width] at hlc
    simp only [put] at h
    cases hb : (cellT v.t && Nat.beq o 0) <;> rw [hb] at h
    · simp at h
    · simp only [cond_true, Option.some.injEq] at h
      subst h
      simp only [Bool.and_eq_true, Nat.beq_eq] at hb
      obtain ⟨h1, rfl⟩ := hb
      have hw : width v.t = 1 := by revert h1; cases v.t <;> simp [cellT, width]
      refine ⟨?_, by omega, ?_, ?_⟩
      · have : splice cs 0 vs = vs := by simp only [splice, List.take_zero, List.nil_append]; rw [List.drop_of_length_le (by omega)]; simp
        rw [this]; exact hv
      all_goals (revert h1; cases v.t <;> simp [isAggT, cellT])

end Go.VM

namespace Go.VM
open Go Go.RowKit

section vreps
variable {w : World} {F : Nat → Prop} {ι : Nat → Option Ref}
theorem vrep_int {k : IntKind} {n : den (.int k)} {v : Value} : vrep w F ι (.int k) n v ↔ v = .int k n := by simp [vrep, vrep1, isAggT, cellT, rep]
theorem vrep_bool {n : den .bool} {v : Value} : vrep w F ι .bool n v ↔ v = .bool n := by simp [vrep, vrep1, isAggT, cellT, rep]
theorem vrep_str {n : den .str} {v : Value} : vrep w F ι .str n v ↔ v = .string n := by simp [vrep, vrep1, isAggT, cellT, rep]
theorem vrep_cst {c : Cst} {n : den (.cst c)} {v : Value} : vrep w F ι (.cst c) n v ↔ v = c.val := by simp [vrep, vrep1, isAggT, cellT, rep]
theorem vrep_cell {t : Ty} {x : den t} {v : Value} (h : cellT t = true) : vrep w F ι t x v ↔ rep w F ι t x [v] := by
  cases t <;> simp_all [vrep, vrep1, isAggT, cellT]
theorem vrep_agg {t : Ty} {x : den t} {v : Value} (h : isAggT t = true) : vrep w F ι t x v ↔ ∃ cs, v = .agg cs ∧ rep w F ι t x cs.toList := by
  cases t <;> simp_all [vrep, vrep1, isAggT, cellT]
theorem vrep_cells {t : Ty} {x : den t} {v : Value} (ht : isAggT t = true ∨ cellT t = true) (h : vrep w F ι t x v) : rep w F ι t x v.cells.toList := by
  rcases ht with ht | ht
  · rw [vrep_agg ht] at h; obtain ⟨cs, rfl, h⟩ := h; exact h
  · rw [vrep_cell ht] at h; rw [cell_cells ht h]; exact h
theorem vrep_of_rep {t : Ty} {x : den t} {cs : Array Value} (ht : isAggT t = true) (h : rep w F ι t x cs.toList) : vrep w F ι t x (.agg cs) :=
  (vrep_agg ht).2 ⟨cs, rfl, h⟩
end vreps

def valT (t : Ty) : Bool := isAggT t || cellT t

/-- Reads the payload off cells that hold no address. -/
def ofCellsN {α : Type} (f : List Value → Option (α × List Value)) : Nat → List Value → Option (List α × List Value)
  | 0, cs => some ([], cs)
  | n + 1, cs => match f cs with
    | some (x, r) => match ofCellsN f n r with
      | some (xs, r') => some (x :: xs, r')
      | none => none
    | none => none

def ofCst : Cst → Value → Bool
  | .nilSl, .slice none 0 0 => true
  | .nilFn, .nilFunc => true
  | .nilPtr, .pointer none => true
  | .nilIf, .nilIface => true
  | _, _ => false

def ofI (k : IntKind) : Value → Option Int
  | .int k' n => if k' = k then some n else none
  | _ => none
def ofB : Value → Option Bool
  | .bool b => some b
  | _ => none
def ofS : Value → Option ByteArray
  | .string b => some b
  | _ => none
def ofNil : Value → Bool
  | .slice none 0 0 => true
  | _ => false

theorem ofI_val {k : IntKind} {v : Value} {n : Int} (h : ofI k v = some n) : v = .int k n := by
  unfold ofI at h
  split at h
  · split at h
    · rename_i e; simp at h; rw [e, h]
    · simp at h
  · simp at h
theorem ofB_val {v : Value} {n : Bool} (h : ofB v = some n) : v = .bool n := by unfold ofB at h; split at h <;> simp_all
theorem ofS_val {v : Value} {n : ByteArray} (h : ofS v = some n) : v = .string n := by unfold ofS at h; split at h <;> simp_all
theorem ofNil_val {v : Value} (h : ofNil v = true) : v = .slice none 0 0 := by unfold ofNil at h; split at h <;> simp_all

def head1 {α : Type} (f : Value → Option α) : List Value → Option (α × List Value)
  | [] => none
  | v :: r => match f v with
    | some x => some (x, r)
    | none => none

theorem head1_some {α : Type} {f : Value → Option α} {cs r : List Value} {x : α} (h : head1 f cs = some (x, r)) : ∃ v, cs = v :: r ∧ f v = some x := by
  unfold head1 at h
  split at h
  · simp at h
  · split at h
    · rename_i e; simp at h; obtain ⟨rfl, rfl⟩ := h; exact ⟨_, rfl, e⟩
    · simp at h

def ofCells : (t : Ty) → List Value → Option (den t × List Value)
  | .int k => head1 (ofI k)
  | .bool => head1 ofB
  | .str => head1 ofS
  | .cst c => head1 (fun v => bif ofCst c v then some () else none)
  | .sl _ => head1 (fun v => bif ofNil v then some none else none)
  | .unit => fun r => some ((), r)
  | .pair a b => fun r => match ofCells a r with
    | some (x, r1) => match ofCells b r1 with
      | some (y, r2) => some ((x, y), r2)
      | none => none
    | none => none
  | .agg c => ofCells c
  | .arr n t => ofCellsN (ofCells t) n
  | .tup _ => fun _ => none
  | .ref _ _ => fun _ => none
  | .own _ => fun _ => none
  | .eref _ _ => fun _ => none
  | .fref _ => fun _ => none
  | .vw _ => fun _ => none

theorem ofCst_val {c : Cst} {v : Value} (h : ofCst c v = true) : v = c.val := by
  unfold ofCst at h
  split at h <;> simp_all [Cst.val]

theorem bif_some {α : Type} {b : Bool} {x y : α} (h : (bif b then some x else none) = some y) : b = true ∧ x = y := by
  cases b <;> simp_all

theorem ofCells_rep {w : World} {F : Nat → Prop} {ι : Nat → Option Ref} : ∀ (t : Ty) (cs : List Value) (x : den t) (r : List Value),
    ofCells t cs = some (x, r) → ∃ c, cs = c ++ r ∧ rep w F ι t x c
  | .int k, cs, x, r, h => by obtain ⟨v, rfl, e⟩ := head1_some h; exact ⟨[v], rfl, by simp [rep, ofI_val e]⟩
  | .bool, cs, x, r, h => by obtain ⟨v, rfl, e⟩ := head1_some h; exact ⟨[v], rfl, by simp [rep, ofB_val e]⟩
  | .str, cs, x, r, h => by obtain ⟨v, rfl, e⟩ := head1_some h; exact ⟨[v], rfl, by simp [rep, ofS_val e]⟩
  | .cst c, cs, x, r, h => by obtain ⟨v, rfl, e⟩ := head1_some h; exact ⟨[v], rfl, by simp [rep, ofCst_val (bif_some e).1]⟩
  | .sl t, cs, x, r, h => by
    obtain ⟨v, rfl, e⟩ := head1_some h
    obtain ⟨e1, e2⟩ := bif_some e
    have e2 : x = (none : Option (List (den t))) := e2.symm
    subst e2
    exact ⟨[v], rfl, by simp [rep, ofNil_val e1]⟩
  | .unit, cs, x, r, h => by simp only [ofCells, Option.some.injEq, Prod.mk.injEq] at h; obtain ⟨_, rfl⟩ := h; exact ⟨[], rfl, rfl⟩
  | .pair a b, cs, x, r', h => by
    simp only [ofCells] at h
    split at h
    case h_2 => simp at h
    case h_1 x1 r1 h1 =>
      split at h
      case h_2 => simp at h
      case h_1 y r2 h2 =>
        simp only [Option.some.injEq, Prod.mk.injEq] at h
        obtain ⟨rfl, rfl⟩ := h
        obtain ⟨c1, rfl, q1⟩ := ofCells_rep (w := w) (F := F) (ι := ι) a cs x1 r1 h1
        obtain ⟨c2, rfl, q2⟩ := ofCells_rep (w := w) (F := F) (ι := ι) b _ y _ h2
        exact ⟨c1 ++ c2, by simp, by simp only [rep]; exact ⟨c1, c2, rfl, q1, q2⟩⟩
  | .agg c, cs, x, r, h => by simp only [ofCells] at h; simp only [rep]; exact ofCells_rep c cs x r h
  | .arr n t, cs, x, r, h => by
    simp only [ofCells] at h
    have key : ∀ (n : Nat) (cs : List Value) (xs : List (den t)) (r : List Value), ofCellsN (ofCells t) n cs = some (xs, r) →
        ∃ c, cs = c ++ r ∧ xs.length = n ∧ c.length = n * width t ∧ ∀ i y, xs[i]? = some y → rep w F ι t y (seg c (i * width t) (width t)) := by
      intro n
      induction n with
      | zero => intro cs xs r h; simp only [ofCellsN, Option.some.injEq, Prod.mk.injEq] at h; obtain ⟨rfl, rfl⟩ := h; exact ⟨[], rfl, rfl, by simp, by simp⟩
      | succ n ih =>
        intro cs xs r h
        simp only [ofCellsN] at h
        split at h
        case h_2 => simp at h
        case h_1 x1 r1 h1 =>
          split at h
          case h_2 => simp at h
          case h_1 ys r2 h2 =>
            simp only [Option.some.injEq, Prod.mk.injEq] at h
            obtain ⟨rfl, rfl⟩ := h
            obtain ⟨c1, rfl, q1⟩ := ofCells_rep (w := w) (F := F) (ι := ι) t cs x1 r1 h1
            obtain ⟨c2, rfl, e1, e2, q2⟩ := ih _ _ _ h2
            have hl := rep_length _ _ _ q1
            refine ⟨c1 ++ c2, by simp, by simp [e1], by simp [hl, e2, Nat.add_mul]; omega, ?_⟩
            intro i y hy
            cases i with
            | zero =>
              simp only [List.getElem?_cons_zero, Option.some.injEq] at hy; subst hy
              rw [Nat.zero_mul, seg_left _ _ _ _ (by omega), seg_all _ _ hl]; exact q1
            | succ i =>
              simp only [List.getElem?_cons_succ] at hy
              have hh : c1.length ≤ (i + 1) * width t := by rw [hl, Nat.add_mul]; omega
              rw [seg_right _ _ _ _ hh, hl, Nat.add_mul, Nat.one_mul, Nat.add_sub_cancel]
              exact q2 i y hy
    obtain ⟨c, q0, q1, q2, q3⟩ := key n cs x r h
    exact ⟨c, q0, by simp only [rep]; exact ⟨q1, q2, q3⟩⟩
  | .tup _, _, _, _, h | .ref _ _, _, _, _, h | .own _, _, _, _, h | .eref _ _, _, _, _, h | .fref _, _, _, _, h | .vw _, _, _, _, h => by simp [ofCells] at h

/-- The type of pure data for a type of the program; nothing of it is local. -/
def tyList (f : TypeId → Option Ty) : List TypeId → Option Ty
  | [] => some .unit
  | [t] => f t
  | t :: ts => match f t with
    | some a => match tyList f ts with
      | some b => some (.pair a b)
      | none => none
    | none => none

def tyTup (f : TypeId → Option Ty) : List TypeId → Option Ty
  | [] => some .unit
  | t :: ts => match f t with
    | some a => match tyTup f ts with
      | some b => some (.pair a b)
      | none => none
    | none => none

def tyOf (P : Program) : Nat → TypeId → Option Ty
  | 0, _ => none
  | n + 1, t => match P.underlying t with
    | some (.int k) => some (.int k)
    | some .bool => some .bool
    | some .string => some .str
    | some (.slice e) => match tyOf P n e with | some a => some (.sl a) | none => none
    | some (.struct fs) => match tyList (tyOf P n) (fs.toList.map (·.type)) with | some a => some (.agg a) | none => none
    | some (.array m e) => match tyOf P n e with | some a => some (.arr m a) | none => none
    | some (.pointer _) => some (.cst .nilPtr)
    | some (.func _ _ _) => some (.cst .nilFn)
    | some (.interface _) => some (.cst .nilIf)
    | some (.tuple ts) => match tyTup (tyOf P n) ts.toList with | some a => some (.tup a) | none => none
    | _ => none

def zeroV (P : Program) (t : TypeId) : Option V :=
  match tyOf P 12 t with
  | some ty => match P.info? t with
    | some i => match i.zero with
      | some z => match ofCells ty z.cells.toList with
        | some (x, []) => bif valT ty then some ⟨ty, x⟩ else none
        | _ => none
      | none => none
    | none => none
  | none => none

theorem run_info {P : Program} {t : TypeId} {i : TypeInfo} (h : P.info? t = some i) (w : World) : (typeInfo t).run P w = .ok i w := by
  simp [typeInfo, run_program, h]

theorem zeroV_rep {P : Program} {t : TypeId} {v : V} (h : zeroV P t = some v) (w : World) : ∃ z, (zeroValue t).run P w = .ok z w ∧ valT v.t = true ∧
    ∀ F ι, rep w F ι v.t v.x z.cells.toList := by
  unfold zeroV at h
  split at h <;> try simp at h
  split at h <;> try simp at h
  rename_i ty _ _ i hi
  split at h <;> try simp at h
  rename_i z hz
  split at h <;> try simp at h
  rename_i x hx
  cases hv : valT ty <;> rw [hv] at h <;> simp at h
  subst h
  refine ⟨z, ?_, hv, fun F ι => ?_⟩
  · simp [zeroValue, run_info hi, hz]
  · obtain ⟨c, e, q⟩ := ofCells_rep (w := w) (F := F) (ι := ι) _ _ _ _ hx
    simp at e; rw [e]; exact q

end Go.VM

namespace Go.VM
open Go Go.RowKit

def castT (t u : Ty) (x : den u) : Option (den t) := if h : u = t then some (h ▸ x) else none

def coeP {α β : Type} (f : (u : Ty) → den u → Option α) (g : (u : Ty) → den u → Option β) : (u : Ty) → den u → Option (α × β)
  | .pair a b => fun x => match f a x.1 with
    | some y => match g b x.2 with
      | some z => some (y, z)
      | none => none
    | none => none
  | _ => fun _ => none
def coeA {α : Type} (f : (u : Ty) → den u → Option α) : (u : Ty) → den u → Option α
  | .agg c => f c
  | _ => fun _ => none
def coeT {α : Type} (f : (u : Ty) → den u → Option α) : (u : Ty) → den u → Option α
  | .tup c => f c
  | _ => fun _ => none
def isNilC : Cst → Bool
  | .nilSl => true
  | _ => false
def coeB (t : Ty) : Option Blk → Option (den (.sl t))
  | some (.arr t' l) => castT (.sl t) (.sl t') l
  | _ => none
/-- A part of a local list. -/
def coeW (t : Ty) (k : Option Blk) (l h : Int) : Option (den (.sl t)) :=
  match k with
  | some (.arr t' y) => castT (.sl t) (.sl t') (slcS y l h)
  | _ => none
def coeS (hp : Nat → Option Blk) (t : Ty) : (u : Ty) → den u → Option (den (.sl t))
  | .cst c => fun _ => bif isNilC c then some (dflt (.sl t)) else none
  | .own b => fun _ => coeB t (hp b)
  | .vw b => fun x => coeW t (hp b) x.1 x.2
  | .sl t' => castT (.sl t) (.sl t')
  | _ => fun _ => none
theorem coeS_some {hp : Nat → Option Blk} {t : Ty} : ∀ {u : Ty} {x : den u} {y : den (.sl t)}, coeS hp t u x = some y →
    (u = .cst .nilSl ∧ y = dflt (.sl t)) ∨ (∃ b l, u = .own b ∧ hp b = some (.arr t l) ∧ y = l) ∨ (∃ e : u = .sl t, e ▸ x = y) ∨
      (∃ b l, ∃ e : u = .vw b, hp b = some (.arr t l) ∧ y = slcS l (e ▸ x : den (.vw b)).1 (e ▸ x : den (.vw b)).2) := by
  intro u x y h
  cases u with
  | cst c =>
    change (bif isNilC c then some (dflt (.sl t)) else none) = some y at h
    cases c <;> simp [isNilC] at h
    exact .inl ⟨rfl, h.symm⟩
  | own b =>
    change coeB t (hp b) = some y at h
    unfold coeB at h
    split at h
    · rename_i t' l hb
      unfold castT at h
      split at h
      · rename_i e; cases e; simp at h; exact .inr (.inl ⟨b, l, rfl, hb, h.symm⟩)
      · simp at h
    · simp at h
  | sl t' =>
    change castT (.sl t) (.sl t') x = some y at h
    unfold castT at h
    split at h
    · rename_i e; simp at h; exact .inr (.inr (.inl ⟨e, h⟩))
    · simp at h
  | vw b =>
    change coeW t (hp b) (x : Int × Int).1 (x : Int × Int).2 = some y at h
    unfold coeW at h
    split at h
    · rename_i t' l hb
      unfold castT at h
      split at h
      · rename_i e; cases e; simp only [Option.some.injEq] at h; exact .inr (.inr (.inr ⟨b, l, rfl, hb, h.symm⟩))
      · simp at h
    · simp at h
  | _ => exact absurd h (by intro h; cases h)

theorem coeP_some {α β : Type} {f : (u : Ty) → den u → Option α} {g : (u : Ty) → den u → Option β} : ∀ {u : Ty} {x : den u} {y : α × β}, coeP f g u x = some y →
    ∃ a b, ∃ e : u = .pair a b, ∃ y1 y2, f a (e ▸ x : den (.pair a b)).1 = some y1 ∧ g b (e ▸ x : den (.pair a b)).2 = some y2 ∧ y = (y1, y2) := by
  intro u x y h
  cases u with
  | pair a b =>
    change (match f a x.1 with
    | some y => match g b x.2 with
      | some z => some (y, z)
      | none => none
    | none => none) = some y at h
    split at h
    · split at h
      · rename_i h1 _ _ h2; simp at h; exact ⟨a, b, rfl, _, _, h1, h2, h.symm⟩
      · simp at h
    · simp at h
  | _ => exact absurd h (by intro h; cases h)
theorem coeA_some {α : Type} {f : (u : Ty) → den u → Option α} : ∀ {u : Ty} {x : den u} {y : α}, coeA f u x = some y → ∃ c, ∃ e : u = .agg c, f c (e ▸ x : den (.agg c)) = some y := by
  intro u x y h
  cases u with
  | agg c => exact ⟨c, rfl, h⟩
  | _ => exact absurd h (by intro h; cases h)
theorem coeT_some {α : Type} {f : (u : Ty) → den u → Option α} : ∀ {u : Ty} {x : den u} {y : α}, coeT f u x = some y → ∃ c, ∃ e : u = .tup c, f c (e ▸ x : den (.tup c)) = some y := by
  intro u x y h
  cases u with
  | tup c => exact ⟨c, rfl, h⟩
  | _ => exact absurd h (by intro h; cases h)

/-- `x` as frozen data of the type `t`; local slices by what they hold. -/
def coe (hp : Nat → Option Blk) : (t u : Ty) → den u → Option (den t)
  | .pair a b => coeP (coe hp a) (coe hp b)
  | .agg c => coeA (coe hp c)
  | .tup c => coeT (coe hp c)
  | .sl t => coeS hp t
  | .int k => castT (.int k)
  | .bool => castT .bool
  | .str => castT .str
  | .cst c => castT (.cst c)
  | .unit => castT .unit
  | .arr n t => castT (.arr n t)
  | .ref b o => castT (.ref b o)
  | .own b => castT (.own b)
  | .eref b o => castT (.eref b o)
  | .fref t => castT (.fref t)
  | .vw b => castT (.vw b)

section
variable (hp : Nat → Option Blk)
theorem coe_pair (a b u : Ty) (x : den u) : coe hp (.pair a b) u x = coeP (coe hp a) (coe hp b) u x := rfl
theorem coe_agg (c u : Ty) (x : den u) : coe hp (.agg c) u x = coeA (coe hp c) u x := rfl
theorem coe_tup (c u : Ty) (x : den u) : coe hp (.tup c) u x = coeT (coe hp c) u x := rfl
theorem coe_sl (c u : Ty) (x : den u) : coe hp (.sl c) u x = coeS hp c u x := rfl
end

theorem castT_some {t u : Ty} {x : den u} {y : den t} (h : castT t u x = some y) : ∃ e : u = t, e ▸ x = y := by
  unfold castT at h
  split at h
  · rename_i e; exact ⟨e, by simpa using h⟩
  · simp at h

/-- What a local block holds, as frozen data. -/
def Holds (w : World) (F : Nat → Prop) (ι : Nat → Option Ref) (hp : Nat → Option Blk) : Prop :=
  ∀ b t l, hp b = some (.arr t l) → ∃ r, ι b = some r ∧ rep w F ι (.sl t) l [r.val] ∧ (r.nil = false → r.wd = width t)

/-- A part of frozen data. -/
theorem rep_part {w : World} {F : Nat → Prop} {ι : Nat → Option Ref} {t : Ty} {l : Option (List (den t))} {r : Ref} {i j : Int} (h : rep w F ι (.sl t) l [r.val]) (hn : r.nil = false) (hw : r.wd = width t)
    (h0 : 0 ≤ i) (h1 : i ≤ j) (h2 : j ≤ (r.len : Int)) : rep w F ι (.sl t) (slcS l i j) [r.view i j] := by
  cases l with
  | none => simp only [rep, Ref.val, hn, Bool.false_eq_true, if_false] at h; simp at h
  | some y =>
    simp only [rep, Ref.val, hn, Bool.false_eq_true, if_false] at h
    obtain ⟨blk, off, cap, cells, el, fz, e, hf, hl, hb, hr⟩ := h
    simp only [List.cons.injEq, and_true, Value.slice.injEq, Option.some.injEq, Addr.mk.injEq] at e
    obtain ⟨⟨e1, e2⟩, e3, e4⟩ := e
    simp only [Option.map_some, rep, Ref.view, e1, e2, e4, hw]
    have e5 : ((y.take j.toNat).drop i.toNat).length = j.toNat - i.toNat := by simp; omega
    refine ⟨blk, _, _, cells, el, fz, by rw [e5], hf, by rw [e5]; omega, hb, ?_⟩
    intro k z hz
    have hk : k < j.toNat - i.toNat := by
      rcases Nat.lt_or_ge k (j.toNat - i.toNat) with q | q
      · exact q
      · rw [List.getElem?_eq_none (by omega)] at hz; simp at hz
    rw [if_neg (by omega)]
    have := hr (i.toNat + k) z (by rw [← hz]; simp [List.getElem?_take]; omega)
    rw [Nat.add_mul, ← Nat.add_assoc] at this
    exact this

theorem coe_rep {w : World} {F F' : Nat → Prop} {ι : Nat → Option Ref} {hp : Nat → Option Blk} (hF : ∀ b, F b → F' b) (hh : Holds w F' ι hp) :
    ∀ (t u : Ty) (x : den u) (y : den t) (cs : List Value), rep w F ι u x cs → coe hp t u x = some y → rep w F' ι t y cs := by
  have cast : ∀ (t u : Ty) (x : den u) (y : den t) (cs : List Value), rep w F ι u x cs → castT t u x = some y → rep w F' ι t y cs := by
    intro t u x y cs hr h
    obtain ⟨rfl, rfl⟩ := castT_some h
    exact rep_mono hF (fun _ _ h => h) (fun _ _ => rfl) _ _ _ hr
  intro t
  induction t with
  | pair a b iha ihb =>
    intro u x y cs hr h
    rw [coe_pair] at h
    obtain ⟨a', b', rfl, y1, y2, h1, h2, rfl⟩ := coeP_some h
    simp only [rep] at hr ⊢
    obtain ⟨c1, c2, rfl, q1, q2⟩ := hr
    exact ⟨c1, c2, rfl, iha _ _ _ _ q1 h1, ihb _ _ _ _ q2 h2⟩
  | agg c ih =>
    intro u x y cs hr h
    rw [coe_agg] at h
    obtain ⟨c', rfl, h⟩ := coeA_some h
    simp only [rep] at hr ⊢
    exact ih _ _ _ _ hr h
  | tup c ih =>
    intro u x y cs hr h
    rw [coe_tup] at h
    obtain ⟨c', rfl, h⟩ := coeT_some h
    simp only [rep] at hr
  | sl t ih =>
    intro u x y cs hr h
    rw [coe_sl] at h
    rcases coeS_some h with ⟨rfl, rfl⟩ | ⟨b, l, rfl, hb, rfl⟩ | ⟨rfl, rfl⟩ | ⟨b, l, rfl, hb, rfl⟩
    · simp only [rep, Cst.val] at hr; subst hr; rfl
    · simp only [rep] at hr
      obtain ⟨r, hr, rfl⟩ := hr
      obtain ⟨r', hr', q, _⟩ := hh _ _ _ hb
      rw [hr] at hr'
      cases hr'
      exact q
    · exact rep_mono hF (fun _ _ h => h) (fun _ _ => rfl) _ _ _ hr
    · simp only [rep] at hr
      obtain ⟨r, hr, hn, h0, h1, h2, rfl⟩ := hr
      obtain ⟨r', hr', q, hw⟩ := hh _ _ _ hb
      rw [hr] at hr'
      cases hr'
      exact rep_part q hn (hw hn) h0 h1 h2
  | _ => intro u x y cs hr h; exact cast _ _ _ _ _ hr h

def noHeap : Nat → Option Blk := fun _ => none
theorem noHeap_holds {w : World} {F : Nat → Prop} {ι : Nat → Option Ref} : Holds w F ι noHeap := by intro b t l h; simp [noHeap] at h

theorem coe_tags {hp : Nat → Option Blk} : ∀ (t u : Ty) (x : den u) (y : den t), coe hp t u x = some y → isAggT u = isAggT t ∧ (t ≠ u → cellT u = cellT t) ∧ (cellT u = cellT t) := by
  have cast : ∀ (t u : Ty) (x : den u) (y : den t), castT t u x = some y → isAggT u = isAggT t ∧ (t ≠ u → cellT u = cellT t) ∧ (cellT u = cellT t) := by
    intro t u x y h; obtain ⟨rfl, rfl⟩ := castT_some h; simp
  intro t u x y h
  cases t with
  | pair a b => rw [coe_pair] at h; obtain ⟨a', b', rfl, _⟩ := coeP_some h; simp [isAggT, cellT]
  | agg c => rw [coe_agg] at h; obtain ⟨c', rfl, _⟩ := coeA_some h; simp [isAggT, cellT]
  | tup c => rw [coe_tup] at h; obtain ⟨c', rfl, _⟩ := coeT_some h; simp [isAggT, cellT]
  | sl t =>
    rw [coe_sl] at h
    rcases coeS_some h with ⟨rfl, rfl⟩ | ⟨b, l, rfl, hb, rfl⟩ | ⟨rfl, rfl⟩ | ⟨b, l, rfl, hb, rfl⟩ <;> simp [isAggT, cellT]
  | _ => exact cast _ _ _ _ h

/-- Types of data that is nowhere local. -/
def frozen : Ty → Bool
  | .pair a b => frozen a && frozen b
  | .agg c => frozen c
  | .tup c => frozen c
  | .arr _ t => frozen t
  | .sl t => frozen t
  | .fref t => frozen t
  | .ref _ _ | .own _ | .eref _ _ | .vw _ => false
  | _ => true

theorem rep_frozen {w : World} {F : Nat → Prop} {ι ι' : Nat → Option Ref} : ∀ (t : Ty) (x : den t) (cs : List Value), frozen t = true → rep w F ι t x cs → rep w F ι' t x cs
  | .int _, _, _, _, h | .bool, _, _, _, h | .str, _, _, _, h | .cst _, _, _, _, h | .unit, _, _, _, h => by simpa only [rep] using h
  | .sl _, none, _, _, h => by simpa only [rep] using h
  | .sl t, some l, _, hf, h => by
    simp only [rep] at h ⊢
    obtain ⟨blk, off, cap, cells, el, fz, rfl, hf', hl, hb, hr⟩ := h
    exact ⟨blk, off, cap, cells, el, fz, rfl, hf', hl, hb, fun i y hy => rep_frozen t y _ hf (hr i y hy)⟩
  | .pair a b, x, _, hf, h => by
    simp only [frozen, Bool.and_eq_true] at hf
    simp only [rep] at h ⊢
    obtain ⟨c1, c2, rfl, h1, h2⟩ := h
    exact ⟨c1, c2, rfl, rep_frozen a _ _ hf.1 h1, rep_frozen b _ _ hf.2 h2⟩
  | .agg c, x, cs, hf, h => by simp only [rep] at h ⊢; exact rep_frozen c x cs hf h
  | .arr _ t, _, _, hf, h => by simp only [rep] at h ⊢; exact ⟨h.1, h.2.1, fun i y hy => rep_frozen t y _ hf (h.2.2 i y hy)⟩
  | .tup _, _, _, _, h => by simp only [rep] at h
  | .ref _ _, _, _, hf, _ | .own _, _, _, hf, _ | .eref _ _, _, _, hf, _ | .vw _, _, _, hf, _ => by simp [frozen] at hf
  | .fref t, _, _, hf, h => by
    simp only [rep] at h ⊢
    obtain ⟨blk, off, cells, el, fz, rfl, hf', hb, hr⟩ := h
    exact ⟨blk, off, cells, el, fz, rfl, hf', hb, rep_frozen t _ _ hf hr⟩

theorem vrep1_frozen {w : World} {F : Nat → Prop} {ι ι' : Nat → Option Ref} {t : Ty} {x : den t} {v : Value} (hf : frozen t = true) (h : vrep1 w F ι t x v) : vrep1 w F ι' t x v := by
  unfold vrep1 at h ⊢
  cases ht : isAggT t <;> rw [ht] at h
  · exact ⟨h.1, rep_frozen _ _ _ hf h.2⟩
  · obtain ⟨cs, e, h⟩ := h; exact ⟨cs, e, rep_frozen _ _ _ hf h⟩

theorem vrep_vrep1 {w : World} {F : Nat → Prop} {ι : Nat → Option Ref} {t : Ty} {x : den t} {v : Value} (ht : valT t = true) : vrep w F ι t x v ↔ vrep1 w F ι t x v := by
  cases t <;> simp_all [valT, isAggT, cellT, vrep]

/-! Arithmetic. -/

def bitI (op : BinOp) (k : IntKind) (a b : Int) : Int :=
  k.wrap ((match op with
    | .and => BitVec.ofInt k.bits a &&& BitVec.ofInt k.bits b
    | .or => BitVec.ofInt k.bits a ||| BitVec.ofInt k.bits b
    | .xor => BitVec.ofInt k.bits a ^^^ BitVec.ofInt k.bits b
    | _ => BitVec.ofInt k.bits a &&& ~~~(BitVec.ofInt k.bits b) : BitVec k.bits).toNat : Int)

def shlI (k : IntKind) (a b : Int) : Int := k.wrap (a * 2 ^ (min b.toNat k.bits))
def shrI (k : IntKind) (a b : Int) : Int := a.fdiv (2 ^ (min b.toNat k.bits))

def binI (op : BinOp) (k : IntKind) (a b : Int) : Option Res :=
  match op with
  | .add => some (.val ⟨.int k, k.wrap (a + b)⟩)
  | .sub => some (.val ⟨.int k, k.wrap (a - b)⟩)
  | .mul => some (.val ⟨.int k, k.wrap (a * b)⟩)
  | .quo => some (.cond (b ≠ 0) ⟨.int k, k.wrap (a.tdiv b)⟩)
  | .rem => some (.cond (b ≠ 0) ⟨.int k, a.tmod b⟩)
  | .and => some (.val ⟨.int k, bitI .and k a b⟩)
  | .or => some (.val ⟨.int k, bitI .or k a b⟩)
  | .xor => some (.val ⟨.int k, bitI .xor k a b⟩)
  | .andNot => some (.val ⟨.int k, bitI .andNot k a b⟩)
  | .eql => some (.val ⟨.bool, decide (a = b)⟩)
  | .neq => some (.val ⟨.bool, notB (decide (a = b))⟩)
  | .lss => some (.val ⟨.bool, decide (a < b)⟩)
  | .leq => some (.val ⟨.bool, decide (a ≤ b)⟩)
  | .gtr => some (.val ⟨.bool, decide (b < a)⟩)
  | .geq => some (.val ⟨.bool, decide (b ≤ a)⟩)
  | .shl => some (.cond (0 ≤ b) ⟨.int k, shlI k a b⟩)
  | .shr => some (.cond (0 ≤ b) ⟨.int k, shrI k a b⟩)

/-- What a result that is no new block stands for. -/
def Res.ok (w : World) (F : Nat → Prop) (ι : Nat → Option Ref) (P : Program) (s : Sem Value) : Res → Prop
  | .val v => ∃ val, s.run P w = .ok val w ∧ vrep w F ι v.t v.x val
  | .cond c v => c → ∃ val, s.run P w = .ok val w ∧ vrep w F ι v.t v.x val
  | .new _ => True
  | .newc _ _ => True

theorem binI_ok {P : Program} {w : World} {F : Nat → Prop} {ι : Nat → Option Ref} {op : BinOp} {ty : TypeId} {x y : Operand} {k : IntKind} {a b : Int} {r : Res}
    (h : binI op k a b = some r) : r.ok w F ι P (do eqGuard op ty x y (.int k a) (.int k b); binOp op ty (.int k a) (.int k b)) := by
  have hg : (eqGuard op ty x y (.int k a) (.int k b)).run P w = .ok () w := by cases op <;> simp [eqGuard]
  have e1 : (a == b) = decide (a = b) := by by_cases h : a = b <;> simp [h]
  have e2 : (a != b) = !decide (a = b) := by by_cases h : a = b <;> simp [h]
  cases op <;> simp only [binI, Option.some.injEq] at h <;> subst h <;>
    simp only [Res.ok] <;> try intro hc
  all_goals refine ⟨_, ?_, by first | exact vrep_int.2 rfl | exact vrep_bool.2 rfl⟩
  all_goals simp only [Sem.run_bind, hg, Result.andThen_ok]
  all_goals simp [binOp, Op.intArith, Op.intDiv, Op.intBits, Op.intCmp, Op.shift, bitI, shlI, shrI, *]
  all_goals (intros; omega)

theorem binS_ok {P : Program} {w : World} {F : Nat → Prop} {ι : Nat → Option Ref} {op : BinOp} {ty : TypeId} {x y : Operand} {k k' : IntKind} {a b : Int} {r : Res}
    (ho : op = .shl ∨ op = .shr) (h : binI op k a b = some r) : r.ok w F ι P (do eqGuard op ty x y (.int k a) (.int k' b); binOp op ty (.int k a) (.int k' b)) := by
  have hg : (eqGuard op ty x y (.int k a) (.int k' b)).run P w = .ok () w := by cases op <;> simp [eqGuard]
  rcases ho with rfl | rfl <;> simp only [binI, Option.some.injEq] at h <;> subst h <;> simp only [Res.ok] <;> intro hc
  all_goals refine ⟨_, ?_, vrep_int.2 rfl⟩
  all_goals simp only [Sem.run_bind, hg, Result.andThen_ok]
  all_goals simp [binOp, Op.shift, shlI, shrI]
  all_goals (intros; omega)

end Go.VM

namespace Go.VM
open Go Go.RowKit

/-- A local block `k` lies at `r`. -/
def brep (w : World) (base : Nat) (F : Nat → Prop) (ι : Nat → Option Ref) (r : Ref) : Blk → Prop
  | .box t x => r.nil = false ∧ r.off = 0 ∧ base ≤ r.blk ∧ ¬ F r.blk ∧ valT t = true ∧ ∃ cells el, w.heap[r.blk]? = some (.cells cells el (0, 0)) ∧ rep w F ι t x cells.toList
  | .arr t l => valT t = true ∧ match l with
    | none => r.nil = true
    | some l => r.nil = false ∧ r.wd = width t ∧ r.len = l.length ∧ r.len ≤ r.cap ∧ base ≤ r.blk ∧ ¬ F r.blk ∧
      ∃ cells el, w.heap[r.blk]? = some (.cells cells el (0, 0)) ∧ r.off + r.cap * r.wd ≤ cells.size ∧
        ∀ i y, l[i]? = some y → rep w F ι t y (seg cells.toList (r.off + i * width t) (width t))

def HeapOk (w : World) (base : Nat) (F : Nat → Prop) (ι : Nat → Option Ref) (hp : Nat → Option Blk) : Prop :=
  ∀ b k, hp b = some k → ∃ r, ι b = some r ∧ brep w base F ι r k

theorem heap_lt {w : World} {b : Nat} {o : Obj} (h : w.heap[b]? = some o) : b < w.heap.size := by
  rcases Nat.lt_or_ge b w.heap.size with h' | h'
  · exact h'
  · simp [Array.getElem?_eq_none h'] at h

theorem HeapOk.holds {w : World} {base : Nat} {F : Nat → Prop} {ι : Nat → Option Ref} {hp : Nat → Option Blk} (h : HeapOk w base F ι hp) (hF : ∀ b, F b → b < w.heap.size) :
    Holds w (fun k => k < w.heap.size) ι hp := by
  intro b t l hb
  obtain ⟨r, hr, q⟩ := h _ _ hb
  refine ⟨r, hr, ?_⟩
  obtain ⟨hv, q⟩ := q
  cases l with
  | none => simp only [rep, Ref.val]; simp only at q; rw [if_pos q]; exact ⟨rfl, fun hn => by rw [q] at hn; simp at hn⟩
  | some l =>
    obtain ⟨q1, q2, q3, q4, q5, q6, cells, el, q7, q8, q9⟩ := q
    refine ⟨?_, fun _ => q2⟩
    simp only [rep, Ref.val, q1, if_false, Bool.false_eq_true, q3]
    exact ⟨r.blk, r.off, r.cap, cells, el, (0, 0), rfl, heap_lt q7, by omega, q7, fun i y hy => rep_mono hF (fun _ _ h => h) (fun _ _ => rfl) _ _ _ (q9 i y hy)⟩

/-- The kind and the size of a type of the program. -/
def tinf (P : Program) (t : TypeId) : Option (Bool × Nat) :=
  match P.underlying t with
  | some d => match P.info? t with
    | some i => some (match d with | .struct _ => true | .array _ _ => true | _ => false, i.size)
    | none => none
  | none => none

theorem tinf_run {P : Program} {t : TypeId} {ag : Bool} {n : Nat} (h : tinf P t = some (ag, n)) (w : World) : (isAgg t).run P w = .ok ag w ∧ (sizeOf t).run P w = .ok n w := by
  unfold tinf at h
  split at h <;> try simp at h
  rename_i d hd
  split at h <;> try simp at h
  rename_i i hi
  obtain ⟨rfl, rfl⟩ := h
  constructor
  · simp only [isAgg, Sem.run_bind, run_underlying hd, Result.andThen_ok]
    cases d <;> rfl
  · simp [sizeOf, run_info hi]

theorem seg_get (cs : List Value) (o n j : Nat) (h : j < n) : (seg cs o n)[j]? = cs[o + j]? := by
  simp [seg, h]

theorem cell_at {w : World} {b : Nat} {cells : Array Value} {el : TypeId} {fz : Nat × Nat} (h : w.heap[b]? = some (.cells cells el fz)) (o : Nat) : w.cell? ⟨b, o, none⟩ = cells.toList[o]? := by
  simp [World.cell?, h]

theorem addr_add (b o n : Nat) : (⟨b, o, none⟩ : Addr).add n = ⟨b, o + n, none⟩ := by
  unfold Addr.add; split
  · subst_vars; simp
  · rfl

theorem run_loadVar {P : Program} {w : World} {t : TypeId} {ag : Bool} {n b o : Nat} {cells : Array Value} {el : TypeId} {fz : Nat × Nat} {F : Nat → Prop} {ι : Nat → Option Ref} {u : V}
    (ht : tinf P t = some (ag, n)) (hb : w.heap[b]? = some (.cells cells el fz)) (hr : rep w F ι u.t u.x (seg cells.toList o n)) (hl : (seg cells.toList o n).length = n)
    (ha : isAggT u.t = ag) (hc : ag = false → cellT u.t = true ∧ n = 1) : ∃ val, (loadVar t ⟨b, o, none⟩).run P w = .ok val w ∧ vrep w F ι u.t u.x val := by
  obtain ⟨h1, h2⟩ := tinf_run ht w
  cases ag with
  | true =>
    have hlen := hl
    refine ⟨.agg (seg cells.toList o n).toArray, ?_, vrep_of_rep ha (by simpa using hr)⟩
    simp only [loadVar, Sem.run_bind, h1, Result.andThen_ok, if_true, h2]
    have := run_loadCells_list (P := P) w ⟨b, o, none⟩ (seg cells.toList o n) (by
      intro j v hj
      have hj' : j < n := by
        rcases Nat.lt_or_ge j n with h | h
        · exact h
        · rw [List.getElem?_eq_none (by omega)] at hj; simp at hj
      rw [addr_add, cell_at hb, ← seg_get _ _ _ _ hj']; exact hj)
    rw [hlen] at this
    rw [this]; rfl
  | false =>
    obtain ⟨hc1, rfl⟩ := hc rfl
    have ho : o < cells.toList.length := by simp only [seg, List.length_take, List.length_drop] at hl; omega
    have hs : seg cells.toList o 1 = [cells.toList[o]] := by
      unfold seg; rw [List.drop_eq_getElem_cons ho]; simp
    rw [hs] at hr
    refine ⟨cells.toList[o], ?_, (vrep_cell hc1).2 hr⟩
    simp only [loadVar, Sem.run_bind, h1, Result.andThen_ok, Bool.false_eq_true, if_false]
    simp [load, Sem.run, cell_at hb, List.getElem?_eq_getElem ho]

/-- What a load reads. -/
def loadV (hp : Nat → Option Blk) (ag : Bool) (n : Nat) : V → Option V
  | ⟨.ref b o, _⟩ => match hp b with
    | some (.box t x) => sub ag t x o n
    | _ => none
  | ⟨.eref b o, i⟩ => match hp b with
    | some (.arr t l) => sub ag t (eltN (dflt t) l i) o n
    | _ => none
  | ⟨.fref t, x⟩ => sub ag t x 0 n
  | _ => none

theorem loadV_ok {P : Program} {w : World} {base : Nat} {F : Nat → Prop} {ι : Nat → Option Ref} {hp : Nat → Option Blk} (hh : HeapOk w base F ι hp) {t : TypeId} {ag : Bool} {n : Nat} {v u : V} {val : Value}
    (ht : tinf P t = some (ag, n)) (hv : vrep w F ι v.t v.x val) (h : loadV hp ag n v = some u) : ∃ r, (Instr.loadAt t val).run P w = .ok r w ∧ vrep w F ι u.t u.x r := by
  unfold loadV at h
  split at h
  · rename_i b o x
    split at h <;> try simp at h
    rename_i ty x hb
    obtain ⟨r, hr, q1, q2, q3, q4, q5, cells, el, q6, q7⟩ := hh _ _ hb
    obtain ⟨s1, s2, s3, s4⟩ := sub_rep _ _ _ _ _ _ q7 h
    rw [vrep_cell rfl] at hv
    simp only [rep] at hv
    obtain ⟨r', hr', e⟩ := hv
    rw [hr] at hr'; cases hr'
    simp only [List.cons.injEq, and_true] at e
    subst e
    rw [q2, Nat.zero_add]
    simp only [Instr.loadAt, Instr.sureAddr, Sem.run_bind, Sem.run_pure, Result.andThen_ok]
    exact run_loadVar ht q6 s1 (by simp only [seg, List.length_take, List.length_drop]; omega) s3 s4
  · rename_i b o i
    change Nat at i
    split at h <;> try simp at h
    rename_i ty l hb
    obtain ⟨r, hr, q0, q⟩ := hh _ _ hb
    rw [vrep_cell rfl] at hv
    simp only [rep] at hv
    obtain ⟨r', hr', e1, e2, e⟩ := hv
    rw [hr] at hr'; cases hr'
    simp only [List.cons.injEq, and_true] at e
    subst e
    cases l with
    | none => simp only at q; rw [q] at e1; simp at e1
    | some l =>
      obtain ⟨q1, q2, q3, q4, q5, q6, cells, el, q7, q8, q9⟩ := q
      have hi : i < l.length := by rw [← q3]; exact e2
      simp only [Option.getD_some] at h
      have hg : l[i]? = some (l.getD i (dflt ty)) := by simp [List.getD, List.getElem?_eq_getElem hi]
      obtain ⟨s1, s2, s3, s4⟩ := sub_rep _ _ _ _ _ _ (q9 i _ hg) h
      have hlen := rep_length _ _ _ (q9 i _ hg)
      rw [hlen] at s2
      have hsz : r.off + (i + 1) * width ty ≤ cells.size := by
        have : (i + 1) * width ty ≤ r.cap * width ty := Nat.mul_le_mul_right _ (by omega)
        rw [q2] at q8; omega
      rw [seg_seg _ _ _ _ _ s2] at s1
      simp only [Instr.loadAt, Instr.sureAddr, Sem.run_bind, Sem.run_pure, Result.andThen_ok, q2]
      refine run_loadVar ht q7 s1 ?_ s3 s4
      rw [Nat.add_mul] at hsz
      simp only [seg, List.length_take, List.length_drop, Array.length_toList]; omega
  · rename_i ty x
    rw [vrep_cell rfl] at hv
    simp only [rep] at hv
    obtain ⟨blk, off, cells, el, fz, e, hf, hb, hr⟩ := hv
    simp only [List.cons.injEq, and_true] at e
    subst e
    obtain ⟨s1, s2, s3, s4⟩ := sub_rep _ _ _ _ _ _ hr h
    have hlen := rep_length _ _ _ hr
    rw [hlen] at s2
    rw [seg_seg _ _ _ _ _ s2] at s1
    simp only [Instr.loadAt, Instr.sureAddr, Sem.run_bind, Sem.run_pure, Result.andThen_ok]
    refine run_loadVar ht hb s1 ?_ s3 s4
    simp only [seg, List.length_take, List.length_drop] at hlen ⊢
    omega
  · simp at h

end Go.VM

namespace Go.VM
open Go Go.RowKit

section
variable {P : Program} {w : World} {base : Nat} {F : Nat → Prop} {ι : Nat → Option Ref} {hp : Nat → Option Blk}

/-- The address of a field. -/
def fieldV (P : Program) (s : TypeId) (f : Nat) (v : V) : Option V :=
  match P.underlying s with
  | some (.struct fs) => match fs[f]? with
    | some fd => match tinf P fd.type with
      | some (_, 0) => none
      | some (ag, n + 1) => match v with
        | ⟨.ref b o, _⟩ => some ⟨.ref b (o + fd.offset), ()⟩
        | ⟨.eref b o, i⟩ => some ⟨.eref b (o + fd.offset), i⟩
        | ⟨.fref t, x⟩ => match sub ag t x fd.offset (n + 1) with
          | some u => some ⟨.fref u.t, u.x⟩
          | none => none
        | _ => none
      | none => none
    | none => none
  | _ => none

theorem fieldV_ok {s : TypeId} {f : Nat} {v u : V} {val : Value} (hv : vrep w F ι v.t v.x val) (h : fieldV P s f v = some u) :
    ∃ r, (Instr.fieldAt s val f).run P w = .ok r w ∧ vrep w F ι u.t u.x r := by
  unfold fieldV at h
  split at h <;> try (simp at h; done)
  rename_i fs hs
  split at h <;> try (simp at h; done)
  rename_i fd hf
  split at h <;> try (simp at h; done)
  rename_i ag n ht
  obtain ⟨h1, h2⟩ := tinf_run ht w
  have run : ∀ b o, (Instr.fieldAt s (.pointer (some ⟨b, o, none⟩)) f).run P w = .ok (.pointer (some ⟨b, o + fd.offset, none⟩)) w := by
    intro b o
    simp [Instr.fieldAt, run_underlying hs, hf, Instr.sureAddr, fieldPlace, h2, addr_add]
  split at h
  · rename_i b o x
    simp only [Option.some.injEq] at h; subst h
    rw [vrep_cell rfl] at hv; simp only [rep] at hv
    obtain ⟨r, hr, e⟩ := hv
    simp only [List.cons.injEq, and_true] at e; subst e
    exact ⟨_, run _ _, (vrep_cell rfl).2 ⟨r, hr, by rw [Nat.add_assoc]⟩⟩
  · rename_i b o i
    simp only [Option.some.injEq] at h; subst h
    change Nat at i
    rw [vrep_cell rfl] at hv; simp only [rep] at hv
    obtain ⟨r, hr, h1, h2, e⟩ := hv
    simp only [List.cons.injEq, and_true] at e; subst e
    exact ⟨_, run _ _, (vrep_cell rfl).2 ⟨r, hr, h1, h2, by rw [Nat.add_assoc]⟩⟩
  · rename_i t x
    split at h <;> try (simp at h; done)
    rename_i u' hu
    simp only [Option.some.injEq] at h; subst h
    rw [vrep_cell rfl] at hv; simp only [rep] at hv
    obtain ⟨blk, off, cells, el, fz, e, hf', hb, hr⟩ := hv
    simp only [List.cons.injEq, and_true] at e; subst e
    obtain ⟨s1, s2, s3, s4⟩ := sub_rep _ _ _ _ _ _ hr hu
    have hl := rep_length _ _ _ hr
    rw [hl] at s2
    rw [seg_seg _ _ _ _ _ s2] at s1
    have hw := rep_length _ _ _ s1
    refine ⟨_, run _ _, (vrep_cell rfl).2 ⟨blk, off + fd.offset, cells, el, fz, rfl, hf', hb, ?_⟩⟩
    rw [show width u'.t = n + 1 by rw [← hw]; simp only [seg, List.length_take, List.length_drop] at hl ⊢; omega]
    exact s1
  · simp at h

/-- A field of a struct value. -/
def partV (P : Program) (s : TypeId) (f : Nat) (v : V) : Option V :=
  match P.underlying s with
  | some (.struct fs) => match fs[f]? with
    | some fd => match tinf P fd.type with
      | some (ag, n) => bif isAggT v.t then sub ag v.t v.x fd.offset n else none
      | none => none
    | none => none
  | _ => none

theorem part_ok {t : TypeId} {ag : Bool} {n o : Nat} {cs : Array Value} {u : V} (ht : tinf P t = some (ag, n)) (hr : rep w F ι u.t u.x (seg cs.toList o n)) (hl : o + n ≤ cs.toList.length)
    (ha : isAggT u.t = ag) (hc : ag = false → cellT u.t = true ∧ n = 1) : ∃ val, (part t cs o).run P w = .ok val w ∧ vrep w F ι u.t u.x val := by
  obtain ⟨h1, h2⟩ := tinf_run ht w
  cases ag with
  | true =>
    refine ⟨.agg (cs.extract o (o + n)), ?_, vrep_of_rep ha ?_⟩
    · simp [part, h1, h2]
    · have : (cs.extract o (o + n)).toList = seg cs.toList o n := by
        simp [seg, List.extract_eq_take_drop]
      rw [this]; exact hr
  | false =>
    obtain ⟨hc1, rfl⟩ := hc rfl
    have ho : o < cs.toList.length := by omega
    have hs : seg cs.toList o 1 = [cs.toList[o]] := by
      unfold seg; rw [List.drop_eq_getElem_cons ho]; simp
    rw [hs] at hr
    refine ⟨cs.toList[o], ?_, (vrep_cell hc1).2 hr⟩
    have : cs[o]? = some cs.toList[o] := by simp
    simp [part, h1, this]

theorem partV_ok {s : TypeId} {f : Nat} {v u : V} {val : Value} (hv : vrep w F ι v.t v.x val) (h : partV P s f v = some u) :
    ∃ r, (Instr.field s val f).run P w = .ok r w ∧ vrep w F ι u.t u.x r := by
  unfold partV at h
  split at h <;> try (simp at h; done)
  rename_i fs hs
  split at h <;> try (simp at h; done)
  rename_i fd hf
  split at h <;> try (simp at h; done)
  rename_i ag n ht
  cases ha : isAggT v.t <;> rw [ha] at h <;> simp only [cond_false, cond_true] at h
  · simp at h
  rw [vrep_agg ha] at hv
  obtain ⟨cs, rfl, hr⟩ := hv
  obtain ⟨s1, s2, s3, s4⟩ := sub_rep _ _ _ _ _ _ hr h
  obtain ⟨r, q1, q2⟩ := part_ok ht s1 s2 s3 s4
  exact ⟨r, by simp [Instr.field, run_underlying hs, hf, asAgg, q1], q2⟩

/-- The address of an element of a slice whose elements have `n` cells. -/
def idxOwn (b : Nat) (t : Ty) (l : Option (List (den t))) (i : Int) : Res := .cond (inS l i) ⟨.eref b 0, toN i⟩
def idxFr (t : Ty) (l : Option (List (den t))) (i : Int) : Res := .cond (inS l i) ⟨.fref t, eltS (dflt t) l i⟩
def indexV (hp : Nat → Option Blk) (n : Nat) : V → V → Option Res
  | ⟨.own b, _⟩, ⟨.int _, i⟩ => match hp b with
    | some (.arr t l) => bif Nat.beq n (width t) then some (idxOwn b t l i) else none
    | _ => none
  | ⟨.sl t, l⟩, ⟨.int _, i⟩ => bif Nat.beq n (width t) then some (idxFr t l i) else none
  | _, _ => none

theorem run_indexAt {t e : TypeId} {ag : Bool} {n b o len cap : Nat} {k : IntKind} {i : Int} (ht : P.underlying t = some (.slice e)) (he : tinf P e = some (ag, n)) (h0 : 0 ≤ i) (h1 : i < len) :
    (Instr.indexAt t (.slice (some ⟨b, o, none⟩) len cap) (.int k i)).run P w = .ok (.pointer (some ⟨b, o + i.toNat * n, none⟩)) w := by
  simp [Instr.indexAt, asIntOf, run_underlying ht, (tinf_run he w).2, h0, h1, addr_add]

theorem idxOwn_ok (hh : HeapOk w base F ι hp) {t e : TypeId} {ag : Bool} {b : Nat} {ty : Ty} {l : Option (List (den ty))} {k : IntKind} {i : Int} {val : Value}
    (ht : P.underlying t = some (.slice e)) (he : tinf P e = some (ag, width ty)) (hv : vrep w F ι (.own b) () val) (hb : hp b = some (.arr ty l)) :
    (idxOwn b ty l i).ok w F ι P (Instr.indexAt t val (.int k i)) := by
  intro ⟨h0, h1⟩
  obtain ⟨r, hr, q0, q⟩ := hh _ _ hb
  rw [vrep_cell rfl] at hv; simp only [rep] at hv
  obtain ⟨r', hr', e'⟩ := hv
  rw [hr] at hr'; cases hr'
  simp only [List.cons.injEq, and_true] at e'; subst e'
  cases l with
  | none => simp at h1; omega
  | some l =>
    obtain ⟨q1, q2, q3, q4, q5, q6, _⟩ := q
    simp only [Option.getD_some] at h1
    refine ⟨_, ?_, (vrep_cell rfl).2 ⟨r, hr, q1, (by omega : i.toNat < r.len), rfl⟩⟩
    simp only [Ref.val, q1, Bool.false_eq_true, if_false, Nat.add_zero, q2]
    exact run_indexAt ht he h0 (by omega)

theorem idxFr_ok {t e : TypeId} {ag : Bool} {ty : Ty} {l : Option (List (den ty))} {k : IntKind} {i : Int} {val : Value}
    (ht : P.underlying t = some (.slice e)) (he : tinf P e = some (ag, width ty)) (hv : vrep w F ι (.sl ty) l val) :
    (idxFr ty l i).ok w F ι P (Instr.indexAt t val (.int k i)) := by
  intro ⟨h0, h1⟩
  rw [vrep_cell rfl] at hv
  cases l with
  | none => simp at h1; omega
  | some l =>
    simp only [rep] at hv
    obtain ⟨blk, off, cap, cells, el, fz, e', hf, hl, hb, hr⟩ := hv
    simp only [List.cons.injEq, and_true] at e'; subst e'
    simp only [Option.getD_some] at h1
    refine ⟨_, run_indexAt ht he h0 h1, (vrep_cell rfl).2 ?_⟩
    have hj : i.toNat < l.length := by omega
    exact ⟨blk, _, cells, el, fz, rfl, hf, hb, hr _ _ (by simp [List.getD, List.getElem?_eq_getElem hj])⟩

theorem indexV_ok (hh : HeapOk w base F ι hp) {t e : TypeId} {ag : Bool} {n : Nat} {v i : V} {val vi : Value} {r : Res} (ht : P.underlying t = some (.slice e)) (he : tinf P e = some (ag, n))
    (hv : vrep w F ι v.t v.x val) (hi : vrep w F ι i.t i.x vi) (h : indexV hp n v i = some r) : r.ok w F ι P (Instr.indexAt t val vi) := by
  unfold indexV at h
  split at h
  · split at h <;> try (simp at h; done)
    rename_i ty l hb
    obtain ⟨hn, h⟩ := bif_some h
    subst h
    rw [Nat.beq_eq] at hn; subst hn
    rw [vrep_int] at hi; subst hi
    exact idxOwn_ok hh ht he hv hb
  · obtain ⟨hn, h⟩ := bif_some h
    subst h
    rw [Nat.beq_eq] at hn; subst hn
    rw [vrep_int] at hi; subst hi
    exact idxFr_ok ht he hv
  · simp at h

/-- A bound of a slice expression. -/
def boundV (d : Int) : Option V → Option Int
  | none => some d
  | some ⟨.int _, i⟩ => some i
  | _ => none

/-- A part of a string or of frozen data. -/
def slcStr (s : ByteArray) (l h : Int) : Res := .cond (inStr s l h) ⟨.str, subStr s l h⟩
def slcFr (t : Ty) (x : Option (List (den t))) (l h : Int) : Res := .cond (inR x l h) ⟨.sl t, slcS x l h⟩
def sliceV (lo hi : Option V) : V → Option Res
  | ⟨.str, s⟩ => match boundV 0 lo, boundV (szStr s) hi with
    | some l, some h => some (slcStr s l h)
    | _, _ => none
  | ⟨.sl t, x⟩ => match boundV 0 lo, boundV (szSl (α := den t) x) hi with
    | some l, some h => some (slcFr t x l h)
    | _, _ => none
  | _ => none

theorem boundV_ok {d i : Int} {v : Option V} {val : Option Value} (hv : ∀ u, v = some u → ∃ x, val = some x ∧ vrep w F ι u.t u.x x) (hn : v = none → val = none) (h : boundV d v = some i) :
    (val = none ∧ i = d) ∨ ∃ k, val = some (.int k i) := by
  unfold boundV at h
  split at h
  · simp at h; exact .inl ⟨hn rfl, h.symm⟩
  · rename_i k j
    simp at h; subst h
    obtain ⟨x, rfl, hx⟩ := hv _ rfl
    exact .inr ⟨k, congrArg some (vrep_int.1 hx)⟩
  · simp at h

theorem run_sliceBound {k : IntKind} {i : Int} {y : Nat} {c : BoundsCode} (h0 : 0 ≤ i) (h1 : i ≤ y) : (Instr.sliceBound (.int k i) y c).run P w = .ok i.toNat w := by
  simp [Instr.sliceBound, asIntOf, h0, h1]

theorem run_sliceBounds {s : Bool} {len cap : Nat} {lo hi : Option Value} {l h : Int} (hc : len ≤ cap) (hlo : (lo = none ∧ l = 0) ∨ ∃ k, lo = some (.int k l)) (hhi : (hi = none ∧ h = len) ∨ ∃ k, hi = some (.int k h))
    (h0 : 0 ≤ l) (h1 : l ≤ h) (h2 : h ≤ len) : (Instr.sliceBounds s len cap lo hi none).run P w = .ok (l.toNat, h.toNat, cap) w := by
  rcases hlo with ⟨rfl, rfl⟩ | ⟨k, rfl⟩ <;> rcases hhi with ⟨rfl, rfl⟩ | ⟨k', rfl⟩ <;>
    simp only [Instr.sliceBounds, Sem.run_bind, Sem.run_pure, Result.andThen_ok, Option.isSome_none, Bool.false_eq_true, if_false]
  · rfl
  · rw [run_sliceBound (by omega) (by omega)]; rfl
  · rw [run_sliceBound h0 (by omega)]; rfl
  · rw [run_sliceBound (by omega) (by omega)]
    simp only [Result.andThen_ok]
    rw [run_sliceBound h0 (by omega)]; rfl

theorem slcStr_ok {t : TypeId} {s : ByteArray} {l h : Int} {lo hi : Option Value} (ht : P.underlying t = some .string)
    (hlo : (lo = none ∧ l = 0) ∨ ∃ k, lo = some (.int k l)) (hhi : (hi = none ∧ h = szStr s) ∨ ∃ k, hi = some (.int k h)) :
    (slcStr s l h).ok w F ι P (Instr.sliceAt t (.string s) lo hi none) := by
  intro ⟨h0, h1, h2⟩
  refine ⟨_, ?_, vrep_str.2 rfl⟩
  simp only [Instr.sliceAt, Instr.slice, Sem.run_bind, run_underlying ht, Result.andThen_ok, Option.isSome_none, Bool.false_eq_true, if_false,
    run_sliceBounds (P := P) (w := w) (s := false) (Nat.le_refl s.size) hlo hhi h0 h1 h2, Sem.run_pure]

theorem slcW_ok {base : Nat} {hp : Nat → Option Blk} (hh : HeapOk w base F ι hp) {t e : TypeId} {ag : Bool} {ty : Ty} {x : Option (List (den ty))} {b : Nat} {l h : Int} {val : Value} {lo hi : Option Value} (ht : P.underlying t = some (.slice e)) (he : tinf P e = some (ag, width ty))
    (hb : hp b = some (.arr ty x)) (hv : vrep w F ι (.own b) () val) (hlo : (lo = none ∧ l = 0) ∨ ∃ k, lo = some (.int k l)) (hhi : (hi = none ∧ h = szSl x) ∨ ∃ k, hi = some (.int k h)) :
    (Res.cond (inW x l h) ⟨.vw b, (l, h)⟩).ok w F ι P (Instr.sliceAt t val lo hi none) := by
  intro ⟨hs, h0, h1, h2⟩
  obtain ⟨r, hr, q0, q⟩ := hh _ _ hb
  rw [vrep_cell rfl] at hv; simp only [rep] at hv
  obtain ⟨r', hr', e⟩ := hv
  rw [hr] at hr'; cases hr'
  simp only [List.cons.injEq, and_true] at e; subst e
  cases x with
  | none => simp at hs
  | some y =>
    obtain ⟨q1, q2, q3, q4, q5, q6, cells, el, q7, q8, q9⟩ := q
    simp only [Option.getD_some] at h2
    have hhi' : (hi = none ∧ h = (r.len : Int)) ∨ ∃ k, hi = some (.int k h) := by rw [q3]; exact hhi
    have hbd := run_sliceBounds (P := P) (w := w) (s := true) q4 hlo hhi' h0 h1 (by rw [q3]; exact h2)
    refine ⟨r.view l h, ?_, (vrep_cell rfl).2 ?_⟩
    · simp only [Ref.val, q1, Bool.false_eq_true, if_false, Instr.sliceAt, Instr.slice, Sem.run_bind, run_underlying ht, Result.andThen_ok, hbd, (tinf_run he w).2, Sem.run_pure, Ref.view, q2]
      split <;> simp [addr_add]
    · simp only [rep]
      exact ⟨r, hr, q1, h0, h1, by rw [q3]; exact h2, rfl⟩

theorem slcFr_ok {t e : TypeId} {ag : Bool} {ty : Ty} {x : Option (List (den ty))} {l h : Int} {val : Value} {lo hi : Option Value} (ht : P.underlying t = some (.slice e)) (he : tinf P e = some (ag, width ty))
    (hv : vrep w F ι (.sl ty) x val) (hlo : (lo = none ∧ l = 0) ∨ ∃ k, lo = some (.int k l)) (hhi : (hi = none ∧ h = szSl x) ∨ ∃ k, hi = some (.int k h)) :
    (slcFr ty x l h).ok w F ι P (Instr.sliceAt t val lo hi none) := by
  intro ⟨h0, h1, h2⟩
  rw [vrep_cell rfl] at hv
  cases x with
  | none =>
    simp only [rep, List.cons.injEq, and_true] at hv
    subst hv
    simp only [Option.getD_none, List.length_nil] at h2
    refine ⟨.slice none 0 0, ?_, (vrep_cell rfl).2 rfl⟩
    have hb := run_sliceBounds (P := P) (w := w) (s := true) (len := 0) (cap := 0) (Nat.le_refl 0) hlo hhi h0 h1 h2
    simp only [Instr.sliceAt, Instr.slice, Sem.run_bind, run_underlying ht, Result.andThen_ok, hb, (tinf_run he w).2, Sem.run_pure]
    have : l = 0 := by omega
    subst this
    have : h = 0 := by omega
    subst this
    rfl
  | some y =>
    simp only [rep] at hv
    obtain ⟨blk, off, cap, cells, el, fz, e', hf, hl, hb', hr⟩ := hv
    simp only [List.cons.injEq, and_true] at e'; subst e'
    simp only [Option.getD_some] at h2
    have hb := run_sliceBounds (P := P) (w := w) (s := true) hl hlo hhi h0 h1 h2
    refine ⟨.slice (some ⟨blk, if cap = l.toNat then off else off + l.toNat * width ty, none⟩) (h.toNat - l.toNat) (cap - l.toNat), ?_, (vrep_cell rfl).2 ?_⟩
    · simp only [Instr.sliceAt, Instr.slice, Sem.run_bind, run_underlying ht, Result.andThen_ok, hb, (tinf_run he w).2, Sem.run_pure]
      split <;> simp [addr_add]
    · simp only [Option.map_some, rep]
      have e3 : ((y.take h.toNat).drop l.toNat).length = h.toNat - l.toNat := by simp; omega
      refine ⟨blk, _, _, cells, el, fz, by rw [e3], hf, by rw [e3]; omega, hb', ?_⟩
      intro i z hz
      have hi : i < h.toNat - l.toNat := by
        rcases Nat.lt_or_ge i (h.toNat - l.toNat) with q | q
        · exact q
        · rw [List.getElem?_eq_none (by omega)] at hz; simp at hz
      rw [if_neg (by omega)]
      have := hr (l.toNat + i) z (by rw [← hz]; simp [List.getElem?_take]; omega)
      rw [Nat.add_mul, ← Nat.add_assoc] at this
      exact this

end

end Go.VM

namespace Go.VM
open Go Go.RowKit

section
variable {P : Program} {w : World} {base : Nat} {F : Nat → Prop} {ι : Nat → Option Ref} {hp : Nat → Option Blk}

/-- The length of a string or a slice. -/
def lenV (P : Program) (hp : Nat → Option Blk) (t : TypeId) (v : V) : Option V :=
  match P.underlying t with
  | some .string => match v with
    | ⟨.str, s⟩ => some ⟨.int .i64, szStr s⟩
    | _ => none
  | some (.slice _) => match v with
    | ⟨.sl _, x⟩ => some ⟨.int .i64, szSl x⟩
    | ⟨.own b, _⟩ => match hp b with
      | some (.arr _ x) => some ⟨.int .i64, szSl x⟩
      | _ => none
    | ⟨.cst .nilSl, _⟩ => some ⟨.int .i64, (0 : Int)⟩
    | _ => none
  | _ => none

theorem lenV_ok (hh : HeapOk w base F ι hp) {t ty : TypeId} {v u : V} {val : Value} (hv : vrep w F ι v.t v.x val) (h : lenV P hp t v = some u) :
    ∃ r, (Builtin.len_ #[t] ty #[val]).run P w = .ok r w ∧ vrep w F ι u.t u.x r := by
  unfold lenV at h
  split at h <;> try (simp at h; done)
  · rename_i ht
    split at h <;> try (simp at h; done)
    simp only [Option.some.injEq] at h; subst h
    rw [vrep_str] at hv; subst hv
    exact ⟨_, by simp [Builtin.len_, run_underlying ht, goInt] <;> rfl, vrep_int.2 rfl⟩
  · rename_i e ht
    split at h <;> try (simp at h; done)
    · rename_i t' x
      simp only [Option.some.injEq] at h; subst h
      rw [vrep_cell rfl] at hv
      cases x with
      | none =>
        simp only [rep, List.cons.injEq, and_true] at hv; subst hv
        exact ⟨_, by simp [Builtin.len_, run_underlying ht, goInt]; rfl, vrep_int.2 rfl⟩
      | some l =>
        simp only [rep] at hv
        obtain ⟨blk, off, cap, cells, el, fz, e', _⟩ := hv
        simp only [List.cons.injEq, and_true] at e'; subst e'
        exact ⟨_, by simp [Builtin.len_, run_underlying ht, goInt]; rfl, vrep_int.2 rfl⟩
    · rename_i b _
      split at h <;> try (simp at h; done)
      rename_i t' x hb
      simp only [Option.some.injEq] at h; subst h
      obtain ⟨r, hr, q0, q⟩ := hh _ _ hb
      rw [vrep_cell rfl] at hv; simp only [rep] at hv
      obtain ⟨r', hr', e'⟩ := hv
      rw [hr] at hr'; cases hr'
      simp only [List.cons.injEq, and_true] at e'; subst e'
      cases x with
      | none =>
        simp only at q
        exact ⟨_, by simp [Builtin.len_, run_underlying ht, goInt, Ref.val, q]; rfl, vrep_int.2 rfl⟩
      | some l =>
        obtain ⟨q1, q2, q3, _⟩ := q
        exact ⟨_, by simp [Builtin.len_, run_underlying ht, goInt, Ref.val, q1, q3]; rfl, vrep_int.2 rfl⟩
    · simp only [Option.some.injEq] at h; subst h
      rw [vrep_cst] at hv; subst hv
      exact ⟨_, by simp [Builtin.len_, run_underlying ht, goInt, Cst.val] <;> rfl, vrep_int.2 rfl⟩

/-- The components of a tuple. -/
def compV : (t : Ty) → den t → Nat → Option V
  | .pair a _, x, 0 => some ⟨a, x.1⟩
  | .pair _ b, x, n + 1 => compV b x.2 n
  | _, _, _ => none
def extractV (v : V) (n : Nat) : Option V :=
  match v with
  | ⟨.tup c, x⟩ => compV c x n
  | _ => none

theorem vrep1_vrep {t : Ty} {x : den t} {v : Value} (h : vrep1 w F ι t x v) : vrep w F ι t x v := by
  cases t <;> simp only [vrep] <;> first | exact h | (simp [vrep1, isAggT, cellT] at h)

theorem compV_ok : ∀ (t : Ty) (x : den t) (n : Nat) (vs : List Value) (u : V), trep w F ι t x vs → compV t x n = some u → ∃ r, vs[n]? = some r ∧ vrep w F ι u.t u.x r
  | .pair a b, x, 0, vs, u, h, hc => by
    simp only [trep] at h
    obtain ⟨v, vs', rfl, h1, h2⟩ := h
    simp only [compV, Option.some.injEq] at hc; subst hc
    exact ⟨v, rfl, vrep1_vrep h1⟩
  | .pair a b, x, n + 1, vs, u, h, hc => by
    simp only [trep] at h
    obtain ⟨v, vs', rfl, h1, h2⟩ := h
    obtain ⟨r, q1, q2⟩ := compV_ok b x.2 n vs' u h2 hc
    exact ⟨r, by simpa using q1, q2⟩
  | .unit, _, _, _, _, _, hc | .int _, _, _, _, _, _, hc | .bool, _, _, _, _, _, hc | .str, _, _, _, _, _, hc | .cst _, _, _, _, _, _, hc | .sl _, _, _, _, _, _, hc | .agg _, _, _, _, _, _, hc
  | .arr _ _, _, _, _, _, _, hc | .tup _, _, _, _, _, _, hc | .ref _ _, _, _, _, _, _, hc | .own _, _, _, _, _, _, hc | .eref _ _, _, _, _, _, _, hc | .fref _, _, _, _, _, _, hc => by simp [compV] at hc

theorem extractV_ok {v u : V} {n : Nat} {val : Value} (hv : vrep w F ι v.t v.x val) (h : extractV v n = some u) : ∃ r, (Instr.extract val n).run P w = .ok r w ∧ vrep w F ι u.t u.x r := by
  unfold extractV at h
  split at h
  · simp only [vrep] at hv
    obtain ⟨vs, rfl, hv⟩ := hv
    obtain ⟨r, q1, q2⟩ := compV_ok _ _ _ _ _ hv h
    rw [Array.getElem?_toList] at q1
    exact ⟨r, by simp [Instr.extract, q1], q2⟩
  · simp at h

def onesI (k : IntKind) : Int :=
  match k.signed with
  | true => -1
  | false => k.max

def unV (op : UnOp) (v : V) : Option V :=
  match op, v with
  | .neg, ⟨.int k, n⟩ => some ⟨.int k, k.wrap (0 - n)⟩
  | .not, ⟨.bool, b⟩ => some ⟨.bool, notB b⟩
  | .xor, ⟨.int k, n⟩ => some ⟨.int k, bitI .xor k (onesI k) n⟩
  | _, _ => none

theorem unV_ok {op : UnOp} {v u : V} {val : Value} (hv : vrep w F ι v.t v.x val) (h : unV op v = some u) : ∃ r, (Op.unary op val).run P w = .ok r w ∧ vrep w F ι u.t u.x r := by
  unfold unV at h
  split at h
  · simp only [Option.some.injEq] at h; subst h
    rw [vrep_int] at hv; subst hv
    exact ⟨_, by simp [Op.unary, Op.intArith] <;> rfl, vrep_int.2 rfl⟩
  · simp only [Option.some.injEq] at h; subst h
    rw [vrep_bool] at hv; subst hv
    exact ⟨_, by simp [Op.unary] <;> rfl, vrep_bool.2 rfl⟩
  · simp only [Option.some.injEq] at h; subst h
    rw [vrep_int] at hv; subst hv
    rename_i k n
    refine ⟨.int k (bitI .xor k (onesI k) n), ?_, vrep_int.2 rfl⟩
    cases k <;> simp [Op.unary, Op.intBits, bitI, onesI, IntKind.signed]
  · simp at h

def convV (P : Program) (s d : TypeId) (v : V) : Option V :=
  match P.underlying s with
  | some _ => match P.underlying d with
    | some (.int k') => match v with
      | ⟨.int _, n⟩ => some ⟨.int k', k'.wrap n⟩
      | _ => none
    | some .string => match v with
      | ⟨.str, x⟩ => some ⟨.str, x⟩
      | _ => none
    | _ => none
  | none => none

theorem convV_ok {s d : TypeId} {v u : V} {val : Value} (hv : vrep w F ι v.t v.x val) (h : convV P s d v = some u) : ∃ r, (convert s d val).run P w = .ok r w ∧ vrep w F ι u.t u.x r := by
  unfold convV at h
  split at h <;> try (simp at h; done)
  rename_i ds hs
  split at h <;> try (simp at h; done)
  · rename_i k' hd
    split at h <;> try (simp at h; done)
    simp only [Option.some.injEq] at h; subst h
    rw [vrep_int] at hv; subst hv
    exact ⟨_, by simp [convert, run_underlying hs, run_underlying hd, Conv.intToInt] <;> rfl, vrep_int.2 rfl⟩
  · rename_i hd
    split at h <;> try (simp at h; done)
    simp only [Option.some.injEq] at h; subst h
    rw [vrep_str] at hv; subst hv
    exact ⟨_, by simp [convert, run_underlying hs, run_underlying hd] <;> rfl, vrep_str.2 rfl⟩

def byteAt (s : ByteArray) (i : Int) : Int := (s.data.toList.getD i.toNat 0).toNat
def idxStr (s : ByteArray) (i : Int) : Res := .cond (0 ≤ i ∧ i < szStr s) ⟨.int .u8, byteAt s i⟩
/-- An element of an array that is a value. -/
def arrV (P : Program) (m : Nat) (e : TypeId) (v i : V) : Option Res :=
  match v, i with
  | ⟨.arr n ty, l⟩, ⟨.int _, i⟩ => match tinf P e with
    | some (ag, k) => bif Nat.beq m n && Nat.beq k (width ty) && eqB ag (isAggT ty) && (ag || (cellT ty && Nat.beq k 1)) then
      some (.cond (0 ≤ i ∧ i < (n : Int)) ⟨ty, eltS (dflt ty) (some l) i⟩) else none
    | none => none
  | _, _ => none
def charV (P : Program) (t : TypeId) (v i : V) : Option Res :=
  match P.underlying t with
  | some .string => match v, i with
    | ⟨.str, s⟩, ⟨.int _, i⟩ => some (idxStr s i)
    | _, _ => none
  | some (.array m e) => arrV P m e v i
  | _ => none

theorem run_part {t : TypeId} {ag : Bool} {n o : Nat} {cs : Array Value} {u : V} (ht : tinf P t = some (ag, n)) (hr : rep w F ι u.t u.x (seg cs.toList o n)) (hl : (seg cs.toList o n).length = n)
    (ha : isAggT u.t = ag) (hc : ag = false → cellT u.t = true ∧ n = 1) : ∃ val, (part t cs o).run P w = .ok val w ∧ vrep w F ι u.t u.x val := by
  obtain ⟨h1, h2⟩ := tinf_run ht w
  cases ag with
  | true =>
    refine ⟨.agg (cs.extract o (o + n)), by simp only [part, Sem.run_bind, h1, Result.andThen_ok, if_true, h2, Sem.run_pure], vrep_of_rep ha ?_⟩
    have e : (cs.extract o (o + n)).toList = seg cs.toList o n := by simp [seg, List.extract]
    rw [e]; exact hr
  | false =>
    obtain ⟨hc1, rfl⟩ := hc rfl
    have ho : o < cs.toList.length := by simp only [seg, List.length_take, List.length_drop] at hl; omega
    have hs : seg cs.toList o 1 = [cs.toList[o]] := by
      unfold seg; rw [List.drop_eq_getElem_cons ho]; simp
    rw [hs] at hr
    have e : cs[o]? = some cs.toList[o] := by simp
    refine ⟨cs.toList[o], ?_, (vrep_cell hc1).2 hr⟩
    simp only [part, Sem.run_bind, h1, Result.andThen_ok, Bool.false_eq_true, if_false, e, Sem.run_pure]

theorem idxArr_ok {t e : TypeId} {m : Nat} {ag : Bool} {ty : Ty} {l : List (den ty)} {i : Int} {k : IntKind} {cs : Array Value} (ht : P.underlying t = some (.array m e)) (hti : tinf P e = some (ag, width ty)) (hag : isAggT ty = ag)
    (hcell : ag = false → cellT ty = true ∧ width ty = 1) (q1 : l.length = m) (q2 : cs.toList.length = m * width ty) (q3 : ∀ i y, l[i]? = some y → rep w F ι ty y (seg cs.toList (i * width ty) (width ty))) :
    Res.ok w F ι P (Instr.index t (.agg cs) (.int k i)) (.cond (0 ≤ i ∧ i < (m : Int)) ⟨ty, eltS (dflt ty) (some l) i⟩) := by
  rintro ⟨h0, h1⟩
  have hlt : i.toNat < l.length := by omega
  have hle : i.toNat * width ty + width ty ≤ m * width ty := by rw [← Nat.succ_mul]; exact Nat.mul_le_mul_right _ (by omega)
  have hy := q3 i.toNat _ (List.getElem?_eq_getElem hlt)
  have ey : eltS (dflt ty) (some l) i = l[i.toNat] := by simp [eltS, List.getD, hlt]
  obtain ⟨z, z1, z2⟩ := run_part (P := P) (w := w) (F := F) (ι := ι) (cs := cs) (o := i.toNat * width ty) (u := ⟨ty, l[i.toNat]⟩) hti hy (by simp only [seg, List.length_take, List.length_drop]; omega) hag hcell
  refine ⟨z, ?_, by rw [ey]; exact z2⟩
  simp only [Instr.index, asIntOf, Sem.run_bind, Sem.run_pure, Result.andThen_ok, run_underlying ht, if_pos (And.intro h0 h1), (tinf_run hti w).2]
  exact z1

theorem arrV_ok {t e : TypeId} {m : Nat} {v i : V} {val vi : Value} {r : Res} (ht : P.underlying t = some (.array m e)) (hv : vrep w F ι v.t v.x val) (hi : vrep w F ι i.t i.x vi) (h : arrV P m e v i = some r) : r.ok w F ι P (Instr.index t val vi) := by
  unfold arrV at h
  split at h <;> try (simp at h; done)
  rename_i n ty l k i
  split at h <;> try (simp at h; done)
  rename_i ag sz hti
  cases hc : (Nat.beq m n && Nat.beq sz (width ty) && eqB ag (isAggT ty) && (ag || (cellT ty && Nat.beq sz 1))) <;> rw [hc] at h <;> simp only [cond_true, cond_false, reduceCtorEq, Option.some.injEq] at h
  subst h
  simp only [Bool.and_eq_true, Nat.beq_eq] at hc
  obtain ⟨⟨⟨rfl, rfl⟩, hag⟩, hcell⟩ := hc
  have hag : isAggT ty = ag := by revert hag; cases ag <;> cases isAggT ty <;> simp [eqB]
  rw [vrep_int] at hi; subst hi
  obtain ⟨cs, rfl, hr⟩ := (vrep_agg rfl).1 hv
  simp only [rep] at hr
  obtain ⟨q1, q2, q3⟩ := hr
  exact idxArr_ok ht hti hag (by intro e; rw [e] at hcell; simpa using hcell) q1 q2 q3

theorem idxStr_ok {t : TypeId} {s : ByteArray} {k : IntKind} {i : Int} (ht : P.underlying t = some .string) : (idxStr s i).ok w F ι P (Instr.index t (.string s) (.int k i)) := by
  intro ⟨h0, h1⟩
  refine ⟨_, ?_, vrep_int.2 rfl⟩
  simp only [szStr] at h1
  have hi : i.toNat < s.size := by omega
  have e1 : s[i.toNat]? = some s[i.toNat] := by simp [hi]
  have e2 : (s[i.toNat]).toNat = byteAt s i := by
    have : i.toNat < s.data.toList.length := by simpa using hi
    simp [byteAt, List.getD, List.getElem?_eq_getElem this]; rfl
  simp only [Instr.index, asIntOf, Sem.run_bind, Sem.run_pure, Result.andThen_ok, run_underlying ht, if_pos h0, e1, e2]

theorem charV_ok {t : TypeId} {v i : V} {val vi : Value} {r : Res} (hv : vrep w F ι v.t v.x val) (hi : vrep w F ι i.t i.x vi) (h : charV P t v i = some r) : r.ok w F ι P (Instr.index t val vi) := by
  unfold charV at h
  split at h <;> try (simp at h; done)
  · rename_i ht
    split at h <;> try (simp at h; done)
    simp only [Option.some.injEq] at h; subst h
    rw [vrep_str] at hv; subst hv
    rw [vrep_int] at hi; subst hi
    exact idxStr_ok ht
  · rename_i ht
    exact arrV_ok ht hv hi h

/-- Is a slice nil? -/
def nilV (hp : Nat → Option Blk) : V → Option Bool
  | ⟨.sl _, x⟩ => some (Option.isNone x)
  | ⟨.own b, _⟩ => match hp b with
    | some (.arr _ x) => some x.isNone
    | _ => none
  | ⟨.cst .nilSl, _⟩ => some true
  | _ => none

theorem nilV_ok (hh : HeapOk w base F ι hp) {v : V} {b : Bool} {val : Value} (hv : vrep w F ι v.t v.x val) (h : nilV hp v = some b) : ∃ a l c, val = .slice a l c ∧ a.isNone = b := by
  unfold nilV at h
  split at h
  · rename_i t x
    simp only [Option.some.injEq] at h; subst h
    rw [vrep_cell rfl] at hv
    cases x with
    | none => simp only [rep, List.cons.injEq, and_true] at hv; subst hv; exact ⟨_, _, _, rfl, rfl⟩
    | some l =>
      simp only [rep] at hv
      obtain ⟨blk, off, cap, cells, el, fz, e', _⟩ := hv
      simp only [List.cons.injEq, and_true] at e'; subst e'
      exact ⟨_, _, _, rfl, rfl⟩
  · split at h <;> try (simp at h; done)
    rename_i t' x hb
    simp only [Option.some.injEq] at h; subst h
    obtain ⟨r, hr, q0, q⟩ := hh _ _ hb
    rw [vrep_cell rfl] at hv; simp only [rep] at hv
    obtain ⟨r', hr', e'⟩ := hv
    rw [hr] at hr'; cases hr'
    simp only [List.cons.injEq, and_true] at e'; subst e'
    cases x with
    | none => simp only at q; exact ⟨none, 0, 0, by simp [Ref.val, q], rfl⟩
    | some l => exact ⟨_, _, _, by simp [Ref.val, q.1]; exact ⟨rfl, rfl, rfl⟩, rfl⟩
  · simp only [Option.some.injEq] at h; subst h
    rw [vrep_cst] at hv; subst hv
    exact ⟨none, 0, 0, rfl, rfl⟩
  · simp at h

def eqStr (a b : ByteArray) : Bool := a.toList == b.toList

/-- Equality of scalars and of structs of them. -/
def eqV (P : Program) : Nat → TypeId → V → V → Option Bool
  | 0, _, _, _ => none
  | n + 1, t, v1, v2 => match P.underlying t with
    | some (.int _) => match v1, v2 with
      | ⟨.int k, a⟩, ⟨.int k', b⟩ => bif sameK k k' then some (decide ((a : Int) = b)) else none
      | _, _ => none
    | some .bool => match v1, v2 with
      | ⟨.bool, a⟩, ⟨.bool, b⟩ => some (eqB a b)
      | _, _ => none
    | some .string => match v1, v2 with
      | ⟨.str, a⟩, ⟨.str, b⟩ => some (eqStr a b)
      | _, _ => none
    | some (.struct fs) => bif isAggT v1.t && isAggT v2.t && !P.stoodInHeld t then eqL (eqV P n) fs.toList v1 v2 else none
    | _ => none
where
  eqL (f : TypeId → V → V → Option Bool) : List Field → V → V → Option Bool
    | [], _, _ => some true
    | fd :: fs, v1, v2 => match tinf P fd.type with
      | some (ag, k) => match sub ag v1.t v1.x fd.offset k, sub ag v2.t v2.x fd.offset k with
        | some u1, some u2 => match f fd.type u1 u2 with
          | some b => bif fd.name != "_" then match eqL f fs v1 v2 with
            | some c => some (andB b c)
            | none => none else none
          | none => none
        | _, _ => none
      | none => none

theorem eqV_ok : ∀ (n d : Nat) (t : TypeId) (v1 v2 : V) (x1 x2 : Value) (b : Bool), n ≤ d → vrep w F ι v1.t v1.x x1 → vrep w F ι v2.t v2.x x2 → eqV P n t v1 v2 = some b →
    (Op.equalIn d t x1 x2).run P w = .ok b w := by
  intro n
  induction n with
  | zero => intro d t v1 v2 x1 x2 b _ _ _ h; simp [eqV] at h
  | succ n ih =>
    intro d t v1 v2 x1 x2 b hd h1 h2 h
    obtain ⟨d, rfl⟩ : ∃ m, d = m + 1 := ⟨d - 1, by omega⟩
    unfold eqV at h
    split at h <;> try (simp at h; done)
    · rename_i ht
      split at h <;> try (simp at h; done)
      obtain ⟨hk, rfl⟩ := bif_some h
      have hk := sameK_eq hk; subst hk
      rw [vrep_int] at h1 h2; subst h1; subst h2
      rw [run_equalIn_int w d t _ _ _ _ ht]
      congr 1
    · rename_i ht
      split at h <;> try (simp at h; done)
      simp only [Option.some.injEq] at h; subst h
      rw [vrep_bool] at h1 h2; subst h1; subst h2
      rw [run_equalIn_bool' w d t _ _ ht]
      congr 1
      rename_i a b; revert a b; intro (a : Bool) (b : Bool); cases a <;> cases b <;> rfl
    · rename_i ht
      split at h <;> try (simp at h; done)
      simp only [Option.some.injEq] at h; subst h
      rw [vrep_str] at h1 h2; subst h1; subst h2
      rw [run_equalIn_string w d t _ _ ht]; rfl
    · rename_i fs ht
      cases hc : (isAggT v1.t && isAggT v2.t && !P.stoodInHeld t) <;> rw [hc] at h <;> simp only [cond_true, cond_false] at h
      · simp at h
      simp only [Bool.and_eq_true, Bool.not_eq_true'] at hc
      obtain ⟨⟨a1, a2⟩, hs⟩ := hc
      rw [vrep_agg a1] at h1; rw [vrep_agg a2] at h2
      obtain ⟨c1, rfl, r1⟩ := h1
      obtain ⟨c2, rfl, r2⟩ := h2
      have hfs : P.fieldsOf t = fs := by simp [Program.fieldsOf, ht]
      rw [run_equalIn_struct w d t _ _ (by rw [hfs]; exact ht) hs, hfs]
      have key : ∀ (l : List Field) (b : Bool), eqV.eqL P (eqV P n) l v1 v2 = some b → (Op.eqFields d c1 c2 l).run P w = .ok b w := by
        intro l
        induction l with
        | nil => intro b h; simp only [eqV.eqL, Option.some.injEq] at h; subst h; simp [Op.eqFields]
        | cons fd l ihl =>
          intro b h
          simp only [eqV.eqL] at h
          split at h <;> try (simp at h; done)
          rename_i ag k ht
          split at h <;> try (simp at h; done)
          rename_i u1 u2 hu1 hu2
          split at h <;> try (simp at h; done)
          rename_i e he
          cases hn : (fd.name != "_") <;> rw [hn] at h <;> simp only [cond_true, cond_false] at h
          · simp at h
          split at h <;> try (simp at h; done)
          rename_i c hc
          simp only [Option.some.injEq] at h; subst h
          obtain ⟨s1, s2, s3, s4⟩ := sub_rep _ _ _ _ _ _ r1 hu1
          obtain ⟨t1, t2, t3, t4⟩ := sub_rep _ _ _ _ _ _ r2 hu2
          obtain ⟨y1, p1, p2⟩ := part_ok (P := P) ht s1 s2 s3 s4
          obtain ⟨y2, p3, p4⟩ := part_ok (P := P) ht t1 t2 t3 t4
          have := ih d fd.type u1 u2 y1 y2 e (by omega) p2 p4 he
          have hn' : fd.name ≠ "_" := by simpa using hn
          simp only [Op.eqFields, if_pos hn', Sem.run_bind, p1, p3, this, Result.andThen_ok]
          cases e
          · simp
          · simp [ihl c hc]
      exact key _ _ h

end
end Go.VM

namespace Go.VM
open Go Go.RowKit

structure Sim (base : Nat) (w0 : World) (F0 F : Nat → Prop) (ι : Nat → Option Ref) (st : St) (a : Act) (w : World) : Prop where
  env : ∀ s v, st.env s = some v → vrep w F ι v.t v.x (a.tmps.getD s undef)
  heap : HeapOk w base F ι st.heap
  used : ∀ b r, ι b = some r → st.used b = true
  apart : ∀ b c k k' r r', b ≠ c → st.heap b = some k → st.heap c = some k' → ι b = some r → ι c = some r' → r.nil = false → r'.nil = false → r.blk ≠ r'.blk
  fsize : ∀ b, F b → b < w.heap.size
  fin : ∀ b, F b → F0 b ∨ base ≤ b
  below : Below base w0 w
  size : base ≤ w.heap.size
  defers : a.defers = []

section
variable {P : Program} {base : Nat} {w0 w : World} {F0 F : Nat → Prop} {ι : Nat → Option Ref} {st : St} {a : Act}

theorem constV_ok {v : Value} {u : V} (h : constV v = some u) : vrep w F ι u.t u.x v := by
  unfold constV at h
  split at h <;> simp only [Option.some.injEq, reduceCtorEq] at h <;> subst h
  · exact vrep_int.2 rfl
  · exact vrep_bool.2 rfl
  · exact vrep_str.2 rfl
  all_goals exact vrep_cst.2 rfl

theorem Sim.val (h : Sim base w0 F0 F ι st a w) {x : Operand} {v : V} (hx : st.val x = some v) : vrep w F ι v.t v.x (a.eval x) := by
  cases x with
  | tmp t => exact h.env t v hx
  | const c => exact constV_ok hx
  | func f => simp only [St.val, Option.some.injEq] at hx; subst hx; exact vrep_cst.2 rfl
  | global g => simp [St.val] at hx

def St.put (st : St) (d : Nat) (v : Option V) : St := { st with env := upd st.env d v }

theorem upd_same {α : Type} (f : Nat → α) (n : Nat) (v : α) : upd f n v n = v := by simp [upd]
theorem upd_other {α : Type} (f : Nat → α) (n m : Nat) (v : α) (h : m ≠ n) : upd f n v m = f m := by
  have : Nat.beq m n = false := by cases e : Nat.beq m n; rfl; rw [Nat.beq_eq] at e; exact absurd e h
  simp [upd, this]
theorem upd_some {α : Type} {f : Nat → Option α} {n m : Nat} {v : Option α} {x : α} (h : upd f n v m = some x) : (m = n ∧ v = some x) ∨ (m ≠ n ∧ f m = some x) := by
  by_cases e : m = n
  · subst e; rw [upd_same] at h; exact .inl ⟨rfl, h⟩
  · rw [upd_other _ _ _ _ e] at h; exact .inr ⟨e, h⟩

theorem getD_set (l : Array Value) (d s : Nat) (v u : Value) (hd : d < l.size) : (l.setIfInBounds d v).getD s u = if s = d then v else l.getD s u := by
  simp only [Array.getD_eq_getD_getElem?, Array.getElem?_setIfInBounds]
  by_cases h : d = s
  · subst h; simp [hd]
  · rw [if_neg h, if_neg (fun e => h e.symm)]

theorem Sim.put (h : Sim base w0 F0 F ι st a w) {d : Nat} {v : V} {val : Value} (hd : d < a.tmps.size) (hv : vrep w F ι v.t v.x val) :
    Sim base w0 F0 F ι (st.put d (some v)) (a.put (some d) val) w := by
  refine { h with env := ?_, defers := h.defers }
  intro s u hu
  show vrep w F ι u.t u.x ((a.tmps.setIfInBounds d val).getD s undef)
  rw [getD_set _ _ _ _ _ hd]
  rcases upd_some hu with ⟨rfl, e⟩ | ⟨hs, e⟩
  · cases e; rw [if_pos rfl]; exact hv
  · rw [if_neg hs]; exact h.env _ _ e

/-- Nothing is known of the slot any more. -/
theorem Sim.drop (h : Sim base w0 F0 F ι st a w) {d : Nat} {val : Value} (hd : d < a.tmps.size) :
    Sim base w0 F0 F ι (st.put d none) (a.put (some d) val) w := by
  refine { h with env := ?_, defers := h.defers }
  intro s u hu
  show vrep w F ι u.t u.x ((a.tmps.setIfInBounds d val).getD s undef)
  rw [getD_set _ _ _ _ _ hd]
  rcases upd_some hu with ⟨rfl, e⟩ | ⟨hs, e⟩
  · cases e
  · rw [if_neg hs]; exact h.env _ _ e

theorem brep_mono {w' : World} {ι' : Nat → Option Ref} {r : Ref} {k : Blk} (hι : ∀ b r, ι b = some r → ι' b = some r) (hF : ∀ b, F b → w'.heap[b]? = w.heap[b]?)
    (hb : r.nil = false → w'.heap[r.blk]? = w.heap[r.blk]?) (h : brep w base F ι r k) : brep w' base F ι' r k := by
  cases k with
  | box t x =>
    obtain ⟨q1, q2, q3, q4, q5, cells, el, q6, q7⟩ := h
    exact ⟨q1, q2, q3, q4, q5, cells, el, (hb q1).trans q6, rep_mono (fun _ h => h) hι hF _ _ _ q7⟩
  | arr t l =>
    obtain ⟨q0, q⟩ := h
    refine ⟨q0, ?_⟩
    cases l with
    | none => exact q
    | some l =>
      obtain ⟨q1, q2, q3, q4, q5, q6, cells, el, q7, q8, q9⟩ := q
      exact ⟨q1, q2, q3, q4, q5, q6, cells, el, (hb q1).trans q7, q8, fun i y hy => rep_mono (fun _ h => h) hι hF _ _ _ (q9 i y hy)⟩

theorem brep_lt {r : Ref} {k : Blk} (h : brep w base F ι r k) (hn : r.nil = false) : r.blk < w.heap.size := by
  cases k with
  | box t x => obtain ⟨_, _, _, _, _, _, _, q, _⟩ := h; exact heap_lt q
  | arr t l =>
    obtain ⟨_, q⟩ := h
    cases l with
    | none => simp only at q; rw [q] at hn; simp at hn
    | some l => obtain ⟨_, _, _, _, _, _, _, _, q, _⟩ := q; exact heap_lt q

theorem Sim.change (h : Sim base w0 F0 F ι st a w) {w' : World} {g : Option Nat} {ι' : Nat → Option Ref} {heap' : Nat → Option Blk} {used' : Nat → Bool} {b0 : Nat} {k0 : Blk} {r0 : Ref}
    (hblk : ∀ k, k < w.heap.size → some k ≠ g → w'.heap[k]? = w.heap[k]?) (hos : w'.os = w.os) (htape : w'.tape = w.tape) (hout : w'.output = w.output) (hsz : w.heap.size ≤ w'.heap.size)
    (hg : ∀ k, g = some k → base ≤ k ∧ ¬ F k) (hι : ∀ b r, ι b = some r → ι' b = some r) (hused : ∀ b r, ι' b = some r → used' b = true)
    (hr0 : ι' b0 = some r0) (hk0 : brep w' base F ι' r0 k0) (h0 : heap' b0 = some k0)
    (hheap : ∀ b k, b ≠ b0 → heap' b = some k → st.heap b = some k ∧ ∀ r, ι b = some r → r.nil = false → some r.blk ≠ g ∧ (r0.nil = false → r.blk ≠ r0.blk)) :
    Sim base w0 F0 F ι' { st with heap := heap', used := used' } a w' := by
  have hF : ∀ b, F b → w'.heap[b]? = w.heap[b]? := fun b hb => hblk b (h.fsize b hb) (fun e => (hg b e.symm).2 hb)
  refine ⟨fun s v hv => vrep_mono (fun _ h => h) hι hF (h.env s v hv), ?_, hused, ?_, fun b hb => Nat.lt_of_lt_of_le (h.fsize b hb) hsz, h.fin, ?_, Nat.le_trans h.size hsz, h.defers⟩
  · show HeapOk w' base F ι' heap'
    intro b k hb
    by_cases e : b = b0
    · subst e; rw [h0] at hb; cases hb; exact ⟨r0, hr0, hk0⟩
    · obtain ⟨q1, q2⟩ := hheap b k e hb
      obtain ⟨r, hr, hk⟩ := h.heap b k q1
      exact ⟨r, hι _ _ hr, brep_mono hι hF (fun hn => hblk _ (brep_lt hk hn) (q2 r hr hn).1) hk⟩
  · have aux : ∀ b k r, b ≠ b0 → heap' b = some k → ι' b = some r → r.nil = false → r0.nil = false → r.blk ≠ r0.blk := by
      intro b k r e hb hr hn hn0
      obtain ⟨q1, q2⟩ := hheap b k e hb
      obtain ⟨r', hr', _⟩ := h.heap b k q1
      have := hι _ _ hr'
      rw [hr] at this; cases this
      exact (q2 r hr' hn).2 hn0
    intro b c k k' r r' hbc hb hc hr hr' hn hn'
    by_cases eb : b = b0
    · subst eb
      rw [hr0] at hr; cases hr
      exact fun e => aux c k' r' (Ne.symm hbc) hc hr' hn' hn e.symm
    · by_cases ec : c = b0
      · subst ec
        rw [hr0] at hr'; cases hr'
        exact aux b k r eb hb hr hn hn'
      · obtain ⟨q1, _⟩ := hheap b k eb hb
        obtain ⟨q2, _⟩ := hheap c k' ec hc
        obtain ⟨s, hs, _⟩ := h.heap b k q1
        obtain ⟨s', hs', _⟩ := h.heap c k' q2
        have e1 := hι _ _ hs; rw [hr] at e1; cases e1
        have e2 := hι _ _ hs'; rw [hr'] at e2; cases e2
        exact h.apart b c k k' r r' hbc q1 q2 hs hs' hn hn'
  · refine h.below.trans ⟨hos, htape, hout, hsz, fun k hk => hblk k (Nat.lt_of_lt_of_le hk h.size) (fun e => ?_)⟩
    have := (hg k e.symm).1; omega

theorem alloc_blk (w : World) (o : Obj) (k : Nat) (h : k < w.heap.size) : (w.alloc o).heap[k]? = w.heap[k]? := heap_alloc_old w o k h

def St.new (st : St) (d : Nat) (k : Blk) : St := { st with heap := upd st.heap d (some k), used := upd st.used d true }
def St.kill (st : St) (b : Nat) : St := { st with heap := upd st.heap b none }

/-- A new block of cells, which may be behind a draw. -/
theorem Sim.alloc (h : Sim base w0 F0 F ι st a w) {d : Nat} {r : Ref} {k : Blk} {w' : World} {o : Obj} (hw' : w' = w.alloc o ∨ w' = w.drew.alloc o) (hd : st.used d = false) (hr : r.nil = false → r.blk = w.heap.size)
    (hk : brep w' base F (upd ι d (some r)) r k) : Sim base w0 F0 F (upd ι d (some r)) (st.new d k) a w' := by
  have hnone : ι d = none := by
    cases e : ι d with
    | none => rfl
    | some r => have := h.used d r e; rw [hd] at this; simp at this
  have hι : ∀ b r', ι b = some r' → upd ι d (some r) b = some r' := by
    intro b r' e
    by_cases hb : b = d
    · subst hb; rw [hnone] at e; simp at e
    · rw [upd_other _ _ _ _ hb]; exact e
  have hs : w'.os = w.os ∧ w'.tape = w.tape ∧ w'.output = w.output ∧ w'.heap.size = w.heap.size + 1 ∧ ∀ k, k < w.heap.size → w'.heap[k]? = w.heap[k]? := by
    rcases hw' with rfl | rfl
    · exact ⟨rfl, rfl, rfl, by simp, fun k hk => alloc_blk w o k hk⟩
    · exact ⟨rfl, rfl, rfl, by simp, fun k hk => alloc_blk w.drew o k hk⟩
  refine h.change (w' := w') (g := none) (b0 := d) (k0 := k) (r0 := r) (fun k hk _ => hs.2.2.2.2 k hk) hs.1 hs.2.1 hs.2.2.1 (by omega) (by simp) hι ?_ (upd_same _ _ _) hk (upd_same _ _ _) ?_
  · intro b r' hb
    rcases upd_some hb with ⟨rfl, _⟩ | ⟨hne, hb⟩
    · exact upd_same _ _ _
    · rw [upd_other _ _ _ _ hne]; exact h.used _ _ hb
  · intro b k' hne hb
    rw [upd_other _ _ _ _ hne] at hb
    refine ⟨hb, fun r' hr' hn => ⟨by simp, fun hn0 => ?_⟩⟩
    obtain ⟨r'', hr'', q⟩ := h.heap b k' hb
    rw [hr'] at hr''; cases hr''
    have := brep_lt q hn
    rw [hr hn0]; omega

/-- A local block written. -/
theorem Sim.write (h : Sim base w0 F0 F ι st a w) {b : Nat} {r : Ref} {k k' : Blk} {cs : Array Value} (hb : st.heap b = some k) (hr : ι b = some r) (hn : r.nil = false) (hbase : base ≤ r.blk) (hF : ¬ F r.blk)
    (hk : brep (w.setRow r.blk cs) base F ι r k') : Sim base w0 F0 F ι { st with heap := upd st.heap b (some k') } a (w.setRow r.blk cs) := by
  refine h.change (w' := w.setRow r.blk cs) (g := some r.blk) (b0 := b) (k0 := k') (r0 := r) (used' := st.used) (fun k _ hne => setRow_other w _ k cs (fun e => hne (by rw [e]))) rfl rfl rfl (by simp) ?_ (fun _ _ h => h) h.used hr hk (upd_same _ _ _) ?_
  · intro k e; cases e; exact ⟨hbase, hF⟩
  · intro c k'' hne hc
    rw [upd_other _ _ _ _ hne] at hc
    refine ⟨hc, fun r' hr' hn' => ?_⟩
    have := h.apart c b k'' k r' r hne hc hb hr' hr hn' hn
    exact ⟨fun e => this (Option.some.inj e), fun _ => this⟩

/-- A local block is forgotten. -/
theorem Sim.kill (h : Sim base w0 F0 F ι st a w) (b : Nat) : Sim base w0 F0 F ι (st.kill b) a w := by
  refine { h with heap := ?_, apart := ?_ }
  · intro c k hc
    rcases upd_some hc with ⟨_, hc⟩ | ⟨_, hc⟩
    · simp at hc
    · exact h.heap c k hc
  · intro c e k k' r r' hne hc he
    rcases upd_some hc with ⟨_, hc⟩ | ⟨_, hc⟩
    · simp at hc
    rcases upd_some he with ⟨_, he⟩ | ⟨_, he⟩
    · simp at he
    exact h.apart c e k k' r r' hne hc he

/-- A local block written through, which from now on goes by another name. -/
theorem Sim.rewrite (h : Sim base w0 F0 F ι st a w) {b d : Nat} {r r' : Ref} {k k' : Blk} {cs : Array Value} (hb : st.heap b = some k) (hr : ι b = some r) (hn : r.nil = false) (hd : st.used d = false) (hbase : base ≤ r.blk) (hF : ¬ F r.blk)
    (hr' : r'.blk = r.blk) (hk : brep (w.setRow r.blk cs) base F (upd ι d (some r')) r' k') : Sim base w0 F0 F (upd ι d (some r')) ((st.kill b).new d k') a (w.setRow r.blk cs) := by
  have hnone : ι d = none := by
    cases e : ι d with
    | none => rfl
    | some r => have := h.used d r e; rw [hd] at this; simp at this
  have hι : ∀ b r'', ι b = some r'' → upd ι d (some r') b = some r'' := by
    intro b r'' e
    by_cases hb : b = d
    · subst hb; rw [hnone] at e; simp at e
    · rw [upd_other _ _ _ _ hb]; exact e
  refine h.change (w' := w.setRow r.blk cs) (g := some r.blk) (b0 := d) (k0 := k') (r0 := r') (fun k _ hne => setRow_other w _ k cs (fun e => hne (by rw [e]))) rfl rfl rfl (by simp) ?_ hι ?_ (upd_same _ _ _) hk (upd_same _ _ _) ?_
  · intro k e; cases e; exact ⟨hbase, hF⟩
  · intro c r'' hc
    rcases upd_some hc with ⟨rfl, _⟩ | ⟨hne, hc⟩
    · exact upd_same _ _ _
    · rw [upd_other _ _ _ _ hne]; exact h.used _ _ hc
  · intro c k'' hne hc
    rw [upd_other _ _ _ _ hne] at hc
    rcases upd_some hc with ⟨_, hc⟩ | ⟨hcb, hc⟩
    · simp at hc
    refine ⟨hc, fun s hs hn' => ?_⟩
    have := h.apart c b k'' k s r hcb hc hb hs hr hn' hn
    exact ⟨fun e => this (Option.some.inj e), fun _ => by rw [hr']; exact this⟩

end
end Go.VM

namespace Go.VM
open Go Go.RowKit

section
variable {P : Program} {base : Nat} {w0 w : World} {F0 F : Nat → Prop} {ι : Nat → Option Ref} {st : St} {a : Act}

theorem valT_or {t : Ty} (h : valT t = true) : isAggT t = true ∨ cellT t = true := by simpa [valT] using h

/-- The reference of a block that was just made. -/
def newRef (w : World) (wd len cap : Nat) : Ref := ⟨w.heap.size, 0, wd, false, len, cap⟩

theorem alloc_box (h : Sim base w0 F0 F ι st a w) {d : Nat} {t : Ty} {x : den t} {cs : Array Value} {e : TypeId} (hd : st.used d = false) (ht : valT t = true) (hx : rep w F ι t x cs.toList) :
    Sim base w0 F0 F (upd ι d (some (newRef w 0 0 0))) (st.new d (.box t x)) a (w.alloc (.cells cs e)) ∧
    vrep (w.alloc (.cells cs e)) F (upd ι d (some (newRef w 0 0 0))) (.ref d 0) () (.pointer (some ⟨w.heap.size, 0, none⟩)) := by
  have hnone : ι d = none := by
    cases e : ι d with
    | none => rfl
    | some r => have := h.used d r e; rw [hd] at this; simp at this
  have hι : ∀ b r', ι b = some r' → upd ι d (some (newRef w 0 0 0)) b = some r' := by
    intro b r' e
    by_cases hb : b = d
    · subst hb; rw [hnone] at e; simp at e
    · rw [upd_other _ _ _ _ hb]; exact e
  constructor
  · refine h.alloc (.inl rfl) hd (fun _ => rfl) ⟨rfl, rfl, h.size, fun hf => ?_, ht, cs, e, heap_alloc_new _ _, ?_⟩
    · have := h.fsize _ hf; simp only [newRef] at this; omega
    · exact rep_mono (fun _ h => h) hι (fun b hb => alloc_blk _ _ _ (h.fsize b hb)) _ _ _ hx
  · exact (vrep_cell rfl).2 ⟨_, upd_same _ _ _, rfl⟩

theorem run_alloc {e : TypeId} {z : V} (h : zeroV P e = some z) : ∃ cs, (Instr.alloc e true (.tuple #[])).run P w = .ok (.pointer (some ⟨w.heap.size, 0, none⟩)) (w.alloc (.cells cs e)) ∧ valT z.t = true ∧ ∀ F ι, rep w F ι z.t z.x cs.toList := by
  obtain ⟨zv, h1, h2, h3⟩ := zeroV_rep h w
  exact ⟨zv.cells, by simp [Instr.alloc, h1, newVar, newRow], h2, h3⟩

theorem run_box {e : TypeId} {v : Value} : (Instr.box e v).run P w = .ok (.pointer (some ⟨w.heap.size, 0, none⟩)) (w.alloc (.cells v.cells e)) := by
  simp [Instr.box, newVar, newRow]

/-! Aggregates. -/

def fillV (P : Program) (fs : Array Go.Field) : V → List (Nat × V) → Option V
  | acc, [] => some acc
  | acc, (i, v) :: r => match fs[i]? with
    | some fd => match tinf P fd.type with
      | some (_, n) => bif Nat.beq n (width v.t) && valT v.t then match put v acc.t acc.x fd.offset with
        | some u => fillV P fs u r
        | none => none else none
      | none => none
    | none => none

def buildV (P : Program) (t : TypeId) (parts : List (Nat × V)) : Option V :=
  match zeroV P t with
  | some z => match P.underlying t with
    | some (.struct fs) => bif isAggT z.t then fillV P fs z parts else none
    | _ => none
  | none => none

theorem foldl_set (vs : List Value) : ∀ (off k : Nat) (cs : Array Value), off + k + vs.length ≤ cs.size →
    ((vs.zipIdx k).foldl (fun cs (p : Value × Nat) => cs.setIfInBounds (off + p.2) p.1) cs).toList = splice cs.toList (off + k) vs := by
  induction vs with
  | nil => intro off k cs h; simp [splice]
  | cons v vs ih =>
    intro off k cs h
    simp only [List.length_cons] at h
    simp only [List.zipIdx_cons, List.foldl_cons]
    rw [ih off (k + 1) _ (by simp; omega)]
    have hk : off + k < cs.toList.length := by simp; omega
    have e1 : (cs.setIfInBounds (off + k) v).toList = cs.toList.take (off + k) ++ v :: cs.toList.drop (off + k + 1) := by
      rw [Array.toList_setIfInBounds, List.set_eq_take_append_cons_drop, if_pos hk]
    have hl : (cs.toList.take (off + k)).length = off + k := by rw [List.length_take]; omega
    simp only [splice, e1, List.length_cons]
    rw [show off + (k + 1) = off + k + 1 by omega, List.take_append, List.drop_append, hl, List.take_of_length_le (by omega : (cs.toList.take (off + k)).length ≤ off + k + 1),
      List.drop_of_length_le (by omega : (cs.toList.take (off + k)).length ≤ off + k + 1 + vs.length), show off + k + 1 - (off + k) = 1 by omega, show off + k + 1 + vs.length - (off + k) = vs.length + 1 by omega]
    simp only [List.take_succ_cons, List.take_zero, List.drop_succ_cons, List.drop_drop, List.nil_append, List.append_assoc, List.cons_append]
    rw [show off + k + 1 + vs.length = off + k + (vs.length + 1) by omega]

theorem run_places (fs : List Go.Field) (g : Go.Field → Nat) (h : ∀ f ∈ fs, (sizeOf f.type).run P w = .ok (g f) w) :
    ∀ (acc : Array (Nat × Nat)), (fs.foldlM (fun (acc : Array (Nat × Nat)) (f : Go.Field) => do let p ← (do pure (f.offset, ← sizeOf f.type) : Sem (Nat × Nat)); pure (acc.push p)) acc).run P w = .ok (acc ++ (fs.map fun f => (f.offset, g f)).toArray) w := by
  induction fs with
  | nil => intro acc; simp
  | cons f fs ih =>
    intro acc
    have hf := h f (by simp)
    simp only [List.foldlM_cons, Sem.run_bind, hf, Result.andThen_ok, Sem.run_pure]
    have := ih (fun f hf => h f (by simp [hf])) (acc.push (f.offset, g f))
    rw [this]
    simp

theorem fill_ok {place : Nat → Option (Nat × Nat)} {fs : Array Go.Field} (hp : ∀ i fd, fs[i]? = some fd → ∀ ag n, tinf P fd.type = some (ag, n) → place i = some (fd.offset, n)) :
    ∀ (parts : List (Nat × V)) (vals : List (Nat × Value)) (acc u : V) (cells : Array Value), parts.length = vals.length →
      (∀ (k : Nat) (p : Nat × V) (q : Nat × Value), parts[k]? = some p → vals[k]? = some q → p.1 = q.1 ∧ vrep w F ι p.2.t p.2.x q.2) → rep w F ι acc.t acc.x cells.toList → fillV P fs acc parts = some u →
      ∃ cells', Instr.fill place cells vals = some cells' ∧ rep w F ι u.t u.x cells'.toList ∧ isAggT u.t = isAggT acc.t := by
  intro parts
  induction parts with
  | nil =>
    intro vals acc u cells hl _ hr h
    cases vals with
    | nil => simp only [fillV, Option.some.injEq] at h; subst h; exact ⟨cells, rfl, hr, rfl⟩
    | cons q vals => simp at hl
  | cons p parts ih =>
    intro vals acc u cells hl hv hr h
    cases vals with
    | nil => simp at hl
    | cons q vals =>
      obtain ⟨i, v⟩ := p
      obtain ⟨i', x⟩ := q
      have h0 := hv 0 (i, v) (i', x) rfl rfl
      obtain ⟨rfl, hvx⟩ := h0
      simp only [fillV] at h
      split at h <;> try (simp at h; done)
      rename_i fd hfd
      split at h <;> try (simp at h; done)
      rename_i ag n ht
      cases hc : (Nat.beq n (width v.t) && valT v.t) <;> rw [hc] at h <;> simp only [cond_true, cond_false, reduceCtorEq] at h
      simp only [Bool.and_eq_true, Nat.beq_eq] at hc
      obtain ⟨rfl, hval⟩ := hc
      split at h <;> try (simp at h; done)
      rename_i acc' hacc
      have hcells := vrep_cells (valT_or hval) hvx
      have hlen := rep_length _ _ _ hcells
      obtain ⟨q1, q2, q3, q4⟩ := put_rep hcells _ _ _ _ _ hr hacc
      have hsp : (x.cells.zipIdx.foldl (fun cs (p : Value × Nat) => cs.setIfInBounds (fd.offset + p.2) p.1) cells).toList = splice cells.toList fd.offset x.cells.toList := by
        have := foldl_set x.cells.toList fd.offset 0 cells (by simp at q2 ⊢; omega)
        rw [Nat.add_zero] at this
        rw [← this, ← Array.foldl_toList]; simp
      have e : Instr.fill place cells ((i, x) :: vals) = Instr.fill place (x.cells.zipIdx.foldl (fun cs (p : Value × Nat) => cs.setIfInBounds (fd.offset + p.2) p.1) cells) vals := by
        rw [Instr.fill, hp i fd hfd ag _ ht]
        simp only
        rw [if_neg]
        simp at hlen q2 ⊢
        omega
      rw [e]
      obtain ⟨cells', z1, z2, z3⟩ := ih vals acc' u (x.cells.zipIdx.foldl (fun cs (p : Value × Nat) => cs.setIfInBounds (fd.offset + p.2) p.1) cells) (by simpa using hl)
        (fun k p q hp hq => hv (k + 1) p q hp hq) (by rw [hsp]; exact q1) h
      exact ⟨cells', z1, z2, z3.trans q3⟩

theorem buildV_ok {t : TypeId} {parts : List (Nat × V)} {vals : List (Nat × Value)} {u : V} (hl : parts.length = vals.length)
    (hv : ∀ (k : Nat) (p : Nat × V) (q : Nat × Value), parts[k]? = some p → vals[k]? = some q → p.1 = q.1 ∧ vrep w F ι p.2.t p.2.x q.2) (htot : ∀ fs, P.underlying t = some (.struct fs) → ∀ f ∈ fs.toList, (tinf P f.type).isSome = true) (h : buildV P t parts = some u) :
    ∃ r, (Instr.build t vals.toArray).run P w = .ok r w ∧ vrep w F ι u.t u.x r := by
  unfold buildV at h
  split at h <;> try (simp at h; done)
  rename_i z hz
  split at h <;> try (simp at h; done)
  rename_i fs ht
  cases ha : isAggT z.t <;> rw [ha] at h <;> simp only [cond_true, cond_false, reduceCtorEq] at h
  obtain ⟨zv, h1, h2, h3⟩ := zeroV_rep hz w
  have hg : ∀ f ∈ fs.toList, (sizeOf f.type).run P w = .ok (((tinf P f.type).map (·.2)).getD 0) w := by
    intro f hf
    have := htot fs ht f hf
    cases e : tinf P f.type with
    | none => rw [e] at this; simp at this
    | some p => obtain ⟨ag, n⟩ := p; simp [(tinf_run e w).2]
  have hpl : (fs.mapM (fun f => do pure (f.offset, ← sizeOf f.type) : Go.Field → Sem (Nat × Nat))).run P w = .ok (fs.toList.map fun f => (f.offset, ((tinf P f.type).map (·.2)).getD 0)).toArray w := by
    have := run_places (P := P) (w := w) fs.toList (fun f => ((tinf P f.type).map (·.2)).getD 0) hg #[]
    simp only [Array.empty_append] at this
    rw [← this, Array.mapM_eq_foldlM, ← Array.foldlM_toList]
    congr 1
  obtain ⟨cells', z1, z2, z3⟩ := fill_ok (P := P) (w := w) (F := F) (ι := ι) (place := ((fs.toList.map fun f => (f.offset, ((tinf P f.type).map (·.2)).getD 0)).toArray[·]?)) (fs := fs)
    (by intro i fd hfd ag n htn; simp [hfd, htn]) parts vals z u zv.cells hl hv (h3 F ι) h
  refine ⟨.agg cells', ?_, vrep_of_rep (z3.trans ha) z2⟩
  simp only [Instr.build, Sem.run_bind, h1, Result.andThen_ok, run_underlying ht, hpl, z1, Sem.run_pure]

end
end Go.VM

namespace Go.VM
open Go Go.RowKit

/-- The elements of `l` lie one behind the other from `off` on. -/
def Lies (w : World) (F : Nat → Prop) (ι : Nat → Option Ref) (t : Ty) (l : List (den t)) (cs : List Value) (off : Nat) : Prop :=
  ∀ i y, l[i]? = some y → rep w F ι t y (seg cs (off + i * width t) (width t))

section
variable {P : Program} {base : Nat} {w0 w : World} {F0 F : Nat → Prop} {ι : Nat → Option Ref} {st : St} {a : Act}

theorem lies_len {t : Ty} {l : List (den t)} {cs : List Value} {off : Nat} (hw : 0 < width t) (h : Lies w F ι t l cs off) : l.length = 0 ∨ off + l.length * width t ≤ cs.length := by
  rcases Nat.eq_zero_or_pos l.length with h0 | h0
  · exact .inl h0
  · right
    have hi : l.length - 1 < l.length := by omega
    have := rep_length _ _ _ (h (l.length - 1) _ (List.getElem?_eq_getElem hi))
    simp only [seg, List.length_take, List.length_drop] at this
    have e : l.length * width t = (l.length - 1) * width t + width t := by
      conv => lhs; rw [show l.length = (l.length - 1) + 1 by omega]
      rw [Nat.add_mul, Nat.one_mul]
    omega

theorem lies_seg {t : Ty} {l : List (den t)} {cs : List Value} {off : Nat} (hw : 0 < width t) (h : Lies w F ι t l cs off) : (seg cs off (l.length * width t)).length = l.length * width t ∧ Lies w F ι t l (seg cs off (l.length * width t)) 0 := by
  constructor
  · rcases lies_len hw h with h0 | h0
    · simp [seg, h0]
    · simp only [seg, List.length_take, List.length_drop]; omega
  · intro i y hy
    have hi : i < l.length := by
      rcases Nat.lt_or_ge i l.length with q | q
      · exact q
      · rw [List.getElem?_eq_none q] at hy; simp at hy
    have hle : i * width t + width t ≤ l.length * width t := by rw [← Nat.succ_mul]; exact Nat.mul_le_mul_right _ hi
    rw [Nat.zero_add, seg_seg _ _ _ _ _ hle]
    exact h i y hy

theorem lies_append {t : Ty} {l m : List (den t)} {c1 c2 c3 : List Value} (h1 : Lies w F ι t l c1 0) (hl1 : c1.length = l.length * width t) (h2 : Lies w F ι t m c2 0) (hl2 : c2.length = m.length * width t) (o : List Value) :
    Lies w F ι t (l ++ m) (o ++ c1 ++ c2 ++ c3) o.length := by
  intro i y hy
  rw [List.append_assoc, List.append_assoc, seg_right _ _ _ _ (by omega), Nat.add_sub_cancel_left]
  rcases Nat.lt_or_ge i l.length with hi | hi
  · rw [List.getElem?_append_left hi] at hy
    have hle : i * width t + width t ≤ l.length * width t := by rw [← Nat.succ_mul]; exact Nat.mul_le_mul_right _ hi
    rw [seg_left _ _ _ _ (by omega)]
    have := h1 i y hy; rwa [Nat.zero_add] at this
  · rw [List.getElem?_append_right hi] at hy
    have hi' : i - l.length < m.length := by
      rcases Nat.lt_or_ge (i - l.length) m.length with q | q
      · exact q
      · rw [List.getElem?_eq_none q] at hy; simp at hy
    have hle : (i - l.length) * width t + width t ≤ m.length * width t := by rw [← Nat.succ_mul]; exact Nat.mul_le_mul_right _ hi'
    have e : i * width t - c1.length = (i - l.length) * width t := by rw [hl1, Nat.sub_mul]
    have hc : c1.length ≤ i * width t := by rw [hl1]; exact Nat.mul_le_mul_right _ hi
    rw [seg_right _ _ _ _ hc, e, seg_left _ _ _ _ (by omega)]
    have := h2 _ y hy; rwa [Nat.zero_add] at this

theorem cst_one (c : Cst) : c.val.oneCell' = true := by cases c <;> rfl

theorem rep_one : ∀ (t : Ty) (x : den t) (cs : List Value), rep w F ι t x cs → ∀ u ∈ cs, u.oneCell' = true
  | .int _, _, _, h, u, hu | .bool, _, _, h, u, hu | .str, _, _, h, u, hu => by simp only [rep] at h; subst h; simp at hu; subst hu; rfl
  | .cst c, _, _, h, u, hu => by simp only [rep] at h; subst h; simp at hu; subst hu; exact cst_one c
  | .sl _, none, _, h, u, hu => by simp only [rep] at h; subst h; simp at hu; subst hu; rfl
  | .sl _, some _, _, h, u, hu => by simp only [rep] at h; obtain ⟨_, _, _, _, _, _, rfl, _⟩ := h; simp at hu; subst hu; rfl
  | .unit, _, _, h, u, hu => by simp only [rep] at h; subst h; simp at hu
  | .pair a b, x, _, h, u, hu => by
    simp only [rep] at h
    obtain ⟨c1, c2, rfl, h1, h2⟩ := h
    rcases List.mem_append.1 hu with hu | hu
    · exact rep_one a _ _ h1 u hu
    · exact rep_one b _ _ h2 u hu
  | .agg c, x, cs, h, u, hu => by simp only [rep] at h; exact rep_one c x cs h u hu
  | .arr n t, l, cs, h, u, hu => by
    simp only [rep] at h
    obtain ⟨h1, h2, h3⟩ := h
    obtain ⟨j, hj, rfl⟩ := List.mem_iff_getElem.1 hu
    have hw : 0 < width t := by
      rcases Nat.eq_zero_or_pos (width t) with e | e
      · rw [e] at h2; simp at h2; rw [h2] at hj; simp at hj
      · exact e
    have hi : j / width t < l.length := by rw [h1]; exact Nat.div_lt_of_lt_mul (by rw [Nat.mul_comm]; omega)
    have hm := Nat.mod_lt j hw
    have he := Nat.div_add_mod j (width t)
    refine rep_one t _ _ (h3 (j / width t) _ (List.getElem?_eq_getElem hi)) _ (List.mem_iff_getElem?.2 ⟨j % width t, ?_⟩)
    rw [seg_get _ _ _ _ hm, Nat.mul_comm, he]
    exact List.getElem?_eq_getElem hj
  | .tup _, _, _, h, _, _ => by simp only [rep] at h
  | .ref _ _, _, _, h, u, hu => by simp only [rep] at h; obtain ⟨_, _, rfl⟩ := h; simp at hu; subst hu; rfl
  | .own _, _, _, h, u, hu => by simp only [rep] at h; obtain ⟨r, _, rfl⟩ := h; simp at hu; subst hu; unfold Ref.val; split <;> rfl
  | .eref _ _, _, _, h, u, hu => by simp only [rep] at h; obtain ⟨_, _, _, _, rfl⟩ := h; simp at hu; subst hu; rfl
  | .fref _, _, _, h, u, hu => by simp only [rep] at h; obtain ⟨_, _, _, _, _, rfl, _⟩ := h; simp at hu; subst hu; rfl
  | .vw _, _, _, h, u, hu => by simp only [rep] at h; obtain ⟨_, _, _, _, _, _, rfl⟩ := h; simp at hu; subst hu; rfl

theorem lies_one {t : Ty} {l : List (den t)} {cs : List Value} (h : Lies w F ι t l cs 0) (hl : cs.length = l.length * width t) : ∀ u ∈ cs, u.oneCell' = true :=
  rep_one (.arr l.length t) l cs ⟨rfl, hl, fun i y hy => by have := h i y hy; rwa [Nat.zero_add] at this⟩

theorem run_storeVar {t : TypeId} {ag : Bool} {n g o : Nat} {cells : Array Value} {el : TypeId} {v : Value} (ht : tinf P t = some (ag, n)) (hn : v.cells.size = n) (hg : w.heap[g]? = some (.cells cells el (0, 0)))
    (hl : o + n ≤ cells.size) (h1 : ∀ u ∈ v.cells.toList, u.oneCell' = true) :
    (Instr.storeAt t (.pointer (some ⟨g, o, none⟩)) v).run P w = .ok () (w.setRow g (splice cells.toList o v.cells.toList).toArray) := by
  have := run_storeCells_at P g o el v.cells.toList 0 cells w hg (by simpa [hn] using hl) h1
  simp only [Nat.add_zero] at this
  simp [Instr.storeAt, Instr.sureAddr, storeVar, (tinf_run ht w).2, hn, this, splice]

/-- What a store writes: the block and what it holds from now on. -/
def putE (x : V) (t : Ty) (y : den t) (o : Nat) : Option (den t) :=
  match put x t y o with
  | some u => coe noHeap t u.t u.x
  | none => none
def setO {α : Type} (l : Option (List α)) (i : Nat) (y : α) : Option (List α) := l.map fun l => l.set i y
def storeV (hp : Nat → Option Blk) (n : Nat) (v x : V) : Option (Nat × Blk) :=
  bif Nat.beq n (width x.t) && valT x.t && Nat.blt 0 n then match v with
    | ⟨.ref b o, _⟩ => match hp b with
      | some (.box t y) => match put x t y o with
        | some u => some (b, .box u.t u.x)
        | none => none
      | _ => none
    | ⟨.eref b o, i⟩ => match hp b with
      | some (.arr t l) => match putE x t (eltN (dflt t) l i) o with
        | some y => some (b, .arr t (setO l i y))
        | none => none
      | _ => none
    | _ => none
  else none

theorem splice_len (cs : List Value) (o : Nat) (vs : List Value) (h : o + vs.length ≤ cs.length) : (splice cs o vs).length = cs.length := by
  simp [splice]; omega

theorem seg_splice (cs : List Value) (o : Nat) (vs : List Value) (p n : Nat) (h : o + vs.length ≤ cs.length) :
    (p + n ≤ o ∨ o + vs.length ≤ p → seg (splice cs o vs) p n = seg cs p n) ∧
    (o ≤ p → p + n ≤ o + vs.length → seg (splice cs o vs) p n = seg vs (p - o) n) := by
  have ht : (cs.take o).length = o := by rw [List.length_take]; omega
  constructor
  · rintro (hp | hp)
    · unfold splice
      rw [List.append_assoc, seg_left _ _ _ _ (by omega)]
      simp only [seg, List.drop_take, List.take_take]
      congr 1; omega
    · unfold splice
      rw [seg_right _ _ _ _ (by simp; omega)]
      simp only [seg, List.drop_drop, List.length_append, ht]
      congr 2; omega
  · intro hp hq
    unfold splice
    rw [List.append_assoc, seg_right _ _ _ _ (by omega), ht, seg_left _ _ _ _ (by omega)]

theorem storeV_ok (hs : Sim base w0 F0 F ι st a w) {t : TypeId} {ag : Bool} {n b : Nat} {v x : V} {val vx : Value} {k : Blk} (ht : tinf P t = some (ag, n)) (hv : vrep w F ι v.t v.x val) (hx : vrep w F ι x.t x.x vx)
    (h : storeV st.heap n v x = some (b, k)) : ∃ w', (Instr.storeAt t val vx).run P w = .ok () w' ∧ Sim base w0 F0 F ι { st with heap := upd st.heap b (some k) } a w' := by
  unfold storeV at h
  cases hc : (Nat.beq n (width x.t) && valT x.t && Nat.blt 0 n) <;> rw [hc] at h <;> simp only [cond_true, cond_false, reduceCtorEq] at h
  simp only [Bool.and_eq_true, Nat.beq_eq] at hc
  obtain ⟨⟨rfl, hval⟩, hpos⟩ := hc
  replace hpos : 0 < width x.t := Nat.le_of_ble_eq_true hpos
  have hxc := vrep_cells (valT_or hval) hx
  have hxl := rep_length _ _ _ hxc
  simp only [Array.length_toList] at hxl
  have hx1 := rep_one _ _ _ hxc
  split at h
  · rename_i b' o _
    split at h <;> try (simp at h; done)
    rename_i ty y hb
    split at h <;> try (simp at h; done)
    rename_i u hu
    simp only [Option.some.injEq, Prod.mk.injEq] at h
    obtain ⟨rfl, rfl⟩ := h
    obtain ⟨r, hr, hk⟩ := hs.heap _ _ hb
    have hk' := hk
    obtain ⟨q1, q2, q3, q4, q5, cells, el, q6, q7⟩ := hk
    rw [vrep_cell rfl] at hv; simp only [rep] at hv
    obtain ⟨r', hr', e⟩ := hv
    rw [hr] at hr'; cases hr'
    simp only [List.cons.injEq, and_true] at e; subst e
    obtain ⟨p1, p2, p3, p4⟩ := put_rep hxc _ _ _ _ _ q7 hu
    have hle : o + width x.t ≤ cells.size := by simp at p2; omega
    refine ⟨_, by rw [q2, Nat.zero_add]; exact run_storeVar ht hxl q6 hle hx1, hs.write hb hr q1 q3 q4 ?_⟩
    refine ⟨q1, q2, q3, q4, by simp only [valT, p3, p4]; exact q5, _, el, setRow_heap w _ _ _ _ _ q6, ?_⟩
    exact rep_mono (fun _ h => h) (fun _ _ h => h) (fun c hc => setRow_other w _ c _ (fun e => q4 (by rw [← e]; exact hc))) _ _ _ (by simpa using p1)
  · rename_i b' o i
    split at h <;> try (simp at h; done)
    rename_i ty l hb
    split at h <;> try (simp at h; done)
    rename_i y hy
    simp only [Option.some.injEq, Prod.mk.injEq] at h
    obtain ⟨rfl, rfl⟩ := h
    obtain ⟨r, hr, hk⟩ := hs.heap _ _ hb
    obtain ⟨q0, hk⟩ := hk
    rw [vrep_cell rfl] at hv; simp only [rep] at hv
    obtain ⟨r', hr', e1, e2, e⟩ := hv
    rw [hr] at hr'; cases hr'
    simp only [List.cons.injEq, and_true] at e; subst e
    cases l with
    | none => simp only at hk; rw [hk] at e1; simp at e1
    | some l =>
      obtain ⟨q1, q2, q3, q4, q5, q6, cells, el, q7, q8, q9⟩ := hk
      have hi : i < l.length := by rw [← q3]; exact e2
      unfold putE at hy
      split at hy <;> try (simp at hy; done)
      rename_i u hu
      simp only [eltN, Option.getD_some] at hu
      have hg : l[i]? = some (l.getD i (dflt ty)) := by simp [List.getD, List.getElem?_eq_getElem hi]
      have hel := q9 i _ hg
      obtain ⟨p1, p2, p3, p4⟩ := put_rep hxc _ _ _ _ _ hel hu
      have hlen := rep_length _ _ _ hel
      rw [hlen] at p2
      have hseg := hlen
      simp only [seg, List.length_take, List.length_drop, Array.length_toList] at hseg
      have hle : r.off + i * width ty + o + width x.t ≤ cells.size := by
        have hcap : (i + 1) * width ty ≤ r.cap * width ty := Nat.mul_le_mul_right _ (by omega)
        rw [Nat.add_mul] at hcap
        rw [q2] at q8
        simp only [Array.length_toList] at p2
        omega
      refine ⟨_, by rw [q2]; exact run_storeVar ht hxl q7 hle hx1, hs.write hb hr e1 q5 q6 ?_⟩
      have hlx : vx.cells.toList.length = width x.t := by simpa using hxl
      have hF : ∀ c, F c → (w.setRow r.blk (splice cells.toList (r.off + i * width ty + o) vx.cells.toList).toArray).heap[c]? = w.heap[c]? := fun c hc => setRow_other w _ c _ (fun e => q6 (by rw [← e]; exact hc))
      refine ⟨q0, q1, q2, by simp [q3], q4, q5, q6, _, el, setRow_heap w _ _ _ _ _ q7, ?_, ?_⟩
      · have := splice_len cells.toList (r.off + i * width ty + o) vx.cells.toList (by rw [hlx]; simpa using hle)
        simp only [Array.length_toList] at this
        simp only [List.size_toArray, this]; exact q8
      · intro j z hz
        refine rep_mono (fun _ h => h) (fun _ _ h => h) hF _ _ _ ?_
        have hsp := seg_splice cells.toList (r.off + i * width ty + o) vx.cells.toList (r.off + j * width ty) (width ty) (by rw [hlx]; simpa using hle)
        simp only [Array.length_toList] at p2
        by_cases hij : j = i
        · subst hij
          rw [List.getElem?_set_self hi] at hz
          simp only [Option.some.injEq] at hz; subst hz
          have e4 : seg (splice cells.toList (r.off + j * width ty + o) vx.cells.toList) (r.off + j * width ty) (width ty) = splice (seg cells.toList (r.off + j * width ty) (width ty)) o vx.cells.toList := by
            apply List.ext_getElem?
            intro m
            rcases Nat.lt_or_ge m (width ty) with hm | hm
            · rw [seg_get _ _ _ _ hm]
              simp only [splice]
              have l1 : (cells.toList.take (r.off + j * width ty + o)).length = r.off + j * width ty + o := by simp; omega
              have l2 : ((seg cells.toList (r.off + j * width ty) (width ty)).take o).length = o := by rw [List.length_take, hlen]; omega
              rcases Nat.lt_or_ge m o with hmo | hmo
              · rw [List.append_assoc, List.append_assoc, List.getElem?_append_left (by omega), List.getElem?_append_left (by omega), List.getElem?_take_of_lt (by omega), List.getElem?_take_of_lt (by omega), seg_get _ _ _ _ hm]
              · rw [List.append_assoc, List.append_assoc, List.getElem?_append_right (l₁ := cells.toList.take _) (by omega), List.getElem?_append_right (l₁ := (seg cells.toList _ _).take _) (by omega), l1, l2]
                rw [show r.off + j * width ty + m - (r.off + j * width ty + o) = m - o by omega]
                rcases Nat.lt_or_ge (m - o) vx.cells.toList.length with hm2 | hm2
                · rw [List.getElem?_append_left hm2, List.getElem?_append_left hm2]
                · rw [List.getElem?_append_right hm2, List.getElem?_append_right hm2, List.getElem?_drop, List.getElem?_drop, seg_get _ _ _ _ (by omega)]
                  congr 1
                  omega
            · rw [List.getElem?_eq_none (by simp [seg]; omega), List.getElem?_eq_none (by rw [splice_len _ _ _ (by rw [hlen]; omega), hlen]; exact hm)]
          rw [List.toList_toArray, e4]
          exact coe_rep (fun _ h => h) noHeap_holds _ _ _ _ _ p1 hy
        · rw [List.getElem?_set_ne (fun e => hij e.symm)] at hz
          have hne : r.off + j * width ty + width ty ≤ r.off + i * width ty + o ∨ r.off + i * width ty + o + vx.cells.toList.length ≤ r.off + j * width ty := by
            rcases Nat.lt_or_gt_of_ne hij with hlt | hgt
            · left
              have : (j + 1) * width ty ≤ i * width ty := Nat.mul_le_mul_right _ hlt
              rw [Nat.add_mul] at this; omega
            · right
              have this : i * width ty + width ty ≤ j * width ty := by rw [← Nat.succ_mul]; exact Nat.mul_le_mul_right _ hgt
              have e5 : i * width ty + (o + vx.cells.size) ≤ i * width ty + width ty := Nat.add_le_add_left p2 _
              have e6 := Nat.le_trans e5 this
              rw [Array.length_toList]
              clear hseg hle q8 q9
              omega
          rw [List.toList_toArray, hsp.1 hne]
          exact q9 j z hz
  · simp at h

end
end Go.VM

