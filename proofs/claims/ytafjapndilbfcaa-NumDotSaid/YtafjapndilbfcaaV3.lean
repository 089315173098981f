/- Typed pure data for the values of the model, and a condition on code that says what a call gives. -/
import Derived.ProofKit
import Derived.Test.YtafjapndilbfcaaV2
set_option linter.unusedVariables false
set_option linter.unusedSimpArgs false
namespace Go.VM
open Go Go.RowKit

abbrev Ren := List (Nat × Option Nat)

def look : Ren → Nat → Option (Option Nat)
  | [], _ => none
  | (k, v) :: l, n => bif Nat.beq n k then some v else look l n

def sameO : Option Nat → Option Nat → Bool
  | none, none => true
  | some a, some b => Nat.beq a b
  | _, _ => false

theorem sameO_eq {a b : Option Nat} (h : sameO a b = true) : a = b := by
  cases a <;> cases b <;> simp_all [sameO]

def addR (ρ : Ren) : Ren → Option Ren
  | [] => some ρ
  | (k, v) :: l => match look ρ k with
    | some v' => bif sameO v v' then addR ρ l else none
    | none => addR (ρ ++ [(k, v)]) l

theorem look_append {ρ : Ren} {k n : Nat} {v : Option Nat} {u : Option Nat} (h : look ρ n = some u) : look (ρ ++ [(k, v)]) n = some u := by
  induction ρ with
  | nil => simp [look] at h
  | cons p l ih =>
    obtain ⟨k', v'⟩ := p
    simp only [look, List.cons_append] at h ⊢
    cases e : Nat.beq n k' <;> rw [e] at h
    · exact ih h
    · exact h

theorem look_new {ρ : Ren} {k : Nat} {v : Option Nat} (h : look ρ k = none) : look (ρ ++ [(k, v)]) k = some v := by
  induction ρ with
  | nil => simp [look]
  | cons p l ih =>
    obtain ⟨k', v'⟩ := p
    simp only [look, List.cons_append] at h ⊢
    cases e : Nat.beq k k' <;> rw [e] at h
    · exact ih h
    · simp at h

theorem addR_ok : ∀ (l ρ ρ' : Ren), addR ρ l = some ρ' → (∀ n u, look ρ n = some u → look ρ' n = some u) ∧ ∀ k v, (k, v) ∈ l → look ρ' k = some v
  | [], ρ, ρ', h => by simp only [addR, Option.some.injEq] at h; subst h; simp
  | (k, v) :: l, ρ, ρ', h => by
    simp only [addR] at h
    split at h
    · rename_i v' hv
      cases e : sameO v v' <;> rw [e] at h
      · simp at h
      have := sameO_eq e; subst this
      obtain ⟨h1, h2⟩ := addR_ok l ρ ρ' h
      refine ⟨h1, fun k' v' hm => ?_⟩
      rcases List.mem_cons.1 hm with hm | hm
      · cases hm; exact h1 _ _ hv
      · exact h2 _ _ hm
    · rename_i hn
      obtain ⟨h1, h2⟩ := addR_ok l _ ρ' h
      refine ⟨fun n u hu => h1 _ _ (look_append hu), fun k' v' hm => ?_⟩
      rcases List.mem_cons.1 hm with hm | hm
      · cases hm; exact h1 _ _ (look_new hn)
      · exact h2 _ _ hm

def mtF (t u : Ty) (x : den u) : Option (den t × Ren) :=
  bif frozen t then match coe noHeap t u x with
    | some y => some (y, [])
    | none => none else none
def mtO (b : Nat) : (u : Ty) → den u → Option (Unit × Ren)
  | .own c => fun _ => some ((), [(b, some c)])
  | .cst c => fun _ => bif isNilC c then some ((), [(b, none)]) else none
  | .sl _ => fun x => match x with
    | none => some ((), [(b, none)])
    | some _ => none
  | _ => fun _ => none
def mtR (b o : Nat) : (u : Ty) → den u → Option (Unit × Ren)
  | .ref c o' => fun _ => bif Nat.beq o o' then some ((), [(b, some c)]) else none
  | _ => fun _ => none
def mtP {α β : Type} (f : (u : Ty) → den u → Option (α × Ren)) (g : (u : Ty) → den u → Option (β × Ren)) : (u : Ty) → den u → Option ((α × β) × Ren)
  | .pair a b => fun x => match f a x.1 with
    | some (y, c) => match g b x.2 with
      | some (z, d) => some ((y, z), c ++ d)
      | none => none
    | none => none
  | _ => fun _ => none
def mtA {α : Type} (f : (u : Ty) → den u → Option (α × Ren)) : (u : Ty) → den u → Option (α × Ren)
  | .agg c => f c
  | _ => fun _ => none

/-- `x` as data of the type `t`, whose names of local blocks are new ones: which are which. -/
def mt : (t u : Ty) → den u → Option (den t × Ren)
  | .own b => mtO b
  | .ref b o => mtR b o
  | .pair a b => mtP (mt a) (mt b)
  | .agg c => mtA (mt c)
  | .int k => mtF (.int k)
  | .bool => mtF .bool
  | .str => mtF .str
  | .cst c => mtF (.cst c)
  | .sl t => mtF (.sl t)
  | .unit => mtF .unit
  | .arr n t => mtF (.arr n t)
  | .tup _ => fun _ _ => none
  | .eref _ _ => fun _ _ => none
  | .fref t => mtF (.fref t)
  | .vw _ => fun _ _ => none

def nilRef : Ref := ⟨0, 0, 0, true, 0, 0⟩
def renamed (ρ : Ren) (ι : Nat → Option Ref) : Nat → Option Ref := fun k => match look ρ k with
  | some (some b) => ι b
  | some none => some nilRef
  | none => none

theorem mtF_ok {w : World} {F : Nat → Prop} {ι ι' : Nat → Option Ref} {t u : Ty} {x : den u} {y : den t} {c : Ren} {cs : List Value} (hr : rep w F ι u x cs) (h : mtF t u x = some (y, c)) :
    rep w F ι' t y cs ∧ isAggT u = isAggT t ∧ cellT u = cellT t := by
  unfold mtF at h
  cases e : frozen t <;> rw [e] at h
  · simp at h
  simp only [cond_true] at h
  split at h <;> try (simp at h; done)
  rename_i z hz
  simp only [Option.some.injEq, Prod.mk.injEq] at h
  obtain ⟨rfl, rfl⟩ := h
  have htag := coe_tags _ _ _ _ hz
  exact ⟨rep_frozen _ _ _ e (coe_rep (fun _ h => h) noHeap_holds _ _ _ _ _ hr hz), htag.1, htag.2.2⟩

theorem mt_ok {w : World} {F : Nat → Prop} {ι : Nat → Option Ref} {ρ : Ren} : ∀ (t u : Ty) (x : den u) (y : den t) (c : Ren) (cs : List Value), (∀ k v, (k, v) ∈ c → look ρ k = some v) → rep w F ι u x cs → mt t u x = some (y, c) →
    rep w F (renamed ρ ι) t y cs ∧ isAggT u = isAggT t ∧ cellT u = cellT t := by
  intro t
  induction t with
  | own b =>
    intro u x y c cs hc hr h
    change mtO b u x = some (y, c) at h
    cases u with
    | own d =>
      simp only [mtO, Option.some.injEq, Prod.mk.injEq] at h
      obtain ⟨_, rfl⟩ := h
      simp only [rep] at hr ⊢
      obtain ⟨r, hr, rfl⟩ := hr
      exact ⟨⟨r, by simp [renamed, hc b (some d) (by simp), hr], rfl⟩, rfl, rfl⟩
    | cst d =>
      change (bif isNilC d then some ((), [(b, none)]) else none) = some (y, c) at h
      cases d <;> simp [isNilC] at h
      obtain ⟨_, rfl⟩ := h
      simp only [rep, Cst.val] at hr ⊢
      subst hr
      exact ⟨⟨nilRef, by simp [renamed, hc b none (by simp)], rfl⟩, rfl, rfl⟩
    | sl d =>
      cases x with
      | none =>
        change some ((), [(b, none)]) = some (y, c) at h
        simp only [Option.some.injEq, Prod.mk.injEq] at h
        obtain ⟨_, rfl⟩ := h
        simp only [rep] at hr ⊢
        subst hr
        exact ⟨⟨nilRef, by simp [renamed, hc b none (by simp)], rfl⟩, rfl, rfl⟩
      | some l => exact absurd h (by intro h; cases h)
    | _ => exact absurd h (by intro h; cases h)
  | ref b o =>
    intro u x y c cs hc hr h
    change mtR b o u x = some (y, c) at h
    cases u with
    | ref d o' =>
      change (bif Nat.beq o o' then some ((), [(b, some d)]) else none) = some (y, c) at h
      obtain ⟨ho, h2⟩ := bif_some h
      clear h
      rw [Nat.beq_eq] at ho; subst ho
      have hc2 : c = [(b, some d)] := (congrArg Prod.snd h2).symm
      subst hc2
      simp only [rep] at hr ⊢
      obtain ⟨r, hr, rfl⟩ := hr
      exact ⟨⟨r, by simp [renamed, hc b (some d) (by simp), hr], rfl⟩, rfl, rfl⟩
    | _ => exact absurd h (by intro h; cases h)
  | pair a b iha ihb =>
    intro u x y c cs hc hr h
    change mtP (mt a) (mt b) u x = some (y, c) at h
    cases u with
    | pair a' b' =>
      simp only [mtP] at h
      split at h <;> try (simp at h; done)
      rename_i y1 c1 h1
      split at h <;> try (simp at h; done)
      rename_i y2 c2 h2
      simp only [Option.some.injEq, Prod.mk.injEq] at h
      obtain ⟨rfl, rfl⟩ := h
      simp only [rep] at hr ⊢
      obtain ⟨s1, s2, rfl, q1, q2⟩ := hr
      exact ⟨⟨s1, s2, rfl, (iha _ _ _ _ _ (fun k v hm => hc k v (List.mem_append_left _ hm)) q1 h1).1, (ihb _ _ _ _ _ (fun k v hm => hc k v (List.mem_append_right _ hm)) q2 h2).1⟩, rfl, rfl⟩
    | _ => exact absurd h (by intro h; cases h)
  | agg c0 ih =>
    intro u x y c cs hc hr h
    change mtA (mt c0) u x = some (y, c) at h
    cases u with
    | agg c' =>
      simp only [mtA] at h
      simp only [rep] at hr ⊢
      exact ⟨(ih _ _ _ _ _ hc hr h).1, rfl, rfl⟩
    | _ => exact absurd h (by intro h; cases h)
  | tup c0 _ => intro u x y c cs _ _ h; exact absurd h (by intro h; cases h)
  | eref b o => intro u x y c cs _ _ h; exact absurd h (by intro h; cases h)
  | vw b => intro u x y c cs _ _ h; exact absurd h (by intro h; cases h)
  | _ => intro u x y c cs _ hr h; exact mtF_ok hr h

theorem mtF_tags {t u : Ty} {x : den u} {y : den t} {c : Ren} (h : mtF t u x = some (y, c)) : isAggT u = isAggT t ∧ cellT u = cellT t := by
  unfold mtF at h
  cases e : frozen t <;> rw [e] at h
  · simp at h
  simp only [cond_true] at h
  split at h <;> try (simp at h; done)
  rename_i z hz
  have htag := coe_tags _ _ _ _ hz
  exact ⟨htag.1, htag.2.2⟩

theorem mt_tags {t u : Ty} {x : den u} {y : den t} {c : Ren} (h : mt t u x = some (y, c)) : isAggT u = isAggT t ∧ cellT u = cellT t := by
  cases t with
  | own b =>
    change mtO b u x = some (y, c) at h
    cases u <;> first | exact ⟨rfl, rfl⟩ | exact absurd h (by intro h; cases h)
  | ref b o =>
    change mtR b o u x = some (y, c) at h
    cases u <;> first | exact ⟨rfl, rfl⟩ | exact absurd h (by intro h; cases h)
  | pair a b =>
    change mtP (mt a) (mt b) u x = some (y, c) at h
    cases u <;> first | exact ⟨rfl, rfl⟩ | exact absurd h (by intro h; cases h)
  | agg c0 =>
    change mtA (mt c0) u x = some (y, c) at h
    cases u <;> first | exact ⟨rfl, rfl⟩ | exact absurd h (by intro h; cases h)
  | tup c0 => exact absurd h (by intro h; cases h)
  | eref b o => exact absurd h (by intro h; cases h)
  | vw b => exact absurd h (by intro h; cases h)
  | _ => exact mtF_tags h

inductive Ent where
  | var (n : Nat) (t : Ty)
  | box (b : Nat) (t : Ty)
  | arr (b : Nat) (t : Ty)

@[reducible] def denE : Ent → Type
  | .var _ t => den t
  | .box _ t => den t
  | .arr _ t => Option (List (den t))

@[reducible] def Pay : List Ent → Type
  | [] => Unit
  | [e] => denE e
  | e :: e' :: l => denE e × Pay (e' :: l)

structure Shape where
  csts : List (Nat × Ty)
  ents : List Ent

/-- Types whose data is nothing. -/
def unitT : Ty → Bool
  | .own _ => true
  | .ref _ _ => true
  | .cst _ => true
  | _ => false
theorem unitT_ok {t : Ty} (h : unitT t = true) (x y : den t) : x = y := by
  cases t <;> simp [unitT] at h <;> rfl

def getC (st : St) : List (Nat × Ty) → Ren → Option Ren
  | [], ρ => some ρ
  | (n, t) :: l, ρ => match st.env n with
    | some v => match mt t v.t v.x with
      | some (_, c) => bif valT t && unitT t then match addR ρ c with
        | some ρ => getC st l ρ
        | none => none else none
      | none => none
    | none => none

def getE (st : St) (ρ : Ren) : (e : Ent) → Option (denE e × Ren)
  | .var n t => match st.env n with
    | some v => match mt t v.t v.x with
      | some (y, c) => bif valT t then match addR ρ c with
        | some ρ => some (y, ρ)
        | none => none else none
      | none => none
    | none => none
  | .box b t => match look ρ b with
    | some (some d) => match st.heap d with
      | some (.box u x) => match mt t u x with
        | some (y, c) => match addR ρ c with
          | some ρ => some (y, ρ)
          | none => none
        | none => none
      | _ => none
    | _ => none
  | .arr b t => match look ρ b with
    | some (some d) => match st.heap d with
      | some (.arr u l) => match castT (.sl t) (.sl u) l with
        | some y => bif frozen t then some (y, ρ) else none
        | none => none
      | _ => none
    | some none => bif valT t then some (none, ρ) else none
    | none => none

def getL (st : St) : (l : List Ent) → Ren → Option (Pay l × Ren)
  | [], ρ => some ((), ρ)
  | [e], ρ => getE st ρ e
  | e :: e' :: l, ρ => match getE st ρ e with
    | some (x, ρ) => match getL st (e' :: l) ρ with
      | some (p, ρ) => some ((x, p), ρ)
      | none => none
    | none => none

def hasV (n : Nat) : Ren → Bool
  | [] => false
  | (_, some m) :: l => Nat.beq n m || hasV n l
  | (_, none) :: l => hasV n l
def injR : Ren → Bool
  | [] => true
  | (_, some m) :: l => !hasV m l && injR l
  | (_, none) :: l => injR l

def namesE : List Ent → List Nat
  | [] => []
  | .var _ t :: l => ids t ++ namesE l
  | .box b t :: l => b :: (ids t ++ namesE l)
  | .arr b _ :: l => b :: namesE l
def namesC : List (Nat × Ty) → List Nat
  | [] => []
  | (_, t) :: l => ids t ++ namesC l
def Shape.names (sh : Shape) : List Nat := namesC sh.csts ++ namesE sh.ents

def keysIn (l : List Nat) : Ren → Bool
  | [] => true
  | (k, _) :: ρ => memN k l && keysIn l ρ

/-- The data of a state in a given shape. -/
def unpack (sh : Shape) (st : St) : Option (Pay sh.ents) :=
  match getC st sh.csts [] with
  | some ρ => match getL st sh.ents ρ with
    | some (p, ρ) => bif injR ρ && keysIn sh.names ρ then some p else none
    | none => none
  | none => none

def packC : List (Nat × Ty) → St → St
  | [], st => st
  | (n, t) :: l, st => packC l (st.put n (some ⟨t, dflt t⟩))
def packE1 : (e : Ent) → denE e → St → St
  | .var n t, x, st => st.put n (some ⟨t, x⟩)
  | .box b t, x, st => { st with heap := upd st.heap b (some (.box t x)) }
  | .arr b t, x, st => { st with heap := upd st.heap b (some (.arr t x)) }
def packL : (l : List Ent) → Pay l → St → St
  | [], _, st => st
  | [e], x, st => packE1 e x st
  | e :: e' :: l, p, st => packL (e' :: l) p.2 (packE1 e p.1 st)
def pack (sh : Shape) (p : Pay sh.ents) : St := packL sh.ents p (packC sh.csts ⟨fun _ => none, fun _ => none, fun n => memN n sh.names⟩)

end Go.VM

namespace Go.VM
open Go Go.RowKit

section
variable {P : Program} {base : Nat} {w0 w : World} {F0 F : Nat → Prop} {ι : Nat → Option Ref} {N : Nat} {st : St} {a : Act}

theorem hasV_look {ρ : Ren} {k n : Nat} (h : look ρ k = some (some n)) : hasV n ρ = true := by
  induction ρ with
  | nil => simp [look] at h
  | cons p l ih =>
    obtain ⟨k', v⟩ := p
    simp only [look] at h
    cases e : Nat.beq k k' <;> rw [e] at h
    · have := ih h
      cases v <;> simp [hasV, this]
    · simp only [cond_true, Option.some.injEq] at h; subst h
      simp [hasV]

theorem injR_ok {ρ : Ren} (h : injR ρ = true) {k k' n : Nat} (h1 : look ρ k = some (some n)) (h2 : look ρ k' = some (some n)) : k = k' := by
  induction ρ with
  | nil => simp [look] at h1
  | cons p l ih =>
    obtain ⟨q, v⟩ := p
    have hl : injR l = true := by cases v <;> simp [injR] at h <;> first | exact h | exact h.2
    simp only [look] at h1 h2
    cases e1 : Nat.beq k q <;> rw [e1] at h1 <;> cases e2 : Nat.beq k' q <;> rw [e2] at h2 <;> simp only [cond_true, cond_false, Option.some.injEq] at h1 h2
    · exact ih hl h1 h2
    · subst h2
      simp only [injR, Bool.and_eq_true, Bool.not_eq_true'] at h
      rw [hasV_look h1] at h; simp at h
    · subst h1
      simp only [injR, Bool.and_eq_true, Bool.not_eq_true'] at h
      rw [hasV_look h2] at h; simp at h
    · rw [Nat.beq_eq] at e1 e2; rw [e1, e2]

theorem keysIn_ok {l : List Nat} {ρ : Ren} (h : keysIn l ρ = true) {k : Nat} {v : Option Nat} (hk : look ρ k = some v) : memN k l = true := by
  induction ρ with
  | nil => simp [look] at hk
  | cons p ρ ih =>
    obtain ⟨q, u⟩ := p
    simp only [keysIn, Bool.and_eq_true] at h
    simp only [look] at hk
    cases e : Nat.beq k q <;> rw [e] at hk
    · exact ih h.2 hk
    · rw [Nat.beq_eq] at e; subst e; exact h.1

def Grows (ρ ρ' : Ren) : Prop := ∀ n u, look ρ n = some u → look ρ' n = some u

/-- The slots of a state under given names. -/
def EnvOk (w : World) (F : Nat → Prop) (ι : Nat → Option Ref) (a : Act) (env : Nat → Option V) : Prop := ∀ s v, env s = some v → vrep w F ι v.t v.x (a.tmps.getD s undef)

/-- Each block of the new heap is one of the old heap, or nil. -/
def HeapTo (w : World) (base : Nat) (F : Nat → Prop) (ρ : Ren) (ι : Nat → Option Ref) (st : St) (hp : Nat → Option Blk) : Prop :=
  ∀ k blk, hp k = some blk → (∃ d k0 r, look ρ k = some (some d) ∧ st.heap d = some k0 ∧ ι d = some r ∧ brep w base F (renamed ρ ι) r blk) ∨ (look ρ k = some none ∧ ∃ t, valT t = true ∧ blk = .arr t none)

theorem vrep_of_tags {t u : Ty} {x : den u} {y : den t} {ι' : Nat → Option Ref} {v : Value} (ht : valT t = true) (ha : isAggT u = isAggT t) (hc : cellT u = cellT t) (hv : vrep w F ι u x v) (h : ∀ cs, rep w F ι u x cs → rep w F ι' t y cs) : vrep w F ι' t y v := by
  rcases valT_or ht with h1 | h1
  · rw [vrep_agg h1]
    rw [vrep_agg (ha.trans h1)] at hv
    obtain ⟨cs, rfl, hv⟩ := hv
    exact ⟨cs, rfl, h _ hv⟩
  · rw [vrep_cell h1]
    rw [vrep_cell (hc.trans h1)] at hv
    exact h _ hv

theorem mt_vrep {ρ : Ren} {t u : Ty} {x : den u} {y : den t} {c : Ren} {v : Value} (ht : valT t = true) (hc : ∀ k v, (k, v) ∈ c → look ρ k = some v) (hv : vrep w F ι u x v) (h : mt t u x = some (y, c)) : vrep w F (renamed ρ ι) t y v := by
  have htag := mt_tags h
  exact vrep_of_tags ht htag.1 htag.2 hv fun cs hr => (mt_ok _ _ _ _ _ _ hc hr h).1

theorem getC_ok : ∀ (l : List (Nat × Ty)) (ρ ρ' : Ren), getC st l ρ = some ρ' → Grows ρ ρ' ∧
    ∀ ρ₂, Grows ρ' ρ₂ → Sim base w0 F0 F ι st a w → ∀ st', EnvOk w F (renamed ρ₂ ι) a st'.env → EnvOk w F (renamed ρ₂ ι) a (packC l st').env ∧ (packC l st').heap = st'.heap ∧ (packC l st').used = st'.used
  | [], ρ, ρ', h => by
    simp only [getC, Option.some.injEq] at h; subst h
    exact ⟨fun _ _ h => h, fun ρ₂ _ _ st' he => ⟨he, rfl, rfl⟩⟩
  | (n, t) :: l, ρ, ρ', h => by
    simp only [getC] at h
    split at h <;> try (simp at h; done)
    rename_i v hv
    split at h <;> try (simp at h; done)
    rename_i y c hm
    cases hvu : (valT t && unitT t) <;> rw [hvu] at h <;> simp only [cond_true, cond_false, reduceCtorEq] at h
    simp only [Bool.and_eq_true] at hvu
    obtain ⟨hval, hun⟩ := hvu
    split at h <;> try (simp at h; done)
    rename_i ρ1 hadd
    obtain ⟨g1, g2⟩ := addR_ok _ _ _ hadd
    obtain ⟨k1, k2⟩ := getC_ok l ρ1 ρ' h
    refine ⟨fun n u hu => k1 _ _ (g1 _ _ hu), fun ρ₂ hρ hs st' he => ?_⟩
    have hy : y = dflt t := unitT_ok hun _ _
    have hnew : EnvOk w F (renamed ρ₂ ι) a (st'.put n (some ⟨t, dflt t⟩)).env := by
      intro s u hu
      rcases upd_some hu with ⟨rfl, e⟩ | ⟨_, e⟩
      · cases e
        rw [← hy]
        exact mt_vrep hval (fun k v hm => hρ _ _ (k1 _ _ (g2 k v hm))) (hs.env _ _ hv) hm
      · exact he _ _ e
    obtain ⟨q1, q2, q3⟩ := k2 ρ₂ hρ hs _ hnew
    exact ⟨q1, q2, q3⟩

theorem getE_ok {e : Ent} {ρ ρ' : Ren} {x : denE e} (h : getE st ρ e = some (x, ρ')) : Grows ρ ρ' ∧
    ∀ ρ₂, Grows ρ' ρ₂ → Sim base w0 F0 F ι st a w → ∀ st', EnvOk w F (renamed ρ₂ ι) a st'.env → HeapTo w base F ρ₂ ι st st'.heap →
      EnvOk w F (renamed ρ₂ ι) a (packE1 e x st').env ∧ HeapTo w base F ρ₂ ι st (packE1 e x st').heap ∧ (packE1 e x st').used = st'.used := by
  cases e with
  | var n t =>
    simp only [getE] at h
    split at h <;> try (simp at h; done)
    rename_i v hv
    split at h <;> try (simp at h; done)
    rename_i y c hm
    cases hval : valT t <;> rw [hval] at h <;> simp only [cond_true, cond_false, reduceCtorEq] at h
    split at h <;> try (simp at h; done)
    rename_i ρ1 hadd
    simp only [Option.some.injEq, Prod.mk.injEq] at h
    obtain ⟨rfl, rfl⟩ := h
    obtain ⟨g1, g2⟩ := addR_ok _ _ _ hadd
    refine ⟨g1, fun ρ₂ hρ hs st' he hh => ⟨?_, hh, rfl⟩⟩
    intro s u hu
    rcases upd_some hu with ⟨rfl, e⟩ | ⟨_, e⟩
    · cases e
      exact mt_vrep hval (fun k v hm => hρ _ _ (g2 k v hm)) (hs.env _ _ hv) hm
    · exact he _ _ e
  | box b t =>
    simp only [getE] at h
    split at h <;> try (simp at h; done)
    rename_i d hd
    split at h <;> try (simp at h; done)
    rename_i u z hb
    split at h <;> try (simp at h; done)
    rename_i y c hm
    split at h <;> try (simp at h; done)
    rename_i ρ1 hadd
    simp only [Option.some.injEq, Prod.mk.injEq] at h
    obtain ⟨rfl, rfl⟩ := h
    obtain ⟨g1, g2⟩ := addR_ok _ _ _ hadd
    refine ⟨g1, fun ρ₂ hρ hs st' he hh => ⟨he, ?_, rfl⟩⟩
    intro k blk hk
    rcases upd_some hk with ⟨rfl, e⟩ | ⟨_, e⟩
    · cases e
      obtain ⟨r, hr, q⟩ := hs.heap _ _ hb
      refine .inl ⟨d, _, r, hρ _ _ (g1 _ _ hd), hb, hr, ?_⟩
      obtain ⟨q1, q2, q3, q4, q5, cells, el, q6, q7⟩ := q
      have htag := mt_tags hm
      exact ⟨q1, q2, q3, q4, by simp only [valT, ← htag.1, ← htag.2]; exact q5, cells, el, q6, (mt_ok _ _ _ _ _ _ (fun k v hm => hρ _ _ (g2 k v hm)) q7 hm).1⟩
    · exact hh _ _ e
  | arr b t =>
    simp only [getE] at h
    split at h
    · rename_i d hd
      split at h <;> try (simp at h; done)
      rename_i u l hb
      split at h <;> try (simp at h; done)
      rename_i y hy
      obtain ⟨hfr, h⟩ := bif_some h
      simp only [Prod.mk.injEq] at h
      obtain ⟨rfl, rfl⟩ := h
      obtain ⟨e, rfl⟩ := castT_some hy
      cases e
      refine ⟨fun _ _ h => h, fun ρ₂ hρ hs st' he hh => ⟨he, ?_, rfl⟩⟩
      intro k blk hk
      rcases upd_some hk with ⟨rfl, e⟩ | ⟨_, e⟩
      · cases e
        obtain ⟨r, hr, q0, q⟩ := hs.heap _ _ hb
        refine .inl ⟨d, _, r, hρ _ _ hd, hb, hr, q0, ?_⟩
        cases l with
        | none => exact q
        | some l =>
          obtain ⟨q1, q2, q3, q4, q5, q6, cells, el, q7, q8, q9⟩ := q
          exact ⟨q1, q2, q3, q4, q5, q6, cells, el, q7, q8, fun i y hy => rep_frozen _ _ _ hfr (q9 i y hy)⟩
      · exact hh _ _ e
    · rename_i hd
      obtain ⟨hval, h⟩ := bif_some h
      simp only [Prod.mk.injEq] at h
      obtain ⟨rfl, rfl⟩ := h
      refine ⟨fun _ _ h => h, fun ρ₂ hρ hs st' he hh => ⟨he, ?_, rfl⟩⟩
      intro k blk hk
      rcases upd_some hk with ⟨rfl, e⟩ | ⟨_, e⟩
      · cases e
        exact .inr ⟨hρ _ _ hd, t, hval, rfl⟩
      · exact hh _ _ e
    · simp at h

theorem getL_ok : ∀ (l : List Ent) (ρ ρ' : Ren) (p : Pay l), getL st l ρ = some (p, ρ') → Grows ρ ρ' ∧
    ∀ ρ₂, Grows ρ' ρ₂ → Sim base w0 F0 F ι st a w → ∀ st', EnvOk w F (renamed ρ₂ ι) a st'.env → HeapTo w base F ρ₂ ι st st'.heap →
      EnvOk w F (renamed ρ₂ ι) a (packL l p st').env ∧ HeapTo w base F ρ₂ ι st (packL l p st').heap ∧ (packL l p st').used = st'.used
  | [], ρ, ρ', p, h => by
    simp only [getL, Option.some.injEq, Prod.mk.injEq] at h
    obtain ⟨_, rfl⟩ := h
    exact ⟨fun _ _ h => h, fun _ _ _ st' he hh => ⟨he, hh, rfl⟩⟩
  | [e], ρ, ρ', p, h => getE_ok h
  | e :: e' :: l, ρ, ρ', p, h => by
    simp only [getL] at h
    split at h <;> try (simp at h; done)
    rename_i x ρ1 h1
    split at h <;> try (simp at h; done)
    rename_i q ρ2 h2
    simp only [Option.some.injEq, Prod.mk.injEq] at h
    obtain ⟨rfl, rfl⟩ := h
    obtain ⟨a1, a2⟩ := getE_ok (base := base) (w0 := w0) (w := w) (F0 := F0) (F := F) (ι := ι) (a := a) h1
    obtain ⟨b1, b2⟩ := getL_ok (e' :: l) ρ1 ρ2 q h2
    refine ⟨fun n u hu => b1 _ _ (a1 _ _ hu), fun ρ₂ hρ hs st' he hh => ?_⟩
    obtain ⟨c1, c2, c3⟩ := a2 ρ₂ (fun n u hu => hρ _ _ (b1 _ _ hu)) hs st' he hh
    obtain ⟨d1, d2, d3⟩ := b2 ρ₂ hρ hs _ c1 c2
    exact ⟨d1, d2, d3.trans c3⟩

theorem unpack_ok {sh : Shape} {p : Pay sh.ents} (h : unpack sh st = some p) (hok : Ok base w0 F0 N st a w) : Ok base w0 F0 N (pack sh p) a w := by
  obtain ⟨hN, F, ι, hs⟩ := hok
  unfold unpack at h
  split at h <;> try (simp at h; done)
  rename_i ρ1 h1
  split at h <;> try (simp at h; done)
  rename_i q ρ h2
  obtain ⟨hc, rfl⟩ := bif_some h
  simp only [Bool.and_eq_true] at hc
  obtain ⟨hinj, hkeys⟩ := hc
  obtain ⟨a1, a2⟩ := getC_ok (base := base) (w0 := w0) (w := w) (F0 := F0) (F := F) (ι := ι) (a := a) _ _ _ h1
  obtain ⟨b1, b2⟩ := getL_ok (base := base) (w0 := w0) (w := w) (F0 := F0) (F := F) (ι := ι) (a := a) _ _ _ _ h2
  obtain ⟨c1, c2, c3⟩ := a2 ρ b1 hs ⟨fun _ => none, fun _ => none, fun n => memN n sh.names⟩ (by intro s v hv; simp at hv)
  obtain ⟨d1, d2, d3⟩ := b2 ρ (fun _ _ h => h) hs _ c1 (by rw [c2]; intro k blk hk; simp at hk)
  refine ⟨hN, F, renamed ρ ι, ⟨d1, ?_, ?_, ?_, hs.fsize, hs.fin, hs.below, hs.size, hs.defers⟩⟩
  · intro k blk hk
    rcases d2 k blk hk with ⟨d, k0, r, e1, e2, e3, e4⟩ | ⟨e1, t, ht, rfl⟩
    · exact ⟨r, by simp only [renamed, e1]; exact e3, e4⟩
    · exact ⟨nilRef, by simp only [renamed, e1], ht, rfl⟩
  · intro b r hb
    have hu : (pack sh q).used = fun n => memN n sh.names := by show (packL _ _ _).used = _; rw [d3, c3]
    rw [hu]
    simp only [renamed] at hb
    split at hb
    · rename_i e; exact keysIn_ok hkeys e
    · rename_i e; exact keysIn_ok hkeys e
    · simp at hb
  · intro b c k k' r r' hbc hb hc' hr hr' hn hn'
    rcases d2 b k hb with ⟨d, k0, s, e1, e2, e3, e4⟩ | ⟨e1, t, ht, rfl⟩
    · rcases d2 c k' hc' with ⟨d', k0', s', f1, f2, f3, f4⟩ | ⟨f1, t', ht', rfl⟩
      · have hdd : d ≠ d' := by
          rintro rfl
          exact hbc (injR_ok hinj e1 f1)
        simp only [renamed, e1] at hr
        simp only [renamed, f1] at hr'
        exact hs.apart d d' k0 k0' r r' hdd e2 f2 hr hr' hn hn'
      · simp only [renamed, f1, Option.some.injEq] at hr'
        subst hr'
        simp [nilRef] at hn'
    · simp only [renamed, e1, Option.some.injEq] at hr
      subst hr
      simp [nilRef] at hn

end
end Go.VM

namespace Go.VM
open Go Go.RowKit

def stepW (P : Program) (N : Nat) (ad : Nat → Bool) (ops : Array Oper) (bad : Nat → List Nat) (i : Nat) (K : St → Prop) (st : St) : Prop := regW P N ad ops bad [i] K st

theorem regW_cons {P : Program} {N : Nat} {ad : Nat → Bool} {ops : Array Oper} {bad : Nat → List Nat} (i : Nat) (r : List Nat) (K : St → Prop) (st : St) : regW P N ad ops bad (i :: r) K st = stepW P N ad ops bad i (regW P N ad ops bad r K) st := by
  simp only [stepW, regW]

def skipV : V := ⟨.tup .unit, ()⟩

def sdeed (P : Program) (N : Nat) (ad : Nat → Bool) (ops : Array Oper) (bad : Nat → List Nat) (i : Nat) (st : St) : Option Deed :=
  match ops.toList[i]? with
  | none => some (.put True none skipV none)
  | some o => bif okOp (bad i) st.val o.op then match o.guard with
    | none => deed P N (ad i) o st
    | some (j, want) => match dstOf ops j with
      | some dj => match st.env dj with
        | some ⟨.bool, b⟩ => bif (b == want) then deed P N (ad i) o st else some (.put True o.dst skipV none)
        | some ⟨.tup .unit, _⟩ => some (.put True o.dst skipV none)
        | _ => none
      | none => none
    else none

theorem put_self {st : St} {d : Nat} {v : Option V} (h : st.env d = v) : st.put d v = st := by
  have : upd st.env d v = st.env := by
    funext m
    by_cases e : m = d
    · subst e; rw [upd_same, h]
    · rw [upd_other _ _ _ _ e]
  simp only [St.put, this]

theorem skip_does (st : St) (d : Option Nat) : st.skip d = st.does d skipV none := by cases d <;> rfl

theorem stepW_deed {P : Program} {N : Nat} {ad : Nat → Bool} {ops : Array Oper} {bad : Nat → List Nat} {i : Nat} (hq : ∀ o, ops.toList[i]? = some o → quiet o.op = true) (K : St → Prop) (st : St) :
    stepW P N ad ops bad i K st ↔ Deed.wpO P K st (sdeed P N ad ops bad i st) := by
  unfold stepW sdeed
  simp only [regW]
  cases ho : ops.toList[i]? with
  | none => simp [Deed.wpO, Deed.wp, St.does]
  | some o =>
    have hq := hq o ho
    simp only
    cases okOp (bad i) st.val o.op with
    | false => exact Iff.rfl
    | true =>
      simp only [cond_true]
      cases o.guard with
      | none => exact opW_deed hq K st
      | some jw =>
        obtain ⟨j, want⟩ := jw
        simp only
        cases dstOf ops j with
        | none => exact Iff.rfl
        | some dj =>
          simp only
          cases he : st.env dj with
          | none => exact Iff.rfl
          | some v =>
            obtain ⟨t, x⟩ := v
            cases t with
            | bool =>
              have hp : st.put dj (some ⟨.bool, x⟩) = st := put_self he
              cases x <;> cases want <;> simp only [brV, hp, cond_true, cond_false] <;> first
                | exact opW_deed hq K st
                | (simp [Deed.wpO, Deed.wp, skip_does])
            | tup c =>
              cases c <;> first | exact Iff.rfl | (simp [Deed.wpO, Deed.wp, skip_does])
            | _ => exact Iff.rfl

/-- The slots that an operation reads. -/
def tmpsOf : List Operand → List Nat
  | [] => []
  | .tmp t :: l => t :: tmpsOf l
  | _ :: l => tmpsOf l
def readsOf (ops : Array Oper) (o : Oper) : List Nat :=
  tmpsOf o.op.operands.toList ++ match o.guard with
    | some (j, _) => match dstOf ops j with
      | some d => [d]
      | none => []
    | none => []

theorem val_agree {st st' : St} : ∀ (l : List Operand), (∀ t, t ∈ tmpsOf l → st.env t = st'.env t) → ∀ x, x ∈ l → st.val x = st'.val x
  | [], _, x, hx => by simp at hx
  | y :: l, h, x, hx => by
    have ih := val_agree (st := st) (st' := st') l
    cases y with
    | tmp t =>
      simp only [tmpsOf] at h
      rcases List.mem_cons.1 hx with rfl | hx
      · exact h t (by simp)
      · exact ih (fun u hu => h u (by simp [hu])) x hx
    | _ =>
      simp only [tmpsOf] at h
      rcases List.mem_cons.1 hx with rfl | hx
      · rfl
      · exact ih h x hx

theorem okIds_congr {bad : List Nat} {g g' : Operand → Option V} : ∀ (l : List Operand), (∀ x, x ∈ l → g x = g' x) → okIds bad g l = okIds bad g' l
  | [], _ => rfl
  | x :: l, h => by simp only [okIds]; rw [h x (by simp), okIds_congr l (fun y hy => h y (by simp [hy]))]

theorem okIds_mem {bad : List Nat} {g : Operand → Option V} : ∀ (l : List Operand), okIds bad g l = true → ∀ x, x ∈ l → ∀ v, g x = some v → ∀ b, b ∈ ids v.t → memN b bad = false
  | [], _, x, hx => by simp at hx
  | y :: l, h, x, hx => by
    simp only [okIds, Bool.and_eq_true] at h
    rcases List.mem_cons.1 hx with rfl | hx
    · intro v hv b hb
      rw [hv] at h
      have := List.all_eq_true.1 h.1 b hb
      simpa using this
    · exact okIds_mem l h.2 x hx

theorem okOp_congr {bad : List Nat} {g g' : Operand → Option V} {op : Op} (h : ∀ x, x ∈ op.operands.toList → g x = g' x) : okOp bad g op = okOp bad g' op := by
  unfold okOp
  rw [okIds_congr _ h]
  congr 1
  cases op with
  | store t x v =>
    cases x with
    | tmp s => simp only [okSt]; rw [h (.tmp s) (by simp [Op.operands])]
    | _ => rfl
  | _ => rfl

theorem okOp_ids {bad : List Nat} {g : Operand → Option V} {op : Op} (h : okOp bad g op = true) : okIds bad g op.operands.toList = true := by
  unfold okOp at h; rw [Bool.and_eq_true] at h; exact h.1

theorem deed_congr {P : Program} {N : Nat} {ow : Bool} {o : Oper} {st st' : St} (hv : ∀ x, x ∈ o.op.operands.toList → st.val x = st'.val x) (hh : Agree st.val st.heap st'.heap o.op.operands.toList) (hu : ∀ d, o.dst = some d → st.used d = st'.used d) :
    deed P N ow o st = deed P N ow o st' := by
  obtain ⟨dst, op, ty, pos, aft, grd⟩ := o
  unfold deed
  cases dst with
  | none => rfl
  | some d =>
    simp only
    cases Nat.blt d N with
    | false => rfl
    | true =>
      simp only [cond_true]
      have hu := hu d rfl
      have hr : ∀ r, deedR st d r = deedR st' d r := by
        intro r
        cases r <;> simp only [deedR, hu]
      have pure : (match evP P st.val st.heap op with
          | some r => deedR st d r
          | none => none) = (match evP P st'.val st'.heap op with
          | some r => deedR st' d r
          | none => none) := by
        rw [evP_congr hv hh]
        simp only [hr]
      cases op with
      | call c =>
        obtain ⟨cal, args, ts⟩ := c
        cases cal with
        | value f =>
          have ho : (Op.call ⟨.value f, args, ts⟩).operands.toList = f :: args.toList := by simp [Op.operands, Call.operands]
          simp only [ho] at hv hh
          simp only
          rw [← hv f (by simp)]
          have e2 : ∀ rt, argsV P st.val (bif flat rt then st.heap else noHeap) args.toList ts.toList = argsV P st'.val (bif flat rt then st'.heap else noHeap) args.toList ts.toList := by
            intro rt
            refine argsV_congr _ _ (fun x hx => hv x (by simp at hx ⊢; exact .inr hx)) (fun x hx v hv b hb => ?_)
            cases flat rt
            · rfl
            · exact hh x (by simp at hx ⊢; exact .inr hx) v hv b hb
          have e3 : argsV P st.val st.heap args.toList ts.toList = argsV P st'.val st'.heap args.toList ts.toList :=
            argsV_congr _ _ (fun x hx => hv x (by simp at hx ⊢; exact .inr hx)) (fun x hx v hv b hb => hh x (by simp at hx ⊢; exact .inr hx) v hv b hb)
          simp only [e2, e3, hu]
        | invoke x m => exact pure
        | builtin b => exact pure
      | _ => exact pure

theorem sdeed_congr {P : Program} {N : Nat} {ad : Nat → Bool} {ops : Array Oper} {bad : Nat → List Nat} {i : Nat} {o : Oper} {st st' : St} (ho : ops.toList[i]? = some o) (he : ∀ t, t ∈ readsOf ops o → st.env t = st'.env t)
    (hh : ∀ b, memN b (bad i) = false → st.heap b = st'.heap b) (hu : ∀ d, o.dst = some d → st.used d = st'.used d) : sdeed P N ad ops bad i st = sdeed P N ad ops bad i st' := by
  unfold sdeed
  rw [ho]
  simp only
  have hv : ∀ x, x ∈ o.op.operands.toList → st.val x = st'.val x := val_agree _ (fun t ht => he t (by simp [readsOf, ht]))
  rw [← okOp_congr hv]
  cases hok : okOp (bad i) st.val o.op with
  | false => rfl
  | true =>
    simp only [cond_true]
    have hd := deed_congr (P := P) (N := N) (ow := ad i) hv (fun x hx v hv b hb => hh b (okIds_mem _ (okOp_ids hok) x hx v hv b hb)) hu
    cases hg : o.guard with
    | none => exact hd
    | some jw =>
      obtain ⟨j, want⟩ := jw
      simp only
      cases hj : dstOf ops j with
      | none => rfl
      | some dj =>
        simp only
        rw [← he dj (by simp [readsOf, hg, hj]), hd]

def Deed.of (o : Oper) : Deed → Prop
  | .put _ d _ _ => d = o.dst
  | .call _ d => o.dst = some d ∧ isCall o.op = true

theorem deed_dst {P : Program} {N : Nat} {ow : Bool} {o : Oper} {st : St} {x : Deed} (h : deed P N ow o st = some x) : x.of o := by
  unfold deed at h
  split at h <;> try (simp at h; done)
  rename_i d hd
  cases e : Nat.blt d N <;> rw [e] at h
  · simp at h
  simp only [cond_true] at h
  split at h
  · rename_i f args ts hop
    split at h <;> try (simp at h; done)
    cases ow with
    | true =>
      simp only [cond_true] at h
      split at h <;> try (simp at h; done)
      split at h <;> try (simp at h; done)
      cases e2 : st.used d <;> rw [e2] at h <;> simp at h
      subst h
      exact ⟨hd, by rw [hop]; rfl⟩
    | false =>
    simp only [cond_false] at h
    split at h <;> try (simp at h; done)
    split at h <;> try (simp at h; done)
    simp only [Option.some.injEq] at h; subst h
    exact ⟨hd, by rw [hop]; rfl⟩
  · split at h <;> try (simp at h; done)
    rename_i r _
    cases r with
    | val v => simp only [deedR, Option.some.injEq] at h; subst h; exact hd.symm
    | cond c v => simp only [deedR, Option.some.injEq] at h; subst h; exact hd.symm
    | new k => simp only [deedR] at h; cases e : st.used d <;> rw [e] at h <;> simp at h; subst h; exact hd.symm
    | newc c k => simp only [deedR] at h; cases e : st.used d <;> rw [e] at h <;> simp at h; subst h; exact hd.symm

theorem sdeed_dst {P : Program} {N : Nat} {ad : Nat → Bool} {ops : Array Oper} {bad : Nat → List Nat} {i : Nat} {o : Oper} {st : St} (ho : ops.toList[i]? = some o) {x : Deed} (h : sdeed P N ad ops bad i st = some x) : x.of o := by
  unfold sdeed at h
  rw [ho] at h
  simp only at h
  cases hok : okOp (bad i) st.val o.op <;> rw [hok] at h
  · simp at h
  simp only [cond_true] at h
  split at h
  · exact deed_dst h
  · rename_i j want _
    split at h <;> try (simp at h; done)
    split at h <;> try (simp at h; done)
    · rename_i b _
      cases e : (b == want) <;> rw [e] at h
      · simp only [cond_false, Option.some.injEq] at h; subst h; rfl
      · exact deed_dst h
    · simp only [Option.some.injEq] at h; subst h; rfl

theorem upd_comm {α : Type} (f : Nat → α) {a b : Nat} (x y : α) (h : a ≠ b) : upd (upd f a x) b y = upd (upd f b y) a x := by
  funext m
  by_cases e1 : m = a
  · subst e1; rw [upd_same, upd_other _ _ _ _ h, upd_same]
  · by_cases e2 : m = b
    · subst e2; rw [upd_same, upd_other _ _ _ _ e1, upd_same]
    · rw [upd_other _ _ _ _ e2, upd_other _ _ _ _ e1, upd_other _ _ _ _ e1, upd_other _ _ _ _ e2]

theorem does_comm (st : St) {d d' : Option Nat} {v v' : V} {k k' : Option Blk} (h : ∀ x, d = some x → d' = some x → False) : (st.does d v k).does d' v' k' = (st.does d' v' k').does d v k := by
  cases d with
  | none => rfl
  | some d =>
    cases d' with
    | none => rfl
    | some d' =>
      have hne : d ≠ d' := fun e => h d rfl (by rw [e])
      cases k <;> cases k' <;> simp only [St.does, St.put, St.new] <;> congr 1 <;> first
        | exact upd_comm _ _ _ hne
        | rfl

theorem does_env {st : St} {d : Option Nat} {v : V} {k : Option Blk} {t : Nat} (h : d ≠ some t) : (st.does d v k).env t = st.env t ∧ (st.does d v k).heap t = st.heap t ∧ (st.does d v k).used t = st.used t := by
  cases d with
  | none => exact ⟨rfl, rfl, rfl⟩
  | some d =>
    have hne : t ≠ d := fun e => h (by rw [e])
    cases k with
    | none => exact ⟨upd_other _ _ _ _ hne, rfl, rfl⟩
    | some k => exact ⟨upd_other _ _ _ _ hne, upd_other _ _ _ _ hne, upd_other _ _ _ _ hne⟩

/-- Two operations that may change places. -/
structure Free (ops : Array Oper) (bad : Nat → List Nat) (i j : Nat) (o o' : Oper) : Prop where
  hi : ops.toList[i]? = some o
  hj : ops.toList[j]? = some o'
  qi : quiet o.op = true
  qj : quiet o'.op = true
  calls : ¬ (isCall o.op = true ∧ isCall o'.op = true)
  ri : ∀ t, t ∈ readsOf ops o → o'.dst ≠ some t
  rj : ∀ t, t ∈ readsOf ops o' → o.dst ≠ some t
  dd : ∀ x, o.dst = some x → o'.dst = some x → False
  bi : ∀ d, o'.dst = some d → memN d (bad i) = true
  bj : ∀ d, o.dst = some d → memN d (bad j) = true

theorem swap {P : Program} {N : Nat} {ad : Nat → Bool} {ops : Array Oper} {bad : Nat → List Nat} {i j : Nat} {o o' : Oper} (h : Free ops bad i j o o') {K : St → Prop} {st : St} (hw : stepW P N ad ops bad i (stepW P N ad ops bad j K) st) :
    stepW P N ad ops bad j (stepW P N ad ops bad i K) st := by
  have qi : ∀ x, ops.toList[i]? = some x → quiet x.op = true := by intro x hx; rw [h.hi] at hx; cases hx; exact h.qi
  have qj : ∀ x, ops.toList[j]? = some x → quiet x.op = true := by intro x hx; rw [h.hj] at hx; cases hx; exact h.qj
  -- the one does not see what the other does
  have ci : ∀ v k, sdeed P N ad ops bad i (st.does o'.dst v k) = sdeed P N ad ops bad i st := fun v k =>
    (sdeed_congr h.hi (fun t ht => (does_env (h.ri t ht)).1.symm) (fun b hb => (does_env (fun e => by have := h.bi b e; rw [hb] at this; simp at this)).2.1.symm)
      (fun d hd => (does_env (fun e => h.dd d hd e)).2.2.symm)).symm
  have cj : ∀ v k, sdeed P N ad ops bad j (st.does o.dst v k) = sdeed P N ad ops bad j st := fun v k =>
    (sdeed_congr h.hj (fun t ht => (does_env (h.rj t ht)).1.symm) (fun b hb => (does_env (fun e => by have := h.bj b e; rw [hb] at this; simp at this)).2.1.symm)
      (fun d hd => (does_env (fun e => h.dd d e hd)).2.2.symm)).symm
  rw [stepW_deed qi] at hw
  rw [stepW_deed qj]
  cases hdi : sdeed P N ad ops bad i st with
  | none => rw [hdi] at hw; exact hw.elim
  | some x =>
    rw [hdi] at hw
    have hxi := sdeed_dst h.hi hdi
    cases hdj : sdeed P N ad ops bad j st with
    | none =>
      exfalso
      cases x with
      | put c d v k =>
        simp only [Deed.of] at hxi; subst hxi
        obtain ⟨_, hw⟩ := hw
        rw [stepW_deed qj, cj, hdj] at hw; exact hw
      | call c d =>
        obtain ⟨hd, _⟩ := hxi
        have hw : c.wp P d fun v k => stepW P N ad ops bad j K (st.does (some d) v k) := hw
        obtain ⟨v, k, hr⟩ := CallK.ex hw
        rw [← hd, stepW_deed qj, cj, hdj] at hr; exact hr
    | some y =>
      have hxj := sdeed_dst h.hj hdj
      cases x with
      | put c d v k =>
        simp only [Deed.of] at hxi; subst hxi
        obtain ⟨hc, hw⟩ := hw
        rw [stepW_deed qj, cj, hdj] at hw
        cases y with
        | put c' d' v' k' =>
          simp only [Deed.of] at hxj; subst hxj
          obtain ⟨hc', hw⟩ := hw
          refine ⟨hc', ?_⟩
          rw [stepW_deed qi, ci, hdi]
          exact ⟨hc, by rw [does_comm _ (fun x a b => h.dd x b a)]; exact hw⟩
        | call c' d' =>
          obtain ⟨hd', _⟩ := hxj
          have hw : c'.wp P d' fun v' k' => K ((st.does o.dst v k).does (some d') v' k') := hw
          show c'.wp P d' fun v' k' => stepW P N ad ops bad i K (st.does (some d') v' k')
          refine CallK.mono hw fun v' k' hr => ?_
          rw [← hd', stepW_deed qi, ci, hdi]
          refine ⟨hc, ?_⟩
          rw [does_comm _ (fun x a b => h.dd x b a), hd']; exact hr
      | call c d =>
        obtain ⟨hd, hcall⟩ := hxi
        have hw : c.wp P d fun v k => stepW P N ad ops bad j K (st.does (some d) v k) := hw
        cases y with
        | put c' d' v' k' =>
          simp only [Deed.of] at hxj; subst hxj
          have key : ∀ v k, stepW P N ad ops bad j K (st.does (some d) v k) → c' ∧ K ((st.does o'.dst v' k').does (some d) v k) := by
            intro v k hr
            rw [← hd, stepW_deed qj, cj, hdj] at hr
            obtain ⟨hc', hr⟩ := hr
            refine ⟨hc', ?_⟩
            rw [does_comm _ (fun x a b => h.dd x a b), hd] at hr; exact hr
          obtain ⟨v, k, hr⟩ := CallK.ex hw
          refine ⟨(key v k hr).1, ?_⟩
          rw [stepW_deed qi, ci, hdi]
          show c.wp P d fun v k => K ((st.does o'.dst v' k').does (some d) v k)
          exact CallK.mono hw fun v k hr => (key v k hr).2
        | call c' d' => exact (h.calls ⟨hcall, hxj.2⟩).elim

/-- Two stores to different blocks. -/
structure FreeS (ops : Array Oper) (bad : Nat → List Nat) (i j : Nat) (o o' : Oper) : Prop where
  hi : ops.toList[i]? = some o
  hj : ops.toList[j]? = some o'
  gi : o.guard = none
  gj : o'.guard = none
  di : o.dst = none
  dj : o'.dst = none
  st : ∃ a s v a' s' v', o.op = .store a (.tmp s) v ∧ o'.op = .store a' (.tmp s') v' ∧ s ≠ s'
  bi : memN 4294967295 (bad i) = true
  bj : memN 4294967295 (bad j) = true

theorem storeV_ref {hp : Nat → Option Blk} {n b o : Nat} {u : den (.ref b o)} {x : V} {c : Nat} {k : Blk} (h : storeV hp n ⟨.ref b o, u⟩ x = some (c, k)) : c = b := by
  unfold storeV at h
  cases e : (Nat.beq n (width x.t) && valT x.t && Nat.blt 0 n) <;> rw [e] at h
  · simp at h
  simp only [cond_true] at h
  split at h <;> try (simp at h; done)
  split at h <;> simp at h
  exact h.1.symm

theorem storeV_congr {hp hp' : Nat → Option Blk} {n b o : Nat} {u : den (.ref b o)} {x : V} (h : hp b = hp' b) : storeV hp n ⟨.ref b o, u⟩ x = storeV hp' n ⟨.ref b o, u⟩ x := by
  unfold storeV
  simp only [h]

/-- What a store in a drawn region does. -/
theorem stepS {P : Program} {N : Nat} {ad : Nat → Bool} {ops : Array Oper} {bad : Nat → List Nat} {i : Nat} {o : Oper} {a : TypeId} {s : Nat} {v : Operand} (ho : ops.toList[i]? = some o) (hg : o.guard = none) (hd : o.dst = none) (hop : o.op = .store a (.tmp s) v)
    (hb : memN 4294967295 (bad i) = true) (K : St → Prop) (st : St) :
    stepW P N ad ops bad i K st ↔ okIds (bad i) st.val o.op.operands.toList = true ∧ ∃ f u g n vv k, st.env s = some ⟨.ref s f, u⟩ ∧ tinf P a = some (g, n) ∧ st.val v = some vv ∧ storeV st.heap n ⟨.ref s f, u⟩ vv = some (s, k) ∧ K { st with heap := upd st.heap s (some k) } := by
  obtain ⟨dst, op, ty, pos, aft, grd⟩ := o
  simp only at hg hd hop; subst hg hd hop
  unfold stepW
  simp only [regW]
  rw [ho]
  simp only [okOp, okSt, hb, cond_true, opW]
  have hsv : st.val (.tmp s) = st.env s := rfl
  rw [hsv]
  cases h1 : okIds (bad i) st.val (Op.store a (.tmp s) v).operands.toList with
  | false => simp
  | true =>
    simp only [Bool.true_and, true_and]
    cases h2 : st.env s with
    | none => simp
    | some w =>
      obtain ⟨t, u⟩ := w
      cases t with
      | ref b f =>
        simp only
        cases h3 : Nat.beq b s with
        | false =>
          simp only [cond_false]
          constructor
          · exact False.elim
          · rintro ⟨f', u', g, n, vv, k, e, _⟩
            simp only [Option.some.injEq, V.mk.injEq, Ty.ref.injEq] at e
            rw [e.1.1] at h3; simp at h3
        | true =>
          rw [Nat.beq_eq] at h3; subst h3
          simp only [cond_true]
          constructor
          · intro h
            split at h <;> try exact h.elim
            rename_i g n ht
            split at h <;> try exact h.elim
            rename_i vv hv
            split at h <;> try exact h.elim
            rename_i c k hs
            have := storeV_ref hs; subst this
            exact ⟨f, u, g, n, vv, k, rfl, ht, hv, hs, h⟩
          · rintro ⟨f', u', g, n, vv, k, e, ht, hv, hs, hk⟩
            simp only [Option.some.injEq, V.mk.injEq, Ty.ref.injEq, true_and] at e
            obtain ⟨rfl, e2⟩ := e
            have e3 : u = u' := rfl
            subst e3
            rw [ht]; simp only [hv]
            rw [hs]; exact hk
      | _ =>
        simp only [cond_false]
        constructor
        · exact False.elim
        · rintro ⟨f', u', g, n, vv, k, e, _⟩
          simp at e

theorem swapS {P : Program} {N : Nat} {ad : Nat → Bool} {ops : Array Oper} {bad : Nat → List Nat} {i j : Nat} {o o' : Oper} (h : FreeS ops bad i j o o') {K : St → Prop} {st : St} (hw : stepW P N ad ops bad i (stepW P N ad ops bad j K) st) :
    stepW P N ad ops bad j (stepW P N ad ops bad i K) st := by
  obtain ⟨a, s, v, a', s', v', e, e', hne⟩ := h.st
  rw [stepS h.hi h.gi h.di e h.bi] at hw
  obtain ⟨q1, f, u, g, n, vv, k, q2, q3, q4, q5, hw⟩ := hw
  rw [stepS h.hj h.gj h.dj e' h.bj] at hw
  obtain ⟨p1, f', u', g', n', vv', k', p2, p3, p4, p5, hw⟩ := hw
  have hval : ∀ (st : St) (hp : Nat → Option Blk), St.val { st with heap := hp } = st.val := by intro st hp; funext x; cases x <;> rfl
  rw [hval] at p1
  rw [stepS h.hj h.gj h.dj e' h.bj]
  refine ⟨p1, f', u', g', n', vv', k', p2, p3, by rw [hval] at p4; exact p4, ?_, ?_⟩
  · rw [storeV_congr (hp' := upd st.heap s (some k)) (upd_other _ _ _ _ (fun e => hne e.symm)).symm]; exact p5
  · rw [stepS h.hi h.gi h.di e h.bi]
    refine ⟨by rw [hval]; exact q1, f, u, g, n, vv, k, q2, q3, by rw [hval]; exact q4, ?_, ?_⟩
    · rw [storeV_congr (hp' := st.heap) (upd_other _ _ _ _ hne)]; exact q5
    · show K { st with heap := upd (upd st.heap s' (some k')) s (some k) }
      rw [upd_comm _ _ _ (fun e => hne e.symm)]; exact hw

/-- A store, and an operation that does not look at the block. -/
structure FreeQ (ops : Array Oper) (bad : Nat → List Nat) (i j : Nat) (o o' : Oper) (s : Nat) : Prop where
  hi : ops.toList[i]? = some o
  hj : ops.toList[j]? = some o'
  gi : o.guard = none
  di : o.dst = none
  st : ∃ a v, o.op = .store a (.tmp s) v
  qj : quiet o'.op = true
  rj : ∀ t, t ∈ readsOf ops o → o'.dst ≠ some t
  bi : memN 4294967295 (bad i) = true
  bj : memN s (bad j) = true

def St.wr (st : St) (s : Nat) (k : Blk) : St := { st with heap := upd st.heap s (some k) }

theorem wr_does (st : St) {s : Nat} {k : Blk} {d : Option Nat} {v : V} {k' : Option Blk} (h : d ≠ some s) : (st.wr s k).does d v k' = (st.does d v k').wr s k := by
  cases d with
  | none => rfl
  | some d =>
    have hne : d ≠ s := fun e => h (by rw [e])
    cases k' with
    | none => rfl
    | some k' =>
      simp only [St.does, St.put, St.new, St.wr]
      congr 1
      exact upd_comm _ _ _ (fun e => hne e.symm)

section
variable {P : Program} {N : Nat} {ad : Nat → Bool} {ops : Array Oper} {bad : Nat → List Nat} {i j : Nat} {o o' : Oper} {s : Nat}

/-- What a store does is not changed by what the other one does. -/
theorem store_does (h : FreeQ ops bad i j o o' s) {a : TypeId} {v : Operand} (e : o.op = .store a (.tmp s) v) (st : St) (x : V) (kk : Option Blk) (K : St → Prop) :
    stepW P N ad ops bad i K (st.does o'.dst x kk) ↔ okIds (bad i) st.val o.op.operands.toList = true ∧ ∃ f u g n vv k, st.env s = some ⟨.ref s f, u⟩ ∧ tinf P a = some (g, n) ∧ st.val v = some vv ∧ storeV st.heap n ⟨.ref s f, u⟩ vv = some (s, k) ∧ K ((st.does o'.dst x kk).wr s k) := by
  rw [stepS h.hi h.gi h.di e h.bi]
  have hv : ∀ y, y ∈ o.op.operands.toList → (st.does o'.dst x kk).val y = st.val y := val_agree _ (fun t ht => (does_env (h.rj t (by simp [readsOf, ht]))).1)
  have hs : s ∈ readsOf ops o := by simp [readsOf, e, Op.operands, tmpsOf]
  have h1 := does_env (v := x) (k := kk) (st := st) (h.rj s hs)
  have h2 : (st.does o'.dst x kk).val v = st.val v := hv v (by simp [e, Op.operands])
  rw [okIds_congr _ hv, h1.1, h2]
  have h3 : ∀ f u n vv, storeV (st.does o'.dst x kk).heap n ⟨.ref s f, u⟩ vv = storeV st.heap n ⟨.ref s f, u⟩ vv := fun f u n vv => storeV_congr h1.2.1
  simp only [h3]
  exact Iff.rfl

theorem sdeed_wr (h : FreeQ ops bad i j o o' s) (st : St) (k : Blk) : sdeed P N ad ops bad j (st.wr s k) = sdeed P N ad ops bad j st :=
  sdeed_congr h.hj (fun _ _ => rfl) (fun b hb => upd_other _ _ _ _ (fun e => by rw [e, h.bj] at hb; simp at hb)) (fun _ _ => rfl)

theorem does_none (st : St) {a : TypeId} {v : Operand} (h : FreeQ ops bad i j o o' s) (e : o.op = .store a (.tmp s) v) (K : St → Prop) :
    stepW P N ad ops bad i K st ↔ okIds (bad i) st.val o.op.operands.toList = true ∧ ∃ f u g n vv k, st.env s = some ⟨.ref s f, u⟩ ∧ tinf P a = some (g, n) ∧ st.val v = some vv ∧ storeV st.heap n ⟨.ref s f, u⟩ vv = some (s, k) ∧ K (st.wr s k) :=
  stepS h.hi h.gi h.di e h.bi K st

theorem swapQ (h : FreeQ ops bad i j o o' s) {K : St → Prop} {st : St} (hw : stepW P N ad ops bad i (stepW P N ad ops bad j K) st) : stepW P N ad ops bad j (stepW P N ad ops bad i K) st := by
  obtain ⟨a, v, e⟩ := h.st
  have qj : ∀ x, ops.toList[j]? = some x → quiet x.op = true := by intro x hx; rw [h.hj] at hx; cases hx; exact h.qj
  have hs : s ∈ readsOf ops o := by simp [readsOf, e, Op.operands, tmpsOf]
  rw [does_none st h e] at hw
  obtain ⟨q1, f, u, g, n, vv, k, q2, q3, q4, q5, hw⟩ := hw
  rw [stepW_deed qj, sdeed_wr h] at hw
  rw [stepW_deed qj]
  cases hd : sdeed P N ad ops bad j st with
  | none => rw [hd] at hw; exact hw.elim
  | some x =>
    rw [hd] at hw
    have hx := sdeed_dst h.hj hd
    cases x with
    | put c d v' k' =>
      simp only [Deed.of] at hx; subst hx
      refine ⟨hw.1, (store_does h e st v' k' K).2 ⟨q1, f, u, g, n, vv, k, q2, q3, q4, q5, ?_⟩⟩
      rw [← wr_does st (h.rj s hs)]; exact hw.2
    | call c d =>
      obtain ⟨hd', _⟩ := hx
      have hw : c.wp P d fun v' k' => K ((st.wr s k).does (some d) v' k') := hw
      show c.wp P d fun v' k' => stepW P N ad ops bad i K (st.does (some d) v' k')
      refine CallK.mono hw fun v' k' hr => ?_
      rw [← hd']
      refine (store_does h e st _ k' K).2 ⟨q1, f, u, g, n, vv, k, q2, q3, q4, q5, ?_⟩
      rw [← wr_does st (h.rj s hs), hd']; exact hr

theorem swapQ' (h : FreeQ ops bad i j o o' s) {K : St → Prop} {st : St} (hw : stepW P N ad ops bad j (stepW P N ad ops bad i K) st) : stepW P N ad ops bad i (stepW P N ad ops bad j K) st := by
  obtain ⟨a, v, e⟩ := h.st
  have qj : ∀ x, ops.toList[j]? = some x → quiet x.op = true := by intro x hx; rw [h.hj] at hx; cases hx; exact h.qj
  have hs : s ∈ readsOf ops o := by simp [readsOf, e, Op.operands, tmpsOf]
  rw [stepW_deed qj] at hw
  rw [does_none st h e]
  cases hd : sdeed P N ad ops bad j st with
  | none => rw [hd] at hw; exact hw.elim
  | some x =>
    rw [hd] at hw
    have hx := sdeed_dst h.hj hd
    cases x with
    | put c d v' k' =>
      simp only [Deed.of] at hx; subst hx
      obtain ⟨hc, hw⟩ := hw
      obtain ⟨q1, f, u, g, n, vv, k, q2, q3, q4, q5, hw⟩ := (store_does h e st v' k' K).1 hw
      refine ⟨q1, f, u, g, n, vv, k, q2, q3, q4, q5, ?_⟩
      rw [stepW_deed qj, sdeed_wr h, hd]
      refine ⟨hc, ?_⟩
      rw [wr_does st (h.rj s hs)]; exact hw
    | call c d =>
      obtain ⟨hd', _⟩ := hx
      have hw1 : c.wp P d fun v' k' => stepW P N ad ops bad i K (st.does (some d) v' k') := hw
      obtain ⟨v', k', hr⟩ := CallK.ex hw1
      rw [← hd'] at hr
      obtain ⟨q1, f, u, g, n, vv, k, q2, q3, q4, q5, _⟩ := (store_does h e st _ k' K).1 hr
      refine ⟨q1, f, u, g, n, vv, k, q2, q3, q4, q5, ?_⟩
      rw [stepW_deed qj, sdeed_wr h, hd]
      show c.wp P d fun v' k' => K ((st.wr s k).does (some d) v' k')
      refine CallK.mono hw1 fun v' k' hr => ?_
      rw [← hd'] at hr
      obtain ⟨_, f', u', g', n', vv', k2, p2, p3, p4, p5, hk⟩ := (store_does h e st _ k' K).1 hr
      rw [q2] at p2
      simp only [Option.some.injEq, V.mk.injEq, Ty.ref.injEq, true_and] at p2
      obtain ⟨rfl, e3⟩ := p2
      have e4 : u = u' := rfl
      subst e4
      rw [q3] at p3; cases p3
      rw [q4] at p4; cases p4
      rw [q5] at p5; cases p5
      show K ((st.wr s k).does (some d) v' k')
      rw [← hd', wr_does st (h.rj s hs)]; exact hk
end

/-! A store, and an operation that looks at no memory. -/

def noMem : Op → Bool
  | .move _ | .assign _ | .pick _ _ _ | .unOp _ _ _ | .convert _ _ _ | .field _ _ _ | .extract _ _ => true
  | .binOp op _ _ _ _ => match op with
    | .eql | .neq => false
    | _ => true
  | _ => false

theorem noMem_quiet {op : Op} (h : noMem op = true) : quiet op = true := by
  cases op <;> first | rfl | (simp [noMem] at h)

theorem noMem_call {op : Op} (h : noMem op = true) : ∀ c, op ≠ .call c := by
  intro c e; subst e; simp [noMem] at h

theorem vOf_val {x : Option V} {r : Res} (h : vOf x = some r) : ∃ v, r = .val v := by
  cases x with
  | none => simp [vOf] at h
  | some v => simp only [vOf, Option.some.injEq] at h; exact ⟨v, h.symm⟩

theorem bif_opt {α : Type} {b : Bool} {o : Option α} {y : α} (h : (bif b then o else none) = some y) : o = some y := by
  cases b
  · simp at h
  · exact h

theorem binI_plain {op : BinOp} {k : IntKind} {a b : Int} {r : Res} (h : binI op k a b = some r) : (∃ v, r = .val v) ∨ ∃ c v, r = .cond c v := by
  cases op <;> simp only [binI, Option.some.injEq] at h <;> subst h <;> first | exact .inl ⟨_, rfl⟩ | exact .inr ⟨_, _, rfl⟩

theorem noMem_evP {P : Program} {g : Operand → Option V} {hp hp' : Nat → Option Blk} {op : Op} (h : noMem op = true) : evP P g hp op = evP P g hp' op := by
  cases op with
  | binOp b t x y z =>
    simp only [evP]
    cases g x with
    | none => rfl
    | some v1 =>
      cases g y with
      | none => rfl
      | some v2 =>
        simp only [binV]
        split
        · rfl
        · rfl
        · cases b <;> first | rfl | (simp [noMem] at h)
  | _ => first | rfl | (simp [noMem] at h)

theorem noMem_plain {P : Program} {g : Operand → Option V} {hp : Nat → Option Blk} {op : Op} {r : Res} (h : noMem op = true) (he : evP P g hp op = some r) : (∃ v, r = .val v) ∨ ∃ c v, r = .cond c v := by
  cases op with
  | binOp b t x y z =>
    simp only [evP] at he
    split at he <;> try (simp at he; done)
    split at he <;> try (simp at he; done)
    unfold binV at he
    split at he
    · split at he
      · exact binI_plain he
      · exact binI_plain he
      · exact binI_plain (bif_opt he)
    · cases b <;> simp only [strI, Option.some.injEq, reduceCtorEq] at he <;> subst he <;> first | exact .inl ⟨_, rfl⟩ | exact .inr ⟨_, _, rfl⟩
    · split at he <;> simp [noMem] at h he
  | pick c a b =>
    simp only [evP] at he
    split at he <;> try (simp at he; done)
    split at he <;> exact .inl (vOf_val he)
  | _ =>
    first
      | (simp [noMem] at h; done)
      | exact .inl (vOf_val he)
      | (simp only [evP] at he; split at he <;> first | (simp at he; done) | exact .inl (vOf_val he))

theorem deed_noMem {P : Program} {N : Nat} {ow : Bool} {o : Oper} (h : noMem o.op = true) (st : St) (b : Nat) (k : Blk) :
    deed P N ow o (st.wr b k) = deed P N ow o st ∧ ∀ x, deed P N ow o st = some x → ∃ c v, x = .put c o.dst v none := by
  obtain ⟨dst, op, ty, pos, aft, grd⟩ := o
  have hval : (st.wr b k).val = st.val := by funext x; cases x <;> rfl
  have hev : ∀ d, (match evP P (st.wr b k).val (st.wr b k).heap op with
      | some r => deedR (st.wr b k) d r
      | none => none) = (match evP P st.val st.heap op with
      | some r => deedR st d r
      | none => none) := by
    intro d
    rw [hval, noMem_evP (hp := (st.wr b k).heap) (hp' := st.heap) h]
    cases evP P st.val st.heap op with
    | none => rfl
    | some r => cases r <;> rfl
  have hpl : ∀ d x, (match evP P st.val st.heap op with
      | some r => deedR st d r
      | none => none) = some x → ∃ c v, x = .put c (some d) v none := by
    intro d x hx
    cases e : evP P st.val st.heap op with
    | none => rw [e] at hx; simp at hx
    | some r =>
      rw [e] at hx
      rcases noMem_plain h e with ⟨v, rfl⟩ | ⟨c, v, rfl⟩
      · simp only [deedR, Option.some.injEq] at hx; exact ⟨_, _, hx.symm⟩
      · simp only [deedR, Option.some.injEq] at hx; exact ⟨_, _, hx.symm⟩
  unfold deed
  cases dst with
  | none => exact ⟨rfl, fun x hx => by simp at hx⟩
  | some d =>
    simp only
    cases Nat.blt d N with
    | false => exact ⟨rfl, fun x hx => by simp at hx⟩
    | true =>
      simp only [cond_true]
      cases op <;> first | (simp [noMem] at h; done) | exact ⟨hev d, hpl d⟩

theorem sdeed_noMem {P : Program} {N : Nat} {ad : Nat → Bool} {ops : Array Oper} {bad : Nat → List Nat} {j : Nat} {o : Oper} (hj : ops.toList[j]? = some o) (h : noMem o.op = true) (st : St) (b : Nat) (k : Blk) :
    sdeed P N ad ops bad j (st.wr b k) = sdeed P N ad ops bad j st ∧ ∀ x, sdeed P N ad ops bad j st = some x → ∃ c v, x = .put c o.dst v none := by
  have hval : (st.wr b k).val = st.val := by funext x; cases x <;> rfl
  obtain ⟨h1, h2⟩ := deed_noMem (P := P) (N := N) (ow := ad j) h st b k
  unfold sdeed
  rw [hj]
  simp only [hval, h1]
  refine ⟨rfl, fun x hx => ?_⟩
  cases hok : okOp (bad j) st.val o.op <;> rw [hok] at hx
  · simp at hx
  simp only [cond_true] at hx
  split at hx
  · exact h2 x hx
  · rename_i j' want _
    split at hx <;> try (simp at hx; done)
    split at hx <;> try (simp at hx; done)
    · rename_i v _
      cases e : (v == want) <;> rw [e] at hx
      · simp only [cond_false, Option.some.injEq] at hx; exact ⟨_, _, hx.symm⟩
      · exact h2 x hx
    · simp only [Option.some.injEq] at hx; exact ⟨_, _, hx.symm⟩

/-- What a store writes, if it may. -/
def stoV (P : Program) (bad : List Nat) (o : Oper) (st : St) : Option (Nat × Blk) :=
  bif okOp bad st.val o.op then match o.op with
    | .store t x v => match tinf P t with
      | some (_, n) => match st.val x with
        | some vx => match st.val v with
          | some vv => storeV st.heap n vx vv
          | none => none
        | none => none
      | none => none
    | _ => none
  else none

theorem stepW_sto {P : Program} {N : Nat} {ad : Nat → Bool} {ops : Array Oper} {bad : Nat → List Nat} {i : Nat} {o : Oper} (hi : ops.toList[i]? = some o) (hg : o.guard = none) (hd : o.dst = none) (hs : ∃ a s v, o.op = .store a (.tmp s) v) (K : St → Prop) (st : St) :
    stepW P N ad ops bad i K st ↔ ∃ b k, stoV P (bad i) o st = some (b, k) ∧ K (st.wr b k) := by
  obtain ⟨a, s, v, hop⟩ := hs
  obtain ⟨dst, op, ty, pos, aft, grd⟩ := o
  simp only at hg hd hop; subst hg hd hop
  unfold stepW stoV
  simp only [regW]
  rw [hi]
  simp only
  cases okOp (bad i) st.val (Op.store a (.tmp s) v) with
  | false => simp
  | true =>
    simp only [cond_true, opW]
    cases tinf P a with
    | none => simp
    | some p =>
      obtain ⟨_, n⟩ := p
      simp only
      cases st.val (.tmp s) with
      | none => simp
      | some vx =>
        simp only
        cases st.val v with
        | none => simp
        | some vv =>
          simp only
          cases storeV st.heap n vx vv with
          | none => simp
          | some p =>
            obtain ⟨b, k⟩ := p
            constructor
            · intro h; exact ⟨b, k, rfl, h⟩
            · rintro ⟨b', k', e, h⟩; cases e; exact h

structure FreeN (ops : Array Oper) (i j : Nat) (o o' : Oper) : Prop where
  hi : ops.toList[i]? = some o
  hj : ops.toList[j]? = some o'
  gi : o.guard = none
  di : o.dst = none
  st : ∃ a s v, o.op = .store a (.tmp s) v
  nj : noMem o'.op = true
  rj : ∀ t, t ∈ readsOf ops o → o'.dst ≠ some t

section
variable {P : Program} {N : Nat} {ad : Nat → Bool} {ops : Array Oper} {bad : Nat → List Nat} {i j : Nat} {o o' : Oper}

theorem stoV_does (h : FreeN ops i j o o') (st : St) (v : V) : stoV P (bad i) o (st.does o'.dst v none) = stoV P (bad i) o st := by
  have hv : ∀ y, y ∈ o.op.operands.toList → (st.does o'.dst v none).val y = st.val y := val_agree _ (fun t ht => (does_env (h.rj t (by simp [readsOf, ht]))).1)
  have hh : (st.does o'.dst v none).heap = st.heap := by cases o'.dst <;> rfl
  obtain ⟨a, s, x, e⟩ := h.st
  unfold stoV
  rw [okOp_congr hv, hh]
  rw [e] at hv ⊢
  simp only
  rw [hv (.tmp s) (by simp [Op.operands]), hv x (by simp [Op.operands])]

theorem wr_does_none (st : St) (b : Nat) (k : Blk) (d : Option Nat) (v : V) : (st.wr b k).does d v none = (st.does d v none).wr b k := by cases d <;> rfl

theorem swapN (h : FreeN ops i j o o') {K : St → Prop} {st : St} (hw : stepW P N ad ops bad i (stepW P N ad ops bad j K) st) : stepW P N ad ops bad j (stepW P N ad ops bad i K) st := by
  have qj : ∀ x, ops.toList[j]? = some x → quiet x.op = true := by intro x hx; rw [h.hj] at hx; cases hx; exact noMem_quiet h.nj
  rw [stepW_sto h.hi h.gi h.di h.st] at hw
  obtain ⟨b, k, hs, hw⟩ := hw
  rw [stepW_deed qj, (sdeed_noMem h.hj h.nj st b k).1] at hw
  rw [stepW_deed qj]
  cases hd : sdeed P N ad ops bad j st with
  | none => rw [hd] at hw; exact hw.elim
  | some x =>
    rw [hd] at hw
    obtain ⟨c, v, rfl⟩ := (sdeed_noMem h.hj h.nj st b k).2 x hd
    refine ⟨hw.1, (stepW_sto h.hi h.gi h.di h.st _ _).2 ⟨b, k, by rw [stoV_does h]; exact hs, ?_⟩⟩
    rw [← wr_does_none]; exact hw.2

theorem swapN' (h : FreeN ops i j o o') {K : St → Prop} {st : St} (hw : stepW P N ad ops bad j (stepW P N ad ops bad i K) st) : stepW P N ad ops bad i (stepW P N ad ops bad j K) st := by
  have qj : ∀ x, ops.toList[j]? = some x → quiet x.op = true := by intro x hx; rw [h.hj] at hx; cases hx; exact noMem_quiet h.nj
  rw [stepW_deed qj] at hw
  cases hd : sdeed P N ad ops bad j st with
  | none => rw [hd] at hw; exact hw.elim
  | some x =>
    rw [hd] at hw
    obtain ⟨c, v, rfl⟩ := (sdeed_noMem h.hj h.nj st 0 (.box .unit ())).2 x hd
    obtain ⟨hc, hw⟩ := hw
    rw [stepW_sto h.hi h.gi h.di h.st] at hw
    obtain ⟨b, k, hs, hw⟩ := hw
    rw [stoV_does h] at hs
    refine (stepW_sto h.hi h.gi h.di h.st _ _).2 ⟨b, k, hs, ?_⟩
    rw [stepW_deed qj, (sdeed_noMem h.hj h.nj st b k).1, hd]
    refine ⟨hc, ?_⟩
    rw [wr_does_none]; exact hw
end

theorem opW_mono {P : Program} {N : Nat} {ow : Bool} {o : Oper} {K K' : St → Prop} (h : ∀ st, K st → K' st) {st : St} : opW P N ow o K st → opW P N ow o K' st := by
  obtain ⟨dst, op, ty, pos, aft, grd⟩ := o
  unfold opW
  cases dst with
  | none =>
    simp only
    repeat' split
    all_goals first
      | exact id
      | exact h _
  | some d =>
    simp only
    cases Nat.blt d N with
    | false => exact id
    | true =>
      simp only [cond_true]
      repeat' split
      all_goals first
        | exact id
        | exact h _
        | exact fun hw => ⟨hw.1, h _ hw.2⟩
        | (cases ow <;> (cases st.used d <;> first
            | exact id
            | exact fun hw => ⟨hw.1, h _ hw.2⟩))
        | exact fun hw => callV.mono hw fun r hr => h _ hr
        | (cases ow <;> simp only [cond_true, cond_false] <;> (repeat' split) <;> first
            | exact id
            | exact fun hw => callV.mono hw fun r hr => h _ hr
            | (cases st.used d <;> first
              | exact id
              | exact fun hw => ownV.mono hw fun r hr => h _ hr))
        | (cases st.used d <;> first
            | exact id
            | exact h _
            | exact fun hw => ⟨hw.1, h _ hw.2⟩)

theorem stepW_mono {P : Program} {N : Nat} {ad : Nat → Bool} {ops : Array Oper} {bad : Nat → List Nat} {i : Nat} {K K' : St → Prop} (h : ∀ st, K st → K' st) {st : St} : stepW P N ad ops bad i K st → stepW P N ad ops bad i K' st := by
  unfold stepW
  simp only [regW]
  split
  · exact h _
  · rename_i o _
    cases okOp (bad i) st.val o.op with
    | false => exact id
    | true =>
      simp only [cond_true]
      have hop : ∀ st, opW P N (ad i) o K st → opW P N (ad i) o K' st := fun st => opW_mono h
      repeat' split
      all_goals first
        | exact id
        | exact hop _
        | exact h _
        | (rename_i b _ ; cases b <;> rename_i want _ _ _ _ _ _ <;> simp only [brV] <;> cases want <;> first | exact hop _ | exact h _)

end Go.VM

namespace Go.VM
open Go Go.RowKit

def edgesOf (o : Oper) : List Nat := (o.after.toList.filter fun e => Region.binds .any e).map (·.on)
def edges (ops : Array Oper) (i : Nat) : List Nat :=
  match ops.toList[i]? with
  | some o => edgesOf o
  | none => []

def rowsOf : List (List Nat) → List Nat → List Nat
  | [], acc => acc
  | es :: r, acc => rowsOf r (acc ++ [es.foldl (fun s e => s ||| (2 ^ e ||| acc.getD e 0)) 0])
def rowsA (ops : Array Oper) : List Nat := rowsOf (ops.toList.map edgesOf) []
def rowBit (rows : List Nat) (i j : Nat) : Bool := (rows.getD i 0).testBit j

theorem fold_bit (f : Nat → Nat) (j : Nat) : ∀ (es : List Nat) (s : Nat), (es.foldl (fun s e => s ||| (2 ^ e ||| f e)) s).testBit j = true → s.testBit j = true ∨ ∃ e, e ∈ es ∧ (j = e ∨ (f e).testBit j = true)
  | [], s, h => .inl h
  | e :: es, s, h => by
    simp only [List.foldl_cons] at h
    rcases fold_bit f j es _ h with h | ⟨e', h1, h2⟩
    · simp only [Nat.testBit_or, Bool.or_eq_true] at h
      rcases h with h | h | h
      · exact .inl h
      · rw [Nat.testBit_two_pow] at h
        exact .inr ⟨e, by simp, .inl (by simpa using (of_decide_eq_true h).symm)⟩
      · exact .inr ⟨e, by simp, .inr h⟩
    · exact .inr ⟨e', by simp [h1], h2⟩

theorem rowsOf_keep : ∀ (es : List (List Nat)) (acc : List Nat) (i : Nat), i < acc.length → (rowsOf es acc).getD i 0 = acc.getD i 0
  | [], acc, i, _ => rfl
  | e :: es, acc, i, h => by
    simp only [rowsOf]
    rw [rowsOf_keep es _ i (by simp; omega)]
    simp [List.getD, List.getElem?_append_left h]

theorem rowsOf_row : ∀ (es : List (List Nat)) (acc : List Nat) (i j : Nat), (∀ k, k < es.length → ∀ e, e ∈ es.getD k [] → e < acc.length + k) → i < es.length → ((rowsOf es acc).getD (acc.length + i) 0).testBit j = true →
    ∃ e, e ∈ es.getD i [] ∧ (j = e ∨ ((rowsOf es acc).getD e 0).testBit j = true)
  | [], _, i, _, _, hi, _ => by simp at hi
  | e0 :: es, acc, 0, j, hlt, _, h => by
    simp only [rowsOf] at h ⊢
    rw [rowsOf_keep _ _ _ (by simp)] at h
    have hg : (acc ++ [e0.foldl (fun s e => s ||| (2 ^ e ||| acc.getD e 0)) 0]).getD (acc.length + 0) 0 = e0.foldl (fun s e => s ||| (2 ^ e ||| acc.getD e 0)) 0 := by
      simp [List.getD]
    rw [hg] at h
    rcases fold_bit (fun e => acc.getD e 0) j e0 0 h with h | ⟨e, h1, h2⟩
    · simp at h
    · have he := hlt 0 (by simp) e (by simpa using h1)
      refine ⟨e, by simpa using h1, h2.imp id fun h2 => ?_⟩
      rw [rowsOf_keep _ _ _ (by simp; omega)]
      simpa [List.getD, List.getElem?_append_left (show e < acc.length by omega)] using h2
  | e0 :: es, acc, i + 1, j, hlt, hi, h => by
    simp only [rowsOf] at h ⊢
    have := rowsOf_row es (acc ++ [e0.foldl (fun s e => s ||| (2 ^ e ||| acc.getD e 0)) 0]) i j
      (fun k hk e he => by have := hlt (k + 1) (by simp; omega) e (by simpa using he); simp; omega) (by simpa using hi) (by simpa [Nat.add_assoc, Nat.add_comm 1 i] using h)
    simpa using this

/-- All that the operations of a list come after lies before them, or in `C`. -/
def VF (E : Nat → List Nat) : List Nat → List Nat → Prop
  | _, [] => True
  | C, x :: l => (∀ e, e ∈ E x → e ∈ C) ∧ VF E (x :: C) l

theorem VF_mono {E : Nat → List Nat} : ∀ (l C C' : List Nat), (∀ e, e ∈ C → e ∈ C') → VF E C l → VF E C' l
  | [], _, _, _, _ => trivial
  | x :: l, C, C', h, hv => ⟨fun e he => h e (hv.1 e he), VF_mono l _ _ (fun e he => by
      rcases List.mem_cons.1 he with rfl | he
      · simp
      · exact List.mem_cons_of_mem _ (h e he)) hv.2⟩

theorem VF_move {E : Nat → List Nat} {x : Nat} {B : List Nat} : ∀ (A C : List Nat), (∀ e, e ∈ E x → e ∈ C) → VF E C (A ++ x :: B) → VF E (x :: C) (A ++ B)
  | [], _, _, hv => hv.2
  | a :: A, C, hx, hv => by
    refine ⟨fun e he => List.mem_cons_of_mem _ (hv.1 e he), ?_⟩
    have := VF_move A (a :: C) (fun e he => List.mem_cons_of_mem _ (hx e he)) hv.2
    exact VF_mono _ _ _ (fun e he => by simp at he ⊢; rcases he with h | h | h <;> simp [h]) this

theorem VF_at {E : Nat → List Nat} {i : Nat} {B : List Nat} : ∀ (A C : List Nat), VF E C (A ++ i :: B) → ∀ e, e ∈ E i → e ∈ C ∨ e ∈ A
  | [], C, hv, e, he => .inl (hv.1 e he)
  | a :: A, C, hv, e, he => by
    rcases VF_at A (a :: C) hv.2 e he with h | h
    · rcases List.mem_cons.1 h with rfl | h
      · exact .inr (by simp)
      · exact .inl h
    · exact .inr (by simp [h])

section
variable {ops : Array Oper}

/-- Each edge leads to an operation that is written before. -/
def edgesDown (ops : Array Oper) : Bool := (List.range ops.size).all fun i => (edges ops i).all fun e => Nat.blt e i

theorem row_step (hd : edgesDown ops = true) {i j : Nat} (h : rowBit (rowsA ops) i j = true) : ∃ e, e ∈ edges ops i ∧ e < i ∧ (j = e ∨ rowBit (rowsA ops) e j = true) := by
  have hlt : ∀ k, k < (ops.toList.map edgesOf).length → ∀ e, e ∈ (ops.toList.map edgesOf).getD k [] → e < k := by
    intro k hk e he
    simp only [List.length_map, Array.length_toList] at hk
    have h1 := List.all_eq_true.1 hd k (by simpa using hk)
    have h2 := List.all_eq_true.1 h1 e (by
      unfold edges
      simp only [List.getD, List.getElem?_map] at he
      cases ho : ops.toList[k]? with
      | none => rw [ho] at he; simp at he
      | some o => rw [ho] at he; simpa using he)
    exact Nat.le_of_ble_eq_true h2
  rcases Nat.lt_or_ge i (ops.toList.map edgesOf).length with hi | hi
  · have := rowsOf_row (ops.toList.map edgesOf) [] i j (fun k hk e he => by have := hlt k hk e he; simpa using this) hi (by simpa [rowBit, rowsA] using h)
    obtain ⟨e, he, hj⟩ := this
    have he' := hlt i hi e he
    refine ⟨e, ?_, he', hj⟩
    unfold edges
    simp only [List.getD, List.getElem?_map] at he
    cases ho : ops.toList[i]? with
    | none => rw [ho] at he; simp at he
    | some o => rw [ho] at he; simpa using he
  · exfalso
    have hlen : ∀ (es : List (List Nat)) (acc : List Nat), (rowsOf es acc).length = acc.length + es.length := by
      intro es
      induction es with
      | nil => intro acc; rfl
      | cons e es ih => intro acc; simp only [rowsOf, ih]; simp; omega
    have : (rowsA ops).getD i 0 = 0 := by
      rw [List.getD, List.getElem?_eq_none (by rw [rowsA, hlen]; simpa using hi)]; rfl
    unfold rowBit at h; rw [this] at h; simp at h

theorem prec (hd : edgesDown ops = true) {C l : List Nat} (hC : ∀ e, e ∈ C → ∀ j, rowBit (rowsA ops) e j = true → j ∈ C) (hv : VF (edges ops) C l) :
    ∀ (i : Nat) (A B : List Nat), l = A ++ i :: B → ∀ j, rowBit (rowsA ops) i j = true → j ∈ C ∨ j ∈ A := by
  intro i
  induction i using Nat.strongRecOn with
  | _ i ih =>
    intro A B hl j hj
    obtain ⟨e, he, hlt, hje⟩ := row_step hd hj
    rcases VF_at A C (hl ▸ hv) e he with h | h
    · left
      rcases hje with rfl | hje
      · exact h
      · exact hC e h j hje
    · rcases hje with rfl | hje
      · exact .inr h
      · obtain ⟨A1, A2, rfl⟩ := List.append_of_mem h
        rcases ih e hlt A1 (A2 ++ i :: B) (by simp [hl]) j hje with h | h
        · exact .inl h
        · exact .inr (by simp [h])

def freeOk (ops : Array Oper) (o o' : Oper) : Bool :=
  quiet o.op && quiet o'.op && !(isCall o.op && isCall o'.op) && (match o'.dst with
    | some d => !memN d (readsOf ops o)
    | none => true) && (match o.dst with
    | some d => !memN d (readsOf ops o')
    | none => true) && (match o.dst, o'.dst with
    | some d, some d' => !Nat.beq d d'
    | _, _ => true)

def isSt (o : Oper) : Bool :=
  match o.op, o.guard, o.dst with
  | .store _ (.tmp _) _, none, none => true
  | _, _, _ => false
def storesOk (o o' : Oper) : Bool := isSt o && isSt o' && (match o.op, o'.op with
  | .store _ (.tmp t) _, .store _ (.tmp t') _ => !Nat.beq t t'
  | _, _ => false)

def addrOf (o : Oper) : Option Nat :=
  match o.op with
  | .store _ (.tmp s) _ => some s
  | _ => none
def storeQ (ops : Array Oper) (o o' : Oper) : Bool := isSt o && quiet o'.op && (match o'.dst with
  | some d => !memN d (readsOf ops o)
  | none => true)

def pairOk (ops : Array Oper) (rows : List Nat) (i j : Nat) : Bool :=
  Nat.beq i j || rowBit rows i j || rowBit rows j i || (match ops.toList[i]?, ops.toList[j]? with
    | some o, some o' => freeOk ops o o' || storesOk o o' || storeQ ops o o' || storeQ ops o' o
    | _, _ => false)

def drawOkW (ops : Array Oper) (rows : List Nat) : Bool := edgesDown ops && (List.range ops.size).all fun i => (List.range ops.size).all fun j => Nat.ble j i || pairOk ops rows i j
/-- May the operations of a region be carried out in any order that its edges allow? -/
def drawOk (ops : Array Oper) : Bool := drawOkW ops (rowsA ops)

def isStAt (ops : Array Oper) (i : Nat) : Bool :=
  match ops.toList[i]? with
  | some o => isSt o
  | none => false
def noMemAt (ops : Array Oper) (i : Nat) : Bool :=
  match ops.toList[i]? with
  | some o => noMem o.op
  | none => false
/-- Is it a store beside something that looks at memory? -/
def lonely (ops : Array Oper) (rows : List Nat) (i : Nat) : Bool :=
  isStAt ops i && (List.range ops.size).any fun j => !Nat.beq i j && !rowBit rows i j && !rowBit rows j i && !noMemAt ops j

/-- What the operations make that do not come before the given one. -/
def badW (ops : Array Oper) (rows : List Nat) (i : Nat) : List Nat :=
  ((List.range ops.size).filterMap fun j => bif rowBit rows i j then none else dstOf ops j) ++ (bif lonely ops rows i then [4294967295] else []) ++
    (List.range ops.size).filterMap fun j => bif isStAt ops j && !Nat.beq i j && !rowBit rows i j && !rowBit rows j i then (match ops.toList[j]? with
      | some o => addrOf o
      | none => none) else none
def badOf (ops : Array Oper) (i : Nat) : List Nat := badW ops (rowsA ops) i

theorem memN_ok {n : Nat} : ∀ {l : List Nat}, memN n l = true ↔ n ∈ l
  | [] => by simp [memN]
  | m :: l => by simp [memN, memN_ok (l := l), Nat.beq_eq]

theorem freeOk_symm {o o' : Oper} (h : freeOk ops o o' = true) : freeOk ops o' o = true := by
  unfold freeOk at *
  simp only [Bool.and_eq_true, Bool.not_eq_true', Bool.and_eq_false_iff] at *
  obtain ⟨⟨⟨⟨⟨h1, h2⟩, h3⟩, h4⟩, h5⟩, h6⟩ := h
  refine ⟨⟨⟨⟨⟨h2, h1⟩, h3.symm⟩, h5⟩, h4⟩, ?_⟩
  cases e1 : o.dst <;> cases e2 : o'.dst <;> simp_all
  rename_i a b
  cases e : Nat.beq b a
  · rfl
  · rw [Nat.beq_eq] at e; subst e; simp at h6

theorem bad_mem {i j d : Nat} (hj : j < ops.size) (hr : rowBit (rowsA ops) i j = false) (hd : dstOf ops j = some d) : memN d (badOf ops i) = true := by
  rw [memN_ok]
  simp only [badOf, badW, List.mem_append, List.mem_filterMap, List.mem_range]
  exact .inl (.inl ⟨j, hj, by rw [hr]; exact hd⟩)

theorem bad_st {i j : Nat} {o o' : Oper} (hi : ops.toList[i]? = some o) (hj : ops.toList[j]? = some o') (hij : i ≠ j) (h1 : rowBit (rowsA ops) i j = false) (h2 : rowBit (rowsA ops) j i = false) (ho : isSt o = true) (hm : noMem o'.op = false) :
    memN 4294967295 (badOf ops i) = true := by
  rw [memN_ok]
  simp only [badOf, badW, List.mem_append]
  left; right
  have hl : lonely ops (rowsA ops) i = true := by
    simp only [lonely, isStAt, hi, ho, Bool.true_and, List.any_eq_true, List.mem_range]
    refine ⟨j, ?_, ?_⟩
    · rcases Nat.lt_or_ge j ops.toList.length with h | h
      · simpa using h
      · rw [List.getElem?_eq_none h] at hj; simp at hj
    · have hb : Nat.beq i j = false := by cases e : Nat.beq i j; rfl; rw [Nat.beq_eq] at e; exact absurd e hij
      have hn : noMemAt ops j = false := by simp [noMemAt, hj, hm]
      simp [hb, h1, h2, hn]
  rw [hl]; simp

theorem bad_addr {i j : Nat} {o o' : Oper} {s : Nat} (hi : ops.toList[i]? = some o) (hj : ops.toList[j]? = some o') (hij : i ≠ j) (h1 : rowBit (rowsA ops) i j = false) (h2 : rowBit (rowsA ops) j i = false) (ho : isSt o = true) (hs : addrOf o = some s) :
    memN s (badOf ops j) = true := by
  rw [memN_ok]
  simp only [badOf, badW, List.mem_append, List.mem_filterMap, List.mem_range]
  right
  refine ⟨i, ?_, ?_⟩
  · rcases Nat.lt_or_ge i ops.toList.length with h | h
    · simpa using h
    · rw [List.getElem?_eq_none h] at hi; simp at hi
  · have hb : Nat.beq j i = false := by cases e : Nat.beq j i; rfl; rw [Nat.beq_eq] at e; exact absurd e.symm hij
    simp only [isStAt, hi, ho, hb, h1, h2, Bool.not_false, Bool.and_true, cond_true]
    exact hs

theorem storesOk_symm {o o' : Oper} (h : storesOk o o' = true) : storesOk o' o = true := by
  unfold storesOk at *
  simp only [Bool.and_eq_true] at *
  refine ⟨⟨h.1.2, h.1.1⟩, ?_⟩
  have h3 := h.2
  split at h3 <;> try (simp at h3; done)
  rename_i t _ _ t' _ e1 e2
  rw [e1, e2]
  simp only [Bool.not_eq_true'] at h3 ⊢
  cases e : Nat.beq t' t with
  | false => rfl
  | true => rw [Nat.beq_eq] at e; subst e; simp at h3

/-- Two operations that may change places. -/
def Swp (ops : Array Oper) (bad : Nat → List Nat) (i j : Nat) : Prop := (∃ o o', Free ops bad i j o o') ∨ (∃ o o', FreeS ops bad i j o o') ∨ (∃ o o' s, FreeQ ops bad i j o o' s) ∨ (∃ o o' s, FreeQ ops bad j i o o' s) ∨ (∃ o o', FreeN ops i j o o') ∨ ∃ o o', FreeN ops j i o o'

theorem swap2 {P : Program} {N : Nat} {ad : Nat → Bool} {bad : Nat → List Nat} {i j : Nat} (h : Swp ops bad i j) {K : St → Prop} {st : St} (hw : stepW P N ad ops bad i (stepW P N ad ops bad j K) st) : stepW P N ad ops bad j (stepW P N ad ops bad i K) st := by
  rcases h with ⟨o, o', h⟩ | ⟨o, o', h⟩ | ⟨o, o', s, h⟩ | ⟨o, o', s, h⟩ | ⟨o, o', h⟩ | ⟨o, o', h⟩
  · exact swap h hw
  · exact swapS h hw
  · exact swapQ h hw
  · exact swapQ' h hw
  · exact swapN h hw
  · exact swapN' h hw

theorem freeQ_of {i j : Nat} {o o' : Oper} (hi : ops.toList[i]? = some o) (hj : ops.toList[j]? = some o') (hij : i ≠ j) (h1 : rowBit (rowsA ops) i j = false) (h2 : rowBit (rowsA ops) j i = false) (h : storeQ ops o o' = true) (hm : noMem o'.op = false) :
    ∃ s, FreeQ ops (badOf ops) i j o o' s := by
  unfold storeQ at h
  simp only [Bool.and_eq_true] at h
  obtain ⟨⟨s1, s2⟩, s3⟩ := h
  have b1 := bad_st hi hj hij h1 h2 s1 hm
  have s1' := s1
  unfold isSt at s1'
  split at s1' <;> try (simp at s1'; done)
  rename_i a s v e g d
  have ha : addrOf o = some s := by simp [addrOf, e]
  refine ⟨s, hi, hj, g, d, ⟨a, v, e⟩, s2, ?_, b1, bad_addr hi hj hij h1 h2 s1 ha⟩
  intro t ht hd
  rw [hd] at s3
  have := (memN_ok (n := t)).2 ht
  simp [this] at s3

theorem freeN_of {i j : Nat} {o o' : Oper} (hi : ops.toList[i]? = some o) (hj : ops.toList[j]? = some o') (h : storeQ ops o o' = true) (hm : noMem o'.op = true) : FreeN ops i j o o' := by
  unfold storeQ at h
  simp only [Bool.and_eq_true] at h
  obtain ⟨⟨s1, s2⟩, s3⟩ := h
  unfold isSt at s1
  split at s1 <;> try (simp at s1; done)
  rename_i a s v e g d
  refine ⟨hi, hj, g, d, ⟨a, s, v, e⟩, hm, ?_⟩
  intro t ht hd
  rw [hd] at s3
  have := (memN_ok (n := t)).2 ht
  simp [this] at s3

theorem store_noMem {o : Oper} (h : isSt o = true) : noMem o.op = false := by
  unfold isSt at h
  split at h <;> try (simp at h; done)
  rename_i e _ _
  rw [e]; rfl

theorem free_of (h : drawOk ops = true) {i j : Nat} (hi : i < ops.size) (hj : j < ops.size) (hij : i ≠ j) (h1 : rowBit (rowsA ops) i j = false) (h2 : rowBit (rowsA ops) j i = false) :
    Swp ops (badOf ops) i j := by
  simp only [drawOk, drawOkW, Bool.and_eq_true, List.all_eq_true, List.mem_range] at h
  obtain ⟨_, h⟩ := h
  have hp : ∃ o o', ops.toList[i]? = some o ∧ ops.toList[j]? = some o' ∧ (freeOk ops o o' = true ∨ storesOk o o' = true ∨ storeQ ops o o' = true ∨ storeQ ops o' o = true) := by
    rcases Nat.lt_or_gt_of_ne hij with hlt | hgt
    · have := h i hi j hj
      have hb : Nat.ble j i = false := by cases e : Nat.ble j i; rfl; have := Nat.le_of_ble_eq_true e; omega
      have hb2 : Nat.beq i j = false := by cases e : Nat.beq i j; rfl; rw [Nat.beq_eq] at e; exact absurd e hij
      simp only [hb, Bool.false_or, pairOk, hb2, h1, h2] at this
      split at this
      · rename_i o o' e1 e2; exact ⟨o, o', e1, e2, by simpa [or_assoc] using this⟩
      · simp at this
    · have := h j hj i hi
      have hb : Nat.ble i j = false := by cases e : Nat.ble i j; rfl; have := Nat.le_of_ble_eq_true e; omega
      have hb2 : Nat.beq j i = false := by cases e : Nat.beq j i; rfl; rw [Nat.beq_eq] at e; exact absurd e.symm hij
      simp only [hb, Bool.false_or, pairOk, hb2, h1, h2] at this
      split at this
      · rename_i o o' e1 e2; exact ⟨o', o, e2, e1, by rcases (by simpa [or_assoc] using this : freeOk ops o o' = true ∨ storesOk o o' = true ∨ storeQ ops o o' = true ∨ storeQ ops o' o = true) with q | q | q | q; exact .inl (freeOk_symm q); exact .inr (.inl (storesOk_symm q)); exact .inr (.inr (.inr q)); exact .inr (.inr (.inl q))⟩
      · simp at this
  obtain ⟨o, o', e1, e2, hf | hs | hs | hs⟩ := hp
  case inr.inr.inl =>
    cases hm : noMem o'.op with
    | true => exact .inr (.inr (.inr (.inr (.inl ⟨o, o', freeN_of e1 e2 hs hm⟩))))
    | false =>
    obtain ⟨s, hs⟩ := freeQ_of e1 e2 hij h1 h2 hs hm
    exact .inr (.inr (.inl ⟨o, o', s, hs⟩))
  case inr.inr.inr =>
    cases hm : noMem o.op with
    | true => exact .inr (.inr (.inr (.inr (.inr ⟨o', o, freeN_of e2 e1 hs hm⟩))))
    | false =>
    obtain ⟨s, hs⟩ := freeQ_of e2 e1 (fun e => hij e.symm) h2 h1 hs hm
    exact .inr (.inr (.inr (.inl ⟨o', o, s, hs⟩)))
  case inr.inl =>
    right; left
    unfold storesOk at hs
    simp only [Bool.and_eq_true] at hs
    obtain ⟨⟨s1, s2⟩, s3⟩ := hs
    have b1 := bad_st e1 e2 hij h1 h2 s1 (store_noMem s2)
    have b2 := bad_st e2 e1 (fun e => hij e.symm) h2 h1 s2 (store_noMem s1)
    split at s3 <;> try (simp at s3; done)
    rename_i a t v a' t' v' p1 p2
    unfold isSt at s1 s2
    split at s1 <;> try (simp at s1; done)
    rename_i _ _ _ g1 g2 g3
    split at s2 <;> try (simp at s2; done)
    rename_i _ _ _ k1 k2 k3
    refine ⟨o, o', e1, e2, g2, k2, g3, k3, ⟨a, t, v, a', t', v', p1, p2, ?_⟩, b1, b2⟩
    rintro rfl
    simp at s3
  left
  unfold freeOk at hf
  simp only [Bool.and_eq_true, Bool.not_eq_true', Bool.and_eq_false_iff] at hf
  obtain ⟨⟨⟨⟨⟨f1, f2⟩, f3⟩, f4⟩, f5⟩, f6⟩ := hf
  refine ⟨o, o', e1, e2, f1, f2, ?_, ?_, ?_, ?_, ?_, ?_⟩
  · rintro ⟨q1, q2⟩; rcases f3 with f | f <;> simp_all
  · intro t ht e
    rw [e] at f4
    have := (memN_ok (n := t)).2 ht
    simp [this] at f4
  · intro t ht e
    rw [e] at f5
    have := (memN_ok (n := t)).2 ht
    simp [this] at f5
  · intro x a b
    rw [a, b] at f6
    simp at f6
  · intro d hd
    exact bad_mem hj h1 (by simp [dstOf, e2, hd])
  · intro d hd
    exact bad_mem hi h2 (by simp [dstOf, e1, hd])

theorem regW_move {P : Program} {N : Nat} {ad : Nat → Bool} {bad : Nat → List Nat} {x : Nat} {B : List Nat} {K : St → Prop} : ∀ (A : List Nat) (st : St), (∀ y, y ∈ A → Swp ops bad y x) → regW P N ad ops bad (A ++ x :: B) K st → regW P N ad ops bad (x :: (A ++ B)) K st
  | [], st, _, h => h
  | a :: A, st, hf, h => by
    rw [List.cons_append, regW_cons] at h
    have h2 : stepW P N ad ops bad a (regW P N ad ops bad (x :: (A ++ B)) K) st := stepW_mono (fun st hs => regW_move A st (fun y hy => hf y (by simp [hy])) hs) h
    have hfree := hf a (by simp)
    have h3 : stepW P N ad ops bad a (stepW P N ad ops bad x (regW P N ad ops bad (A ++ B) K)) st := stepW_mono (fun st hs => by rwa [regW_cons] at hs) h2
    have h4 := swap2 hfree h3
    rw [regW_cons]
    exact stepW_mono (fun st hs => by rw [List.cons_append, regW_cons]; exact hs) h4

theorem reorder (h : drawOk ops = true) {P : Program} {N : Nat} {ad : Nat → Bool} {K : St → Prop} : ∀ (l2 l1 C : List Nat), (∀ e, e ∈ C → ∀ j, rowBit (rowsA ops) e j = true → j ∈ C) → VF (edges ops) C l1 → VF (edges ops) C l2 →
    (C ++ l1).Nodup → (∀ x, x ∈ l1 ↔ x ∈ l2) → l2.Nodup → (∀ x, x ∈ l1 → x < ops.size) → ∀ st, regW P N ad ops (badOf ops) l1 K st → regW P N ad ops (badOf ops) l2 K st := by
  have hd : edgesDown ops = true := by simp only [drawOk, drawOkW, Bool.and_eq_true] at h; exact h.1
  intro l2
  induction l2 with
  | nil =>
    intro l1 C _ _ _ _ hm _ _ st hw
    cases l1 with
    | nil => exact hw
    | cons y l => have := (hm y).1 (by simp); simp at this
  | cons x l2 ih =>
    intro l1 C hC hv1 hv2 hn hm hn2 hlt st hw
    obtain ⟨A, B, rfl⟩ := List.append_of_mem ((hm x).2 (by simp))
    have hxC : x ∉ C := by
      intro hx
      rw [List.nodup_append] at hn
      exact hn.2.2 x hx x (by simp) rfl
    have hfree : ∀ y, y ∈ A → Swp ops (badOf ops) y x := by
      intro y hy
      have hyl : y ∈ A ++ x :: B := by simp [hy]
      have hyC : y ∉ C := by
        intro hx
        rw [List.nodup_append] at hn
        exact hn.2.2 y hx y hyl rfl
      have hne : y ≠ x := by
        rintro rfl
        rw [List.nodup_append] at hn
        have := hn.2.1
        rw [List.nodup_append] at this
        exact this.2.2 y hy y (by simp) rfl
      refine free_of h (hlt y hyl) (hlt x (by simp)) hne ?_ ?_
      · cases e : rowBit (rowsA ops) y x with
        | false => rfl
        | true =>
          exfalso
          obtain ⟨A1, A2, rfl⟩ := List.append_of_mem hy
          rcases prec hd hC hv1 y A1 (A2 ++ x :: B) (by simp) x e with q | q
          · exact hxC q
          · rw [List.nodup_append] at hn
            have := hn.2.1
            rw [List.nodup_append] at this
            exact this.2.2 x (by simp [q]) x (by simp) rfl
      · cases e : rowBit (rowsA ops) x y with
        | false => rfl
        | true =>
          exfalso
          rcases prec hd hC hv2 x [] l2 rfl y e with q | q
          · exact hyC q
          · simp at q
    have h1 := regW_move A st hfree hw
    rw [regW_cons] at h1 ⊢
    refine stepW_mono (fun st hs => ih (A ++ B) (x :: C) ?_ (VF_move A C hv2.1 hv1) hv2.2 ?_ ?_ ?_ ?_ st hs) h1
    · intro e he j hj
      rcases List.mem_cons.1 he with rfl | he
      · rcases prec hd hC hv2 e [] l2 rfl j hj with q | q
        · simp [q]
        · simp at q
      · simp [hC e he j hj]
    · have : (C ++ (A ++ x :: B)).Perm (x :: C ++ (A ++ B)) := by
        refine (List.Perm.append_left C (List.perm_middle (a := x) (l₁ := A) (l₂ := B))).trans ?_
        exact List.perm_middle
      exact this.nodup_iff.1 hn
    · intro z
      have hnA : (A ++ x :: B).Nodup := by rw [List.nodup_append] at hn; exact hn.2.1
      have hx2 : x ∉ l2 := (List.nodup_cons.1 hn2).1
      have hxAB : x ∉ A ++ B := by
        have := (List.perm_middle (a := x) (l₁ := A) (l₂ := B)).nodup_iff.1 hnA
        exact (List.nodup_cons.1 this).1
      have := hm z
      constructor
      · intro hz
        have hne : z ≠ x := by rintro rfl; exact hxAB hz
        have hz' : z ∈ A ++ x :: B := by simp at hz ⊢; rcases hz with q | q <;> simp [q]
        have := this.1 hz'
        simpa [hne] using this
      · intro hz
        have hne : z ≠ x := by rintro rfl; exact hx2 hz
        have := this.2 (by simp [hz])
        simpa [hne] using this
    · exact (List.nodup_cons.1 hn2).2
    · intro z hz
      exact hlt z (by simp at hz ⊢; rcases hz with q | q <;> simp [q])

theorem VF_snoc {E : Nat → List Nat} : ∀ (l C : List Nat) (x : Nat), VF E C l → (∀ e, e ∈ E x → e ∈ C ∨ e ∈ l) → VF E C (l ++ [x])
  | [], C, x, _, h => ⟨fun e he => by rcases h e he with q | q; exact q; simp at q, trivial⟩
  | y :: l, C, x, hv, h => ⟨hv.1, VF_snoc l (y :: C) x hv.2 (fun e he => by
      rcases h e he with q | q
      · exact .inl (by simp [q])
      · rcases List.mem_cons.1 q with q | q
        · exact .inl (by simp [q])
        · exact .inr q)⟩

theorem filter_lt {α : Type} {p q : α → Bool} (hpq : ∀ x, q x = true → p x = true) : ∀ (l : List α) (i : α), i ∈ l → p i = true → q i = false → (l.filter q).length < (l.filter p).length
  | [], i, hi, _, _ => by simp at hi
  | x :: l, i, hi, hp, hq => by
    have hle : (l.filter q).length ≤ (l.filter p).length := by
      clear hi
      induction l with
      | nil => simp
      | cons y l ih =>
        simp only [List.filter_cons]
        cases e : q y with
        | true => rw [hpq y e]; simpa using ih
        | false => cases p y <;> simp <;> omega
    simp only [List.filter_cons]
    rcases List.mem_cons.1 hi with rfl | hi
    · rw [hp, hq]; simp; omega
    · have := filter_lt hpq l i hi hp hq
      cases e : q x with
      | true => rw [hpq x e]; simpa using this
      | false => cases p x <;> simp <;> omega

theorem linearise_ok (hd : edgesDown ops = true) (t : Nat) : (Region.linearise .any ops t).Nodup ∧ (∀ i, i ∈ Region.linearise .any ops t ↔ i < ops.size) ∧ VF (edges ops) [] (Region.linearise .any ops t) := by
  have key : ∀ (fuel t : Nat) (listed : Array Bool) (acc : List Nat), listed.size = ops.size → acc.reverse.Nodup → (∀ i, i ∈ acc ↔ listed.getD i false = true) → (∀ i, i ∈ acc → i < ops.size) → VF (edges ops) [] acc.reverse →
      ((List.range ops.size).filter fun i => !listed.getD i false).length ≤ fuel →
      (Region.linearise.go .any ops fuel t listed acc).Nodup ∧ (∀ i, i ∈ Region.linearise.go .any ops fuel t listed acc ↔ i < ops.size) ∧ VF (edges ops) [] (Region.linearise.go .any ops fuel t listed acc) := by
    intro fuel
    induction fuel with
    | zero =>
      intro t listed acc hs hn hm hlt hv hf
      simp only [Region.linearise.go]
      refine ⟨hn, fun i => ⟨fun hi => hlt i (by simpa using hi), fun hi => ?_⟩, hv⟩
      have he : ((List.range ops.size).filter fun i => !listed.getD i false) = [] := List.eq_nil_of_length_eq_zero (by omega)
      have := List.filter_eq_nil_iff.1 he i (by simpa using hi)
      simp only [Bool.not_eq_true', Bool.not_eq_false] at this
      simpa using (hm i).2 this
    | succ fuel ih =>
      intro t listed acc hs hn hm hlt hv hf
      simp only [Region.linearise.go]
      generalize hrs : (List.range ops.size).filter (fun i => !listed.getD i true && ((ops[i]?).map (·.after.all fun e => !Region.binds .any e || listed.getD e.on false)).getD false) = rs
      have hd' : ∀ i b, i < ops.size → listed.getD i b = listed.getD i false := by
        intro i b hi
        simp [Array.getD_eq_getD_getElem?, Array.getElem?_eq_getElem (show i < listed.size by omega)]
      have hmem : ∀ i, i ∈ rs ↔ i < ops.size ∧ listed.getD i false = false ∧ ∀ e, e ∈ edges ops i → listed.getD e false = true := by
        intro i
        rw [← hrs, List.mem_filter, List.mem_range, Bool.and_eq_true, Bool.not_eq_true']
        constructor
        · rintro ⟨h1, h2, h3⟩
          rw [hd' i true h1] at h2
          refine ⟨h1, h2, fun e he => ?_⟩
          unfold edges edgesOf at he
          rw [Array.getElem?_toList] at he
          cases ho : ops[i]? with
          | none => rw [ho] at he; simp at he
          | some o =>
            rw [ho] at he h3
            simp only [Option.map_some, Option.getD_some, List.mem_map, List.mem_filter] at he h3
            obtain ⟨ed, ⟨q1, q2⟩, rfl⟩ := he
            rw [Array.all_eq_true] at h3
            obtain ⟨k, hk, hke⟩ := List.mem_iff_getElem.1 q1
            have := h3 k (by simpa using hk)
            simp only [Array.getElem_toList] at hke
            rw [hke, q2] at this
            simpa using this
        · rintro ⟨h1, h2, h3⟩
          refine ⟨h1, by rw [hd' i true h1]; exact h2, ?_⟩
          rw [Array.getElem?_eq_getElem h1]
          simp only [Option.map_some, Option.getD_some]
          rw [Array.all_eq_true]
          intro k hk
          cases hb : Region.binds .any ops[i].after[k] with
          | false => simp
          | true =>
            have := h3 ops[i].after[k].on (by
              unfold edges edgesOf
              rw [Array.getElem?_toList, Array.getElem?_eq_getElem h1]
              simp only [List.mem_map, List.mem_filter]
              exact ⟨_, ⟨by simp, hb⟩, rfl⟩)
            simpa using this
      cases hg : rs[t % rs.length]? with
      | none =>
        have hnil : rs = [] := by
          cases rs with
          | nil => rfl
          | cons x rs => rw [List.getElem?_eq_getElem (Nat.mod_lt _ (by simp))] at hg; simp at hg
        have hall : ∀ i, i < ops.size → listed.getD i false = true := by
          intro i
          induction i using Nat.strongRecOn with
          | _ i ihi =>
            intro hi
            cases e : listed.getD i false with
            | true => rfl
            | false =>
              exfalso
              have : i ∈ rs := (hmem i).2 ⟨hi, e, fun e' he' => by
                have h1 := List.all_eq_true.1 hd i (by simpa using hi)
                have h2 := Nat.le_of_ble_eq_true (List.all_eq_true.1 h1 e' he')
                exact ihi e' h2 (Nat.lt_trans h2 hi)⟩
              rw [hnil] at this; simp at this
        exact ⟨hn, fun i => ⟨fun hi => hlt i (by simpa using hi), fun hi => by simpa using (hm i).2 (hall i hi)⟩, hv⟩
      | some i =>
        have hi : i ∈ rs := List.mem_of_getElem? hg
        obtain ⟨h1, h2, h3⟩ := (hmem i).1 hi
        have hnot : i ∉ acc := fun h => by rw [(hm i).1 h] at h2; simp at h2
        have hset : ∀ k, (listed.setIfInBounds i true).getD k false = (if k = i then true else listed.getD k false) := by
          intro k
          simp only [Array.getD_eq_getD_getElem?, Array.getElem?_setIfInBounds]
          by_cases e : i = k
          · subst e; simp [hs, h1]
          · rw [if_neg e, if_neg (fun e' => e e'.symm)]
        refine ih _ _ _ (by simpa using hs) ?_ ?_ ?_ ?_ ?_
        · rw [List.reverse_cons, List.nodup_append]
          refine ⟨hn, by simp, ?_⟩
          intro a ha b hb e
          simp at hb ha
          rw [e, hb] at ha
          exact hnot ha
        · intro k
          rw [hset]
          by_cases e : k = i
          · subst e; simp
          · rw [if_neg e]; simp [e, hm k]
        · intro k hk
          rcases List.mem_cons.1 hk with rfl | hk
          · exact h1
          · exact hlt k hk
        · rw [List.reverse_cons]
          exact VF_snoc _ _ _ hv (fun e he => .inr (by simpa using (hm e).2 (h3 e he)))
        · have := filter_lt (p := fun k => !listed.getD k false) (q := fun k => !(listed.setIfInBounds i true).getD k false)
            (by intro k hk; simp only [hset] at hk; by_cases e : k = i <;> simp_all) (List.range ops.size) i (by simpa using h1) (by simp only [h2]; rfl) (by simp only [hset]; simp)
          omega
  refine key ops.size t (Array.replicate ops.size false) [] (by simp) (by simp) ?_ (by simp) trivial ?_
  · intro i
    simp only [List.not_mem_nil, false_iff]
    rw [Array.getD_eq_getD_getElem?, Array.getElem?_replicate]
    split <;> simp
  · exact Nat.le_trans (List.length_filter_le _ _) (by simp)

theorem VF_range (hd : edgesDown ops = true) : VF (edges ops) [] (List.range ops.size) := by
  have key : ∀ n, n ≤ ops.size → VF (edges ops) [] (List.range n) := by
    intro n
    induction n with
    | zero => intro _; trivial
    | succ n ih =>
      intro hn
      rw [List.range_succ]
      refine VF_snoc _ _ _ (ih (by omega)) (fun e he => .inr ?_)
      have h1 := List.all_eq_true.1 hd n (by simp; omega)
      have h2 := Nat.le_of_ble_eq_true (List.all_eq_true.1 h1 e he)
      have h3 : e < n := h2
      simpa using h3
  exact key _ (Nat.le_refl _)

/-- Whatever order is drawn. -/
theorem drawn_ok {P : Program} {N : Nat} {ad : Nat → Bool} {K : St → Prop} (h : drawOk ops = true) (hm : (P.follows .mixedOrders || !Region.departs ops) = true) {st : St} (hw : regW P N ad ops (badOf ops) (List.range ops.size) K st) (t : Nat) :
    regW P N ad ops (badOf ops) (Region.schedule (P.follows .mixedOrders) ops t) K st := by
  have hd : edgesDown ops = true := by simp only [drawOk, drawOkW, Bool.and_eq_true] at h; exact h.1
  have hs : Region.schedule (P.follows .mixedOrders) ops t = Region.linearise .any ops t := by
    unfold Region.schedule; rw [if_pos hm]
  rw [hs]
  obtain ⟨h1, h2, h3⟩ := linearise_ok hd t
  exact reorder h (Region.linearise .any ops t) (List.range ops.size) [] (by simp) (VF_range hd) h3 (by simpa using List.nodup_range) (by intro x; rw [h2 x]; simp) h1 (by simp) st hw

end
end Go.VM

namespace Go.VM
open Go Go.RowKit

def St.freezes (st : St) : List Nat → Option St
  | [] => some st
  | b :: l => match st.freeze b with
    | some st => st.freezes l
    | none => none

section
variable {P : Program} {base : Nat} {w0 w : World} {F0 F : Nat → Prop} {ι : Nat → Option Ref} {N : Nat} {st : St} {a : Act}

theorem Ok.drew (h : Ok base w0 F0 N st a w) : Ok base w0 F0 N st a { w with drawn := w.drawn + 1 } := by
  obtain ⟨hN, F, ι, hs⟩ := h
  have hF : ∀ b, F b → w.drew.heap[b]? = w.heap[b]? := fun _ _ => rfl
  refine ⟨hN, F, ι, ⟨fun s v hv => vrep_mono (w' := w.drew) (fun _ h => h) (fun _ _ h => h) hF (hs.env s v hv), ?_, hs.used, hs.apart, hs.fsize, hs.fin, hs.below.drew, hs.size, hs.defers⟩⟩
  intro b k hb
  obtain ⟨r, hr, q⟩ := hs.heap b k hb
  exact ⟨r, hr, brep_mono (w' := w.drew) (fun _ _ h => h) hF (fun _ => rfl) q⟩

theorem Ok.freezes : ∀ (l : List Nat) {st st' : St}, Ok base w0 F0 N st a w → st.freezes l = some st' → Ok base w0 F0 N st' a w
  | [], st, st', h, hf => by simp only [St.freezes, Option.some.injEq] at hf; subst hf; exact h
  | b :: l, st, st', h, hf => by
    simp only [St.freezes] at hf
    split at hf <;> try (simp at hf; done)
    rename_i s hs
    exact Ok.freezes l (h.freeze hs) hf
end

end Go.VM

namespace Go.VM
open Go Go.RowKit

/-- What is done ahead of an operation: lists are given away; the result is taken over. -/
def stepOf : List (Nat × List Nat × Bool) → Nat → List Nat × Bool
  | [], _ => ([], false)
  | (j, s) :: l, i => bif Nat.beq i j then s else stepOf l i

def St.frees (st : St) : List Nat → St
  | [] => st
  | b :: l => match st.freeze b with
    | some st => st.frees l
    | none => st.frees l

def regF (P : Program) (N : Nat) (ops : Array Oper) (fi : List (Nat × List Nat × Bool)) : List Nat → (St → Prop) → St → Prop
  | [], K, st => K st
  | i :: r, K, st => regW P N (fun i => (stepOf fi i).2) ops (fun _ => []) [i] (regF P N ops fi r K) (st.frees (stepOf fi i).1)

section
variable {P : Program} {base : Nat} {w0 w : World} {F0 F : Nat → Prop} {ι : Nat → Option Ref} {N : Nat} {st : St} {a : Act}

theorem Ok.frees : ∀ (l : List Nat) {st : St}, Ok base w0 F0 N st a w → Ok base w0 F0 N (st.frees l) a w
  | [], st, h => h
  | b :: l, st, h => by
    simp only [St.frees]
    split
    · rename_i s hs
      exact Ok.frees l (h.freeze hs)
    · exact Ok.frees l h

variable {next : Act → World → Prop} {Q : Exit → Act → World → Prop} {K : St → Prop}

theorem regF_sound {ops : Array Oper} {fi : List (Nat × List Nat × Bool)} : ∀ (l : List Nat) (K : St → Prop) (st : St) (a : Act) (w : World), (∀ st a w, K st → Ok base w0 F0 N st a w → Q .normal a w) → regF P N ops fi l K st → Ok base w0 F0 N st a w →
    wpOps P ops Q l a w
  | [], K, st, a, w, hn, h, hok => hn _ _ _ h hok
  | i :: r, K, st, a, w, hn, h, hok => by
    have ih : ∀ st a w, regF P N ops fi r K st → Ok base w0 F0 N st a w → wpOps P ops Q r a w := fun st a w h hok => regF_sound r K st a w hn h hok
    have hok' := Ok.frees (stepOf fi i).1 hok
    simp only [regF] at h
    exact step_sound ih h hok'

end
end Go.VM

namespace Go.VM
open Go Go.RowKit

inductive Ann where
  | nil
  | seq (a b : Ann)
  | cond (j : Option Shape) (a b : Ann)
  | loop (s : Shape) (a : Ann)
  | blk (j : Option Shape) (a : Ann)
  | reg (fr : List Nat) (fi : List (Nat × List Nat × Bool)) (j : Option Shape)

def Ann.l : Ann → Ann
  | .seq a _ => a
  | .cond _ a _ => a
  | .blk _ a => a
  | _ => .nil
def Ann.r : Ann → Ann
  | .seq _ b => b
  | .cond _ _ b => b
  | _ => .nil
def Ann.j : Ann → Option Shape
  | .cond j _ _ => j
  | .reg _ _ j => j
  | .blk j _ => j
  | _ => none
def Ann.fr : Ann → List Nat
  | .reg fr _ _ => fr
  | _ => []
def Ann.fi : Ann → List (Nat × List Nat × Bool)
  | .reg _ fi _ => fi
  | _ => []

abbrev Kont := Exit → St → Prop

structure joinV (T : Type) (k : T → Prop) (body : (T → Prop) → Prop) : Prop where
  run : body k

/-- A loop: there is an invariant and a measure. -/
structure loopV (T : Type) (step : (T → Prop) → T → Prop) (p : T) : Prop where
  run : ∃ (Inv : T → Prop) (μ : T → Nat), Inv p ∧ ∀ p, Inv p → step (fun p' => Inv p' ∧ μ p' < μ p) p

/-- The state goes on in the given shape. -/
def unpackK (sh : Shape) (st : St) (k : Pay sh.ents → Prop) : Prop :=
  match unpack sh st with
  | some p => k p
  | none => False

def withN (K : Kont) (k : St → Prop) : Kont := fun e st =>
  match e with
  | .normal => k st
  | e => K e st

def joinW (j : Option Shape) (K : Kont) (body : Kont → Prop) : Prop :=
  match j with
  | none => body K
  | some sh => joinV (Pay sh.ents) (fun p => K .normal (pack sh p)) fun k => body (withN K fun st => unpackK sh st k)

def wpC (P : Program) (N : Nat) : Code → Ann → Kont → St → Prop
  | .skip, _, K, st => K .normal st
  | .region _ ops draw, ann, K, st => match st.freezes ann.fr with
    | some st => joinW ann.j K fun K => bif draw
        then bif drawOk ops && (P.follows .mixedOrders || !Region.departs ops) then regW P N (fun i => (stepOf ann.fi i).2) ops (badOf ops) (List.range ops.size) (K .normal) st else False
        else regF P N ops ann.fi (List.range ops.size) (K .normal) st
    | none => False
  | .seq x y, ann, K, st => wpC P N x ann.l (withN K fun st => wpC P N y ann.r K st) st
  | .cond c x y, ann, K, st => match st.val c with
    | some ⟨.bool, b⟩ => joinW ann.j K fun K => brV b (wpC P N x ann.l K st) (wpC P N y ann.r K st)
    | _ => False
  | .block id c, ann, K, st => joinW ann.j K fun K => wpC P N c ann.l (fun e st => match e with
    | .exit id' => bif Nat.beq id' id then K .normal st else K (.exit id') st
    | e => K e st) st
  | .loop c, ann, K, st => match ann with
    | .loop sh ann => unpackK sh st fun p => loopV (Pay sh.ents) (fun k p => wpC P N c ann (withN K fun st => unpackK sh st k) (pack sh p)) p
    | _ => False
  | .exit id, _, K, st => K (.exit id) st
  | .ret, _, K, st => K .ret st
  | _, _, _, _ => False

theorem wp_loopT {P : Program} {Q : Exit → Act → World → Prop} {T : Type} {c : Code} (I : T → Act → World → Prop) (μ : T → Nat) {p : T} {a : Act} {w : World} (h₀ : I p a w)
    (round : ∀ p a w, I p a w → c.wp P (Exit.then (fun a' w' => ∃ p', I p' a' w' ∧ μ p' < μ p) Q) a w) : (Code.loop c).wp P Q a w := by
  intro b k cs
  have key : ∀ n p a w, μ p = n → I p a w →
      ∃ e a' w', Q e a' w' ∧ Arrives P (lone (b.at a (.code c :: .inLoop c :: k)) cs w) b k cs e a' w' := by
    intro n
    induction n using Nat.strongRecOn with
    | _ n ih =>
      intro p a w hn hI
      obtain ⟨e, a₁, w₁, hq, harr⟩ := round p a w hI b (.inLoop c :: k) cs
      cases e with
      | normal =>
        obtain ⟨p', hI₁, hlt⟩ := hq
        obtain ⟨e₂, a₂, w₂, hq₂, harr₂⟩ := ih (μ p') (hn ▸ hlt) p' a₁ w₁ rfl hI₁
        exact ⟨e₂, a₂, w₂, hq₂, .of_steps (Steps.trans harr (.one step_inLoop)) harr₂⟩
      | exit id => exact ⟨_, a₁, w₁, hq, .pass (x := .inLoop c) rfl (fun _ _ => .inl (by simp)) harr⟩
      | goto l => exact ⟨_, a₁, w₁, hq, .pass (x := .inLoop c) rfl (fun _ _ => .inl (by simp)) harr⟩
      | ret => exact ⟨_, a₁, w₁, hq, .pass (x := .inLoop c) rfl (fun _ _ => .inl (by simp)) harr⟩
      | panic ch => exact ⟨_, a₁, w₁, hq, .pass (x := .inLoop c) rfl (fun _ _ => .inl (by simp)) harr⟩
      | outgrown => exact ⟨_, a₁, w₁, hq, .pass (x := .inLoop c) rfl (fun _ _ => .inl (by simp)) harr⟩
  obtain ⟨e, a', w', hq, harr⟩ := key _ p a w rfl h₀
  exact ⟨e, a', w', hq, .of_steps (.one step_loop) harr⟩

section
variable {P : Program} {base : Nat} {w0 : World} {F0 : Nat → Prop} {N : Nat}

/-- Where the code comes to. -/
def After (base : Nat) (w0 : World) (F0 : Nat → Prop) (N : Nat) (K : Kont) : Exit → Act → World → Prop := fun e a w => ∃ st, K e st ∧ Ok base w0 F0 N st a w

theorem join_after {j : Option Shape} {K : Kont} {body : Kont → Prop} (h : joinW j K body) : ∃ K' : Kont, body K' ∧ ∀ e a w, After base w0 F0 N K' e a w → After base w0 F0 N K e a w := by
  cases j with
  | none => exact ⟨K, h, fun _ _ _ h => h⟩
  | some sh =>
    refine ⟨_, h.run, ?_⟩
    rintro e a w ⟨st, hk, hok⟩
    cases e with
    | normal =>
      simp only [withN, unpackK] at hk
      split at hk <;> try exact hk.elim
      rename_i p hp
      exact ⟨_, hk, unpack_ok hp hok⟩
    | _ => exact ⟨st, hk, hok⟩

theorem withN_after {K : Kont} {k : St → Prop} {e : Exit} {a : Act} {w : World} {next : Act → World → Prop} (hn : ∀ st a w, k st → Ok base w0 F0 N st a w → next a w) (h : After base w0 F0 N (withN K k) e a w) :
    Exit.then next (After base w0 F0 N K) e a w := by
  obtain ⟨st, hk, hok⟩ := h
  cases e with
  | normal => exact hn _ _ _ hk hok
  | _ => exact ⟨st, hk, hok⟩

theorem wpC_sound : ∀ (c : Code) (ann : Ann) (K : Kont) (st : St) (a : Act) (w : World), wpC P N c ann K st → Ok base w0 F0 N st a w → c.wp P (After base w0 F0 N K) a w := by
  intro c
  induction c with
  | skip => intro ann K st a w h hok; exact wp_skip ⟨st, h, hok⟩
  | exit id => intro ann K st a w h hok; exact wp_exit ⟨st, h, hok⟩
  | ret => intro ann K st a w h hok; exact wp_ret ⟨st, h, hok⟩
  | region id ops draw =>
    intro ann K st a w h hok
    simp only [wpC] at h
    split at h <;> try exact h.elim
    rename_i st' hf
    have hok' := Ok.freezes _ hok hf
    obtain ⟨K', h, hK⟩ := join_after (base := base) (w0 := w0) (F0 := F0) (N := N) h
    cases draw with
    | false =>
      simp only [cond_false] at h
      refine wp_mono (wp_region (regF_sound (Q := After base w0 F0 N K') _ _ _ _ _ ?_ h hok')) hK
      exact fun st a w h hok => ⟨st, h, hok⟩
    | true =>
      simp only [cond_true] at h
      cases hd : (drawOk ops && (P.follows .mixedOrders || !Region.departs ops)) <;> rw [hd] at h
      · exact h.elim
      simp only [cond_true] at h
      rw [Bool.and_eq_true] at hd
      refine wp_mono (wp_region_draw fun t => regW_sound (base := base) (w0 := w0) (F0 := F0) (Q := After base w0 F0 N K') _ _ _ _ _ (fun st a w h hok => ⟨st, h, hok⟩) (drawn_ok hd.1 hd.2 h t) hok'.drew) hK
  | seq x y ihx ihy =>
    intro ann K st a w h hok
    simp only [wpC] at h
    exact wp_seq (wp_mono (ihx _ _ _ _ _ h hok) fun e a w hq => withN_after (fun st a w h hok => ihy _ _ _ _ _ h hok) hq)
  | cond c x y ihx ihy =>
    intro ann K st a w h hok
    simp only [wpC] at h
    split at h <;> try exact h.elim
    rename_i b hb
    obtain ⟨K', h, hK⟩ := join_after (base := base) (w0 := w0) (F0 := F0) (N := N) h
    have hok' := hok
    obtain ⟨_, F, ι, hs⟩ := hok
    have hv := hs.val hb
    rw [vrep_bool] at hv
    refine wp_mono (wp_cond hv ?_) hK
    cases b with
    | true => exact ihx _ _ _ _ _ h hok'
    | false => exact ihy _ _ _ _ _ h hok'
  | block id c ih =>
    intro ann K st a w h hok
    simp only [wpC] at h
    obtain ⟨K', h, hK⟩ := join_after (base := base) (w0 := w0) (F0 := F0) (N := N) h
    refine wp_block (wp_mono (ih _ _ _ _ _ h hok) ?_)
    rintro e a w ⟨st, hk, hok⟩
    cases e with
    | exit id' =>
      simp only at hk
      simp only [Exit.inBlock]
      cases e : Nat.beq id' id <;> rw [e] at hk <;> simp only [cond_true, cond_false] at hk
      · have : id' ≠ id := by rintro rfl; simp at e
        rw [if_neg this]; exact hK _ _ _ ⟨st, hk, hok⟩
      · rw [Nat.beq_eq] at e; subst e
        rw [if_pos rfl]; exact hK _ _ _ ⟨st, hk, hok⟩
    | _ => exact hK _ _ _ ⟨st, hk, hok⟩
  | loop c ih =>
    intro ann K st a w h hok
    simp only [wpC] at h
    split at h <;> try exact h.elim
    rename_i sh ann
    simp only [unpackK] at h
    split at h <;> try exact h.elim
    rename_i p hp
    obtain ⟨Inv, μ, h0, hstep⟩ := h.run
    refine wp_loopT (fun p a w => Inv p ∧ Ok base w0 F0 N (pack sh p) a w) μ ⟨h0, unpack_ok hp hok⟩ ?_
    rintro p a w ⟨hI, hok⟩
    refine wp_mono (ih _ _ _ _ _ (hstep p hI) hok) fun e a w hq => withN_after ?_ hq
    intro st a w hk hok
    simp only at hk
    split at hk <;> try exact hk.elim
    rename_i p' hp'
    exact ⟨p', ⟨hk.1, unpack_ok hp' hok⟩, hk.2⟩
  | _ => intro ann K st a w h hok; exact h.elim

end
end Go.VM

namespace Go.VM
open Go Go.RowKit

def resV1 (P : Program) (st : St) (rt : Ty) : ResultVar → Option (den rt)
  | .tmp t => match st.env t with
    | some v => coe st.heap rt v.t v.x
    | none => none
  | .cell a t => match st.env a with
    | some ⟨.ref b o, _⟩ => match tinf P t with
      | some (ag, n) => match loadV st.heap ag n ⟨.ref b o, ()⟩ with
        | some u => coe st.heap rt u.t u.x
        | none => none
      | none => none
    | _ => none

def resL (P : Program) (st : St) : (c : Ty) → List ResultVar → Option (den c)
  | .unit, [] => some ()
  | .pair a b, r :: rs => match resV1 P st a r with
    | some x => match resL P st b rs with
      | some y => some (x, y)
      | none => none
    | none => none
  | _, _ => none

def valsT : Ty → Bool
  | .unit => true
  | .pair a b => valT a && valsT b
  | _ => false

def rtOk : Ty → Nat → Bool
  | .tup c, n => valsT c && frozen c && !Nat.beq n 1
  | t, n => valT t && frozen t && Nat.beq n 1

def resAll (P : Program) (st : St) (rt : Ty) (rs : List ResultVar) : Option (den rt) :=
  match rt with
  | .tup c => resL P st c rs
  | rt => match rs with
    | [r] => resV1 P st rt r
    | _ => none

/-- At the end the results are such that `Q`. -/
def retK (P : Program) (rs : List ResultVar) (rt : Ty) (Q : den rt → Prop) : Kont := fun e st =>
  match e with
  | .normal => match resAll P st rt rs with
    | some r => Q r
    | none => False
  | .ret => match resAll P st rt rs with
    | some r => Q r
    | none => False
  | _ => False

def nthV : List V → Nat → Option V
  | [], _ => none
  | v :: _, 0 => some v
  | _ :: l, n + 1 => nthV l n

def entry (xs : List V) : St := ⟨nthV xs, fun _ => none, fun _ => false⟩

section
variable {P : Program} {base : Nat} {w0 w : World} {F0 F : Nat → Prop} {ι : Nat → Option Ref} {N : Nat} {st : St} {a : Act}

def resF (tmps : Array Value) : ResultVar → Sem Value
  | .tmp t => pure (tmps.getD t undef)
  | .cell a t => do loadVar t (← asAddr (tmps.getD a undef))

theorem Sim.holdsAll (hs : Sim base w0 F0 F ι st a w) : Holds w (fun k => F0 k ∨ base ≤ k) ι st.heap := by
  intro b t l hb
  obtain ⟨r, hr, q⟩ := hs.heap _ _ hb
  refine ⟨r, hr, ?_⟩
  obtain ⟨hv, q⟩ := q
  cases l with
  | none => simp only [rep, Ref.val]; simp only at q; rw [if_pos q]; exact ⟨rfl, fun hn => by rw [q] at hn; simp at hn⟩
  | some l =>
    obtain ⟨q1, q2, q3, q4, q5, q6, cells, el, q7, q8, q9⟩ := q
    refine ⟨?_, fun _ => q2⟩
    simp only [rep, Ref.val, q1, if_false, Bool.false_eq_true, q3]
    exact ⟨r.blk, r.off, r.cap, cells, el, (0, 0), rfl, .inr q5, by omega, q7, fun i y hy => rep_mono hs.fin (fun _ _ h => h) (fun _ _ => rfl) _ _ _ (q9 i y hy)⟩

theorem coe_vrep (hs : Sim base w0 F0 F ι st a w) {t u : Ty} {x : den u} {y : den t} {v : Value} (hval : valT t = true) (hfr : frozen t = true) (hv : vrep w F ι u x v) (h : coe st.heap t u x = some y) :
    vrep w (fun k => F0 k ∨ base ≤ k) noRef t y v := by
  have htag := coe_tags _ _ _ _ h
  rcases valT_or hval with h1 | h1
  · rw [vrep_agg h1]
    rw [vrep_agg (htag.1.trans h1)] at hv
    obtain ⟨cs, rfl, hv⟩ := hv
    exact ⟨cs, rfl, rep_frozen _ _ _ hfr (coe_rep hs.fin hs.holdsAll _ _ _ _ _ hv h)⟩
  · rw [vrep_cell h1]
    rw [vrep_cell (htag.2.2.trans h1)] at hv
    exact rep_frozen _ _ _ hfr (coe_rep hs.fin hs.holdsAll _ _ _ _ _ hv h)

theorem resV1_ok (hs : Sim base w0 F0 F ι st a w) {rt : Ty} {r : ResultVar} {x : den rt} (hval : valT rt = true) (hfr : frozen rt = true) (h : resV1 P st rt r = some x) :
    ∃ v, (resF a.tmps r).run P w = .ok v w ∧ vrep w (fun k => F0 k ∨ base ≤ k) noRef rt x v := by
  cases r with
  | tmp t =>
    simp only [resV1] at h
    split at h <;> try (simp at h; done)
    rename_i v hv
    exact ⟨_, rfl, coe_vrep hs hval hfr (hs.env _ _ hv) h⟩
  | cell p t =>
    simp only [resV1] at h
    split at h <;> try (simp at h; done)
    rename_i b o _ hv
    split at h <;> try (simp at h; done)
    rename_i ag n ht
    split at h <;> try (simp at h; done)
    rename_i u hu
    have hp := hs.env _ _ hv
    have hp' := hp
    rw [vrep_cell rfl] at hp'; simp only [rep] at hp'
    obtain ⟨r, hr, e⟩ := hp'
    simp only [List.cons.injEq, and_true] at e
    obtain ⟨val, h1, h2⟩ := loadV_ok (P := P) hs.heap ht (v := ⟨.ref b o, ()⟩) hp hu
    refine ⟨val, ?_, coe_vrep hs hval hfr h2 h⟩
    rw [e] at h1
    simp only [Instr.loadAt, Instr.sureAddr, Sem.run_bind, Sem.run_pure, Result.andThen_ok] at h1
    simp only [resF, e, asAddr, Sem.run_bind, Sem.run_pure, Result.andThen_ok, h1]

theorem resL_ok (hs : Sim base w0 F0 F ι st a w) : ∀ (c : Ty) (rs : List ResultVar) (x : den c), valsT c = true → frozen c = true → resL P st c rs = some x →
    ∃ vs : List Value, vs.length = rs.length ∧ (∀ acc : Array Value, (rs.foldlM (fun (acc : Array Value) (r : ResultVar) => acc.push <$> resF a.tmps r) acc).run P w = .ok (acc ++ vs.toArray) w) ∧ trep w (fun k => F0 k ∨ base ≤ k) noRef c x vs
  | .unit, [], x, _, _, h => ⟨[], rfl, fun acc => by simp, rfl⟩
  | .pair c d, r :: rs, x, hv, hf, h => by
    simp only [valsT, Bool.and_eq_true] at hv
    simp only [frozen, Bool.and_eq_true] at hf
    simp only [resL] at h
    split at h <;> try (simp at h; done)
    rename_i y hy
    split at h <;> try (simp at h; done)
    rename_i z hz
    simp only [Option.some.injEq] at h; subst h
    obtain ⟨v, h1, h2⟩ := resV1_ok (P := P) hs hv.1 hf.1 hy
    obtain ⟨vs, l1, l2, l3⟩ := resL_ok hs d rs z hv.2 hf.2 hz
    refine ⟨v :: vs, by simp [l1], fun acc => ?_, ?_⟩
    · simp only [List.foldlM_cons, Sem.run_bind, Sem.run_map, h1, Result.andThen_ok]
      rw [l2 (acc.push v)]; simp
    · simp only [trep]
      exact ⟨v, vs, rfl, (vrep_vrep1 hv.1).1 h2, l3⟩
  | .unit, _ :: _, _, _, _, h | .pair _ _, [], _, _, _, h => by simp [resL] at h
  | .int _, _, _, h, _, _ | .bool, _, _, h, _, _ | .str, _, _, h, _, _ | .cst _, _, _, h, _, _ | .sl _, _, _, h, _, _ | .agg _, _, _, h, _, _ | .arr _ _, _, _, h, _, _ | .tup _, _, _, h, _, _
  | .ref _ _, _, _, h, _, _ | .own _, _, _, h, _, _ | .eref _ _, _, _, h, _, _ | .fref _, _, _, h, _, _ => by simp [valsT] at h

theorem results_eq (fn : Func) (tmps : Array Value) : results fn tmps = (do
    let vs ← fn.results.mapM (resF tmps)
    pure (if h : vs.size = 1 then vs[0] else .tuple vs)) := by
  unfold results
  congr 1

theorem resAll_ok (hs : Sim base w0 F0 F ι st a w) {fn : Func} {rt : Ty} {x : den rt} (hrt : rtOk rt fn.results.size = true) (h : resAll P st rt fn.results.toList = some x) :
    ∃ v, (results fn a.tmps).run P w = .ok v w ∧ vrep w (fun k => F0 k ∨ base ≤ k) noRef rt x v := by
  have main : ∀ vs : List Value, vs.length = fn.results.toList.length → (∀ acc : Array Value, (fn.results.toList.foldlM (fun (acc : Array Value) (r : ResultVar) => acc.push <$> resF a.tmps r) acc).run P w = .ok (acc ++ vs.toArray) w) →
      (results fn a.tmps).run P w = .ok (if h : vs.toArray.size = 1 then vs.toArray[0] else .tuple vs.toArray) w := by
    intro vs hl hv
    rw [results_eq, Array.mapM_eq_foldlM, ← Array.foldlM_toList]
    have := hv #[]
    simp only [Array.empty_append] at this
    simp only [Sem.run_bind, Sem.run_pure]
    rw [this]
    rfl
  have single : ∀ rt : Ty, valT rt = true → frozen rt = true → (x : den rt) → (match fn.results.toList with
      | [r] => resV1 P st rt r
      | _ => none) = some x → ∃ v, (results fn a.tmps).run P w = .ok v w ∧ vrep w (fun k => F0 k ∨ base ≤ k) noRef rt x v := by
    intro rt hv hf x h
    split at h <;> try (simp at h; done)
    rename_i r hr
    obtain ⟨v, h1, h2⟩ := resV1_ok (P := P) hs hv hf h
    refine ⟨v, ?_, h2⟩
    rw [main [v] (by rw [hr]; rfl) (fun acc => by rw [hr]; simp [h1])]
    rfl
  cases rt with
  | tup c =>
    simp only [rtOk, Bool.and_eq_true, Bool.not_eq_true'] at hrt
    obtain ⟨⟨h1, h2⟩, h3⟩ := hrt
    simp only [resAll] at h
    obtain ⟨vs, l1, l2, l3⟩ := resL_ok (P := P) hs c _ x h1 h2 h
    refine ⟨_, main vs l1 l2, ?_⟩
    have hne : ¬ vs.toArray.size = 1 := by
      simp only [List.size_toArray, l1, Array.length_toList]
      intro e; rw [e] at h3; simp at h3
    rw [dif_neg hne]
    exact ⟨vs.toArray, rfl, by simpa using l3⟩
  | _ =>
    simp only [rtOk, Bool.and_eq_true] at hrt
    exact single _ hrt.1.1 hrt.1.2 x h

theorem vreps_nth {F : Nat → Prop} : ∀ (xs : List V) (vals : List Value), vreps w F xs vals → xs.length = vals.length ∧ ∀ n v, nthV xs n = some v → ∃ x, vals[n]? = some x ∧ vrep w F noRef v.t v.x x
  | [], [], _ => ⟨rfl, fun n v h => by simp [nthV] at h⟩
  | v :: xs, x :: vals, h => by
    obtain ⟨h1, h2⟩ := vreps_nth xs vals h.2
    refine ⟨by simp [h1], fun n u hu => ?_⟩
    cases n with
    | zero => simp only [nthV, Option.some.injEq] at hu; subst hu; exact ⟨x, rfl, h.1⟩
    | succ n => exact h2 n u hu
  | [], _ :: _, h | _ :: _, [], h => h.elim

theorem entry_ok {xs : List V} {vals : List Value} {n : Nat} (hlen : Nat.ble xs.length n = true) (hF : ∀ b, F b → b < w.heap.size) (hv : vreps w F xs vals) :
    Ok w.heap.size w F n (entry xs) { tmps := vals.toArray ++ Array.replicate (n - vals.toArray.size) undef, defers := [] } w := by
  obtain ⟨hl, hn⟩ := vreps_nth xs vals hv
  have hlen' : vals.length ≤ n := by rw [← hl]; exact Nat.le_of_ble_eq_true hlen
  refine ⟨by simp; omega, F, noRef, ⟨?_, ?_, ?_, ?_, hF, fun b h => .inl h, Below.refl _ _, Nat.le_refl _, rfl⟩⟩
  · intro s v hs
    obtain ⟨x, hx, q⟩ := hn s v hs
    have hs' : s < vals.length := by
      rcases Nat.lt_or_ge s vals.length with h' | h'
      · exact h'
      · rw [List.getElem?_eq_none h'] at hx; simp at hx
    have : (vals.toArray ++ Array.replicate (n - vals.toArray.size) undef).getD s undef = x := by
      rw [Array.getD_eq_getD_getElem?, Array.getElem?_append_left (by simpa using hs')]
      simp [hx]
    rw [this]; exact q
  · intro b k hb'; simp [entry] at hb'
  · intro b r hb'; simp [noRef] at hb'
  · intro b c k k' r r' _ hb'; simp [entry] at hb'

/-- The function does what the condition on its body says. -/
theorem callV_of {f : FuncId} {fn : Func} {c : Code} {ann : Ann} {xs : List V} {rt : Ty} {Q : den rt → Prop} (hf : P.funcs[f]? = some fn) (hb : fn.body = some c)
    (hc : ∀ args w, (callFunc f args).run P w = .ok (.enter f args) w) (hrt : rtOk rt fn.results.size = true) (hlen : Nat.ble xs.length fn.ntmps = true) (hex : ∃ r, Q r)
    (h : wpC P fn.ntmps c ann (retK P fn.results.toList rt Q) (entry xs)) : callV P f xs rt Q := by
  refine ⟨hc, hex, fun w F vals hF hv => ?_⟩
  have hok := entry_ok (F := F) hlen hF hv
  refine calls_of_wp hf hb (wp_mono (wpC_sound c ann _ _ _ _ h hok) ?_)
  rintro e a w' ⟨st, hk, _, F', ι, hs⟩
  have fin : (match resAll P st rt fn.results.toList with
      | some r => Q r
      | none => False) → a.defers = [] ∧ ∃ v, (results fn a.tmps).run P w' = .ok v w' ∧ ∃ v_1 r, Ending.returned v = .returned v_1 ∧ vrep w' (fun k => F k ∨ w.heap.size ≤ k) noRef rt r v_1 ∧ Q r ∧ Below w.heap.size w w' := by
    intro hk
    split at hk <;> try exact hk.elim
    rename_i r hr
    obtain ⟨v, h1, h2⟩ := resAll_ok (P := P) hs hrt hr
    exact ⟨hs.defers, v, h1, v, r, rfl, h2, hk, hs.below⟩
  cases e with
  | normal => exact fin hk
  | ret => exact fin hk
  | _ => exact hk.elim


def resVv (P : Program) (st : St) : ResultVar → Option V
  | .tmp t => st.env t
  | .cell a t => match st.env a with
    | some ⟨.ref b o, _⟩ => match tinf P t with
      | some (ag, n) => loadV st.heap ag n ⟨.ref b o, ()⟩
      | none => none
    | _ => none

def resOwn (P : Program) (st : St) (t : Ty) : List ResultVar → Option (Option (List (den t)))
  | [r] => match resVv P st r with
    | some ⟨.own b, _⟩ => match st.heap b with
      | some (.arr t' l) => castT (.sl t) (.sl t') l
      | _ => none
    | _ => none
  | _ => none

/-- At the end the result is a list of its own such that `Q`. -/
def retO (P : Program) (rs : List ResultVar) (t : Ty) (Q : Option (List (den t)) → Prop) : Kont := fun e st =>
  match e with
  | .normal => match resOwn P st t rs with
    | some r => Q r
    | none => False
  | .ret => match resOwn P st t rs with
    | some r => Q r
    | none => False
  | _ => False

theorem resVv_ok (hs : Sim base w0 F0 F ι st a w) {r : ResultVar} {v : V} (h : resVv P st r = some v) : ∃ x, (resF a.tmps r).run P w = .ok x w ∧ vrep w F ι v.t v.x x := by
  cases r with
  | tmp t => exact ⟨_, rfl, hs.env _ _ h⟩
  | cell p t =>
    simp only [resVv] at h
    split at h <;> try (simp at h; done)
    rename_i b o _ hv
    split at h <;> try (simp at h; done)
    rename_i ag n ht
    have hp := hs.env _ _ hv
    have hp' := hp
    rw [vrep_cell rfl] at hp'; simp only [rep] at hp'
    obtain ⟨r, hr, e⟩ := hp'
    simp only [List.cons.injEq, and_true] at e
    obtain ⟨val, h1, h2⟩ := loadV_ok (P := P) hs.heap ht (v := ⟨.ref b o, ()⟩) hp h
    refine ⟨val, ?_, h2⟩
    rw [e] at h1
    simp only [Instr.loadAt, Instr.sureAddr, Sem.run_bind, Sem.run_pure, Result.andThen_ok] at h1
    simp only [resF, e, asAddr, Sem.run_bind, Sem.run_pure, Result.andThen_ok, h1]

/-- A list that nobody else holds is data. -/
theorem ownV.val {f : FuncId} {xs : List V} {t : Ty} {Q : Option (List (den t)) → Prop} (h : ownV P f xs t Q) : callV P f xs (.sl t) Q := by
  refine ⟨h.call, h.ex, fun w F vals hF hv => (h.run w F vals hF hv).mono ?_⟩
  rintro e w' ⟨r, l, rfl, hb, hq, hbl⟩
  refine ⟨_, l, rfl, ?_, hq, hbl⟩
  rw [vrep_cell rfl]
  obtain ⟨_, q⟩ := hb
  cases l with
  | none => simp only at q; simp only [rep, Ref.val, q, if_true]
  | some l =>
    obtain ⟨q1, q2, q3, q4, q5, q6, cells, el, q7, q8, q9⟩ := q
    simp only [rep, Ref.val, q1, if_false, Bool.false_eq_true, q3]
    exact ⟨r.blk, r.off, r.cap, cells, el, (0, 0), rfl, .inr q5, by omega, q7, fun i y hy => rep_mono (fun _ h => .inl h) (fun _ _ h => h) (fun _ _ => rfl) _ _ _ (q9 i y hy)⟩

/-- The function returns a list of its own as the condition on its body says. -/
theorem ownV_of {f : FuncId} {fn : Func} {c : Code} {ann : Ann} {xs : List V} {t : Ty} {Q : Option (List (den t)) → Prop} (hf : P.funcs[f]? = some fn) (hb : fn.body = some c)
    (hc : ∀ args w, (callFunc f args).run P w = .ok (.enter f args) w) (hrt : flat t = true) (hlen : Nat.ble xs.length fn.ntmps = true) (hex : ∃ r, Q r)
    (h : wpC P fn.ntmps c ann (retO P fn.results.toList t Q) (entry xs)) : ownV P f xs t Q := by
  refine ⟨hc, hex, fun w F vals hF hv => ?_⟩
  have hok := entry_ok (F := F) hlen hF hv
  refine calls_of_wp hf hb (wp_mono (wpC_sound c ann _ _ _ _ h hok) ?_)
  rintro e a w' ⟨st, hk, _, F', ι, hs⟩
  have fin : (match resOwn P st t fn.results.toList with
      | some r => Q r
      | none => False) → a.defers = [] ∧ ∃ v, (results fn a.tmps).run P w' = .ok v w' ∧ ∃ (r : Ref) (l : Option (List (den t))), Ending.returned v = .returned r.val ∧ brep w' w.heap.size F noRef r (.arr t l) ∧ Q l ∧ Below w.heap.size w w' := by
    intro hk
    split at hk <;> try exact hk.elim
    rename_i l hr
    unfold resOwn at hr
    split at hr <;> try (simp at hr; done)
    rename_i rv hrs
    split at hr <;> try (simp at hr; done)
    rename_i b _ hv'
    split at hr <;> try (simp at hr; done)
    rename_i t' l' hl
    obtain ⟨val, q1, q2⟩ := resVv_ok (P := P) hs hv'
    obtain ⟨r, hr', hbr⟩ := hs.heap _ _ hl
    rw [vrep_cell rfl] at q2; simp only [rep] at q2
    obtain ⟨r', hr'', e⟩ := q2
    rw [hr'] at hr''; cases hr''
    simp only [List.cons.injEq, and_true] at e
    subst e
    obtain ⟨e, rfl⟩ := castT_some hr
    cases e
    refine ⟨hs.defers, r.val, ?_, r, l', rfl, ?_, hk, hs.below⟩
    · rw [results_eq, Array.mapM_eq_foldlM, ← Array.foldlM_toList, hrs]
      simp only [List.foldlM_cons, List.foldlM_nil, Sem.run_bind, Sem.run_map, q1, Result.andThen_ok, Sem.run_pure]
      rfl
    · obtain ⟨p0, p⟩ := hbr
      refine ⟨p0, ?_⟩
      cases l' with
      | none => exact p
      | some l' =>
        obtain ⟨p1, p2, p3, p4, p5, p6, cells, el, p7, p8, p9⟩ := p
        exact ⟨p1, p2, p3, p4, p5, fun hf => by have := hF _ hf; omega, cells, el, p7, p8, fun i y hy => rep_flat _ _ _ hrt (p9 i y hy)⟩
  cases e with
  | normal => exact fin hk
  | ret => exact fin hk
  | _ => exact hk.elim

end
end Go.VM

namespace Go.VM
open Go Go.RowKit Go.WideShapes Go.ChangeShapes Go.ChangeAt

/-- Data within its kinds. -/
def wfT : (t : Ty) → den t → Prop
  | .int k, n => k.min ≤ n ∧ n ≤ k.max
  | .str, s => s.size ≤ maxLen
  | .sl t, x => ∀ l, x = some l → l.length ≤ maxLen ∧ ∀ y ∈ l, wfT t y
  | .pair a b, x => wfT a x.1 ∧ wfT b x.2
  | .agg c, x => wfT c x
  | .arr _ t, (l : List (den t)) => ∀ y ∈ l, wfT t y
  | _, _ => True

/-- The type of the data of a type of the program without addresses, laid out one part behind the other. -/
def fitL (P : Program) (f : TypeId → Option Ty) : Nat → List Field → Option Ty
  | _, [] => some .unit
  | off, x :: xs => bif Nat.beq x.offset off
    then match f x.type with
      | some a => bif Nat.beq (P.cellsOf x.type) (width a)
        then match xs with
          | [] => some a
          | xs => match fitL P f (off + width a) xs with
            | some b => some (.pair a b)
            | none => none
        else none
      | none => none
    else none

def fitT (P : Program) : Nat → TypeId → Option Ty
  | 0, _ => none
  | n + 1, t => match P.underlying t with
    | some (.int k) => some (.int k)
    | some .bool => some .bool
    | some .string => some .str
    | some (.struct fs) => match fitL P (fitT P n) 0 fs.toList with
      | some a => bif Nat.beq (P.cellsOf t) (width a) then some (.agg a) else none
      | none => none
    | _ => none

theorem mapM_mem {α β : Type} {f : α → Option β} : ∀ {l : List α} {ys : List β}, l.mapM f = some ys → ∀ x ∈ l, ∃ y, f x = some y
  | [], _, _, x, hx => by simp at hx
  | a :: l, ys, h, x, hx => by
    rw [List.mapM_cons] at h
    cases ha : f a with
    | none => rw [ha] at h; simp at h
    | some b =>
      rw [ha] at h
      simp only [Option.pure_def, Option.bind_eq_bind, Option.bind_some] at h
      cases hl : l.mapM f with
      | none => rw [hl] at h; simp at h
      | some zs =>
        rcases List.mem_cons.1 hx with rfl | hx
        · exact ⟨b, ha⟩
        · exact mapM_mem hl x hx

theorem wf_has {k : IntKind} {n : Int} (h : (Lit.int k n).wf = true) : k.min ≤ n ∧ n ≤ k.max := by
  simpa [Lit.wf] using h

section
variable {H : Type} {enc : TypeId × Value → H} {P : Program} {w : World} {base : Nat} {spare : Nat → Bool} {held : Bool} {F : Nat → Prop} {ι : Nat → Option Ref}

theorem fitL_open {f : TypeId → Option Ty} {g : TypeId → List Value → Option (DataW H × List MemPlace)}
    (hf : ∀ t ty, f t = some ty → ∀ cs y, g t cs = some y → ∃ x, rep w F ι ty x cs ∧ wfT ty x) (cs : List Value) :
    ∀ (l : List Field) (off : Nat) (a : Ty), fitL P f off l = some a → (∀ x ∈ l, ∃ y, g x.type ((cs.drop x.offset).take (P.cellsOf x.type)) = some y) →
      ∃ x, rep w F ι a x (seg cs off (width a)) ∧ wfT a x
  | [], off, a, h, _ => by
    simp only [fitL, Option.some.injEq] at h; subst h
    exact ⟨(), by simp [rep, seg, width], trivial⟩
  | [x], off, a, h, hx => by
    simp only [fitL] at h
    obtain ⟨y, hy⟩ := hx x (by simp)
    cases ho : Nat.beq x.offset off <;> rw [ho] at h <;> simp only [cond_false, cond_true, reduceCtorEq] at h
    rw [Nat.beq_eq] at ho
    split at h <;> try (simp at h; done)
    rename_i b hb
    cases hw : Nat.beq (P.cellsOf x.type) (width b) <;> rw [hw] at h <;> simp only [cond_false, cond_true, reduceCtorEq, Option.some.injEq] at h
    rw [Nat.beq_eq] at hw
    subst h
    rw [ho, hw] at hy
    exact hf _ _ hb _ _ hy
  | x :: x2 :: xs, off, a, h, hx => by
    rw [fitL] at h
    obtain ⟨y, hy⟩ := hx x (by simp)
    cases ho : Nat.beq x.offset off <;> rw [ho] at h <;> simp only [cond_false, cond_true, reduceCtorEq] at h
    rw [Nat.beq_eq] at ho
    split at h <;> try (simp at h; done)
    rename_i b hb
    cases hw : Nat.beq (P.cellsOf x.type) (width b) <;> rw [hw] at h <;> simp only [cond_false, cond_true, reduceCtorEq] at h
    rw [Nat.beq_eq] at hw
    split at h <;> try (simp at h; done)
    rename_i c hc
    simp only [Option.some.injEq] at h; subst h
    rw [ho, hw] at hy
    obtain ⟨u, h1, h2⟩ := hf _ _ hb _ _ hy
    obtain ⟨v, h3, h4⟩ := fitL_open hf cs (x2 :: xs) (off + width b) c hc (fun z hz => hx z (by simp [hz]))
    refine ⟨(u, v), ?_, h2, h4⟩
    simp only [rep]
    refine ⟨_, _, ?_, h1, h3⟩
    simp only [seg, width]
    rw [List.take_add, List.drop_drop]

theorem fitT_open : ∀ (n : Nat) (t : TypeId) (ty : Ty), fitT P n t = some ty → ∀ (fuel : Nat) (cs : List Value) (y : DataW H × List MemPlace), DataW.trod enc P w base spare held fuel t cs = some y →
    ∃ x, rep w F ι ty x cs ∧ wfT ty x
  | 0, _, _, h, _, _, _, _ => by simp [fitT] at h
  | n + 1, t, ty, h, 0, cs, y, hy => by simp [DataW.trod] at hy
  | n + 1, t, ty, h, fuel + 1, cs, y, hy => by
    simp only [fitT] at h
    split at h <;> try (simp at h; done)
    · rename_i k hk
      simp only [Option.some.injEq] at h; subst h
      simp only [DataW.trod, hk] at hy
      split at hy <;> try (simp at hy; done)
      all_goals (rename_i heq; try cases heq)
      split at hy <;> try (simp at hy; done)
      rename_i hc
      obtain ⟨rfl, hc⟩ := hc
      exact ⟨_, by simp only [rep], wf_has hc⟩
    · rename_i hk
      simp only [Option.some.injEq] at h; subst h
      simp only [DataW.trod, hk] at hy
      split at hy <;> try (simp at hy; done)
      all_goals (rename_i heq; try cases heq)
      exact ⟨_, by simp only [rep]; rfl, trivial⟩
    · rename_i hk
      simp only [Option.some.injEq] at h; subst h
      simp only [DataW.trod, hk] at hy
      split at hy <;> try (simp at hy; done)
      all_goals (rename_i heq; try cases heq)
      split at hy <;> try (simp at hy; done)
      rename_i hc
      exact ⟨_, by simp only [rep], hc⟩
    · rename_i fs hk
      split at h <;> try (simp at h; done)
      rename_i a ha
      cases hw : Nat.beq (P.cellsOf t) (width a) <;> rw [hw] at h <;> simp only [cond_false, cond_true, reduceCtorEq, Option.some.injEq] at h
      rw [Nat.beq_eq] at hw
      subst h
      simp only [DataW.trod, hk] at hy
      split at hy <;> try (simp at hy; done)
      rename_i hl
      simp only [Option.map_eq_some_iff] at hy
      obtain ⟨xs, hxs, _⟩ := hy
      obtain ⟨x, h1, h2⟩ := fitL_open (P := P) (f := fitT P n) (g := DataW.trod enc P w base spare held fuel) (fun t ty ht cs y hy => fitT_open n t ty ht fuel cs y hy) cs _ 0 a ha (mapM_mem hxs)
      rw [← hw, ← hl, seg_all _ _ rfl] at h1
      exact ⟨x, by simp only [rep]; exact h1, h2⟩

/-- An argument without addresses. -/
theorem arg_flat {r : Reach} {b0 : Nat} {n : Nat} {t : TypeId} {ty : Ty} {v : Value} {d : DataW H} {p : List MemPlace} (hf : fitT P n t = some ty) (hok : Value.okWide P w r b0 t v) (h : DataW.Trod enc P w base spare held t v d p) :
    ∃ x : den ty, vrep w F ι ty x v ∧ wfT ty x := by
  obtain ⟨fuel, h⟩ := h
  obtain ⟨x, h1, h2⟩ := fitT_open (F := F) (ι := ι) n t ty hf fuel _ _ h
  refine ⟨x, ?_, h2⟩
  cases n with
  | zero => simp [fitT] at hf
  | succ n =>
    simp only [fitT] at hf
    unfold Value.okWide at hok
    split at hf <;> try (simp at hf; done)
    · rename_i k hk
      simp only [Option.some.injEq] at hf; subst hf
      rw [hk] at hok
      simp only [Cell.okWide, Cell.ok, hk] at hok
      split at hok <;> (try exact hok.elim) <;> rename_i heq <;> (try cases heq)
      rw [vrep_cell rfl]; simpa [Value.cells] using h1
    · rename_i hk
      simp only [Option.some.injEq] at hf; subst hf
      rw [hk] at hok
      simp only [Cell.okWide, Cell.ok, hk] at hok
      split at hok <;> (try exact hok.elim) <;> rename_i heq <;> (try cases heq)
      rw [vrep_cell rfl]; simpa [Value.cells] using h1
    · rename_i hk
      simp only [Option.some.injEq] at hf; subst hf
      rw [hk] at hok
      simp only [Cell.okWide, Cell.ok, hk] at hok
      split at hok <;> (try exact hok.elim) <;> rename_i heq <;> (try cases heq)
      rw [vrep_cell rfl]; simpa [Value.cells] using h1
    · rename_i fs hk
      split at hf <;> try (simp at hf; done)
      rename_i a ha
      obtain ⟨_, hf⟩ := bif_some hf
      subst hf
      rw [hk] at hok
      obtain ⟨cs, rfl, _, _⟩ := hok
      exact vrep_of_rep rfl (by simpa [Value.cells] using h1)

theorem mapM_at {α β : Type} {f : α → Option β} : ∀ {l : List α} {ys : List β}, l.mapM f = some ys → ys.length = l.length ∧ ∀ i (h : i < l.length), f l[i] = ys[i]?
  | [], ys, h => by simp at h; subst h; exact ⟨rfl, fun i h => by simp at h⟩
  | a :: l, ys, h => by
    rw [List.mapM_cons] at h
    cases ha : f a with
    | none => rw [ha] at h; simp at h
    | some b =>
      rw [ha] at h
      simp only [Option.pure_def, Option.bind_eq_bind, Option.bind_some] at h
      cases hl : l.mapM f with
      | none => rw [hl] at h; simp at h
      | some zs =>
        rw [hl] at h
        simp only [Option.bind_some, Option.some.injEq] at h
        subst h
        obtain ⟨q1, q2⟩ := mapM_at hl
        refine ⟨by simp [q1], fun i hi => ?_⟩
        cases i with
        | zero => simpa using ha
        | succ i => simpa using q2 i (by simpa using hi)

theorem list_of {α : Type} {Q : Nat → α → Prop} : ∀ (n : Nat), (∀ i, i < n → ∃ x, Q i x) → ∃ l : List α, l.length = n ∧ ∀ (i : Nat) (y : α), l[i]? = some y → Q i y
  | 0, _ => ⟨[], rfl, fun i y h => by simp at h⟩
  | n + 1, h => by
    obtain ⟨l, h1, h2⟩ := list_of n fun i hi => h i (by omega)
    obtain ⟨x, hx⟩ := h n (by omega)
    refine ⟨l ++ [x], by simp [h1], fun i y hy => ?_⟩
    rcases Nat.lt_or_ge i n with hi | hi
    · rw [List.getElem?_append_left (by omega)] at hy; exact h2 i y hy
    · rw [List.getElem?_append_right (by omega)] at hy
      have : i = n := by
        rcases Nat.eq_or_lt_of_le hi with e | e
        · exact e.symm
        · rw [List.getElem?_eq_none (by simp; omega)] at hy; simp at hy
      subst this
      rw [h1, Nat.sub_self] at hy
      simp at hy; subst hy; exact hx

/-- Cells that are read, as a part of a row. -/
theorem cells_seg {b off n : Nat} {cells : Array Value} {el : TypeId} {fz : Nat × Nat} {cs : List Value} (hb : w.heap[b]? = some (.cells cells el fz)) (h : w.cells? base ⟨b, off, none⟩ n = some cs) : cs = seg cells.toList off n := by
  unfold World.cells? at h
  split at h
  case isFalse => simp at h
  obtain ⟨q1, q2⟩ := mapM_at h
  simp only [List.length_range] at q1 q2
  have q3 : ∀ i, i < n → cs[i]? = cells.toList[off + i]? := fun i hi => by
    have := q2 i hi
    rw [List.getElem_range, addr_add, cell_at hb] at this
    exact this.symm
  apply List.ext_getElem?
  intro i
  rcases Nat.lt_or_ge i n with hi | hi
  · rw [q3 i hi, seg_get _ _ _ _ hi]
  · rw [List.getElem?_eq_none (by omega), List.getElem?_eq_none (by simp only [seg, List.length_take]; omega)]

/-- An argument that is a slice of data without addresses. -/
theorem arg_slice {r : Reach} {b0 : Nat} {n : Nat} {t e : TypeId} {ty : Ty} {v : Value} {d : DataW H} {p : List MemPlace} (hF : ∀ b, b < w.heap.size → F b) (ht : P.underlying t = some (.slice e)) (hf : fitT P n e = some ty) (hc : P.cellsOf e = width ty)
    (hok : Value.okWide P w r b0 t v) (h : DataW.Trod enc P w base spare held t v d p) : ∃ x : den (.sl ty), vrep w F ι (.sl ty) x v := by
  obtain ⟨fuel, h⟩ := h
  unfold Value.okWide at hok
  rw [ht] at hok
  simp only [Cell.okWide, Cell.ok, ht] at hok
  split at hok <;> (try exact hok.elim) <;> rename_i heq <;> (try cases heq)
  · exact ⟨none, (vrep_cell rfl).2 rfl⟩
  · rename_i a len cap
    obtain ⟨hlc, _, _, hs, row, k, hsh, _⟩ := hok
    obtain ⟨b, off, sp⟩ := a
    dsimp only at hs hsh
    subst hs
    have hb : ∃ cells el fz, w.heap[b]? = some (.cells cells el fz) := by
      unfold World.shape? at hsh
      split at hsh
      · rename_i c el fz hh; exact ⟨c, el, fz, hh⟩
      · simp at hsh
    obtain ⟨cells, el, fz, hb⟩ := hb
    cases fuel with
    | zero => simp [DataW.trod] at h
    | succ fuel =>
      simp only [DataW.trod, ht, Value.cells] at h
      split at h <;> try (simp at h; done)
      simp only [Option.bind_eq_some_iff] at h
      obtain ⟨elems, he, _⟩ := h
      obtain ⟨_, q2⟩ := mapM_at he
      simp only [List.length_range] at q2
      have hx : ∀ i, i < len → ∃ x, rep w F ι ty x (seg cells.toList (off + i * width ty) (width ty)) := by
        intro i hi
        obtain ⟨y, hy⟩ := mapM_mem he i (List.mem_range.2 hi)
        rw [Option.bind_eq_some_iff] at hy
        obtain ⟨cs, hcs, hy⟩ := hy
        rw [addr_add, hc] at hcs
        rw [← cells_seg hb hcs]
        obtain ⟨x, h1, _⟩ := fitT_open (F := F) (ι := ι) n e ty hf fuel cs y hy
        exact ⟨x, h1⟩
      obtain ⟨l, hl, hq⟩ := list_of len hx
      refine ⟨some l, (vrep_cell rfl).2 ?_⟩
      simp only [rep]
      exact ⟨b, off, cap, cells, el, fz, by rw [hl], hF b (heap_lt hb), by omega, hb, hq⟩

/-- Arguments read behind the call as they did. -/
theorem argsBelow {W W' : World} (hl : laidOutB P = true) (hb : Below W.heap.size W W') : ∀ (ts : List TypeId) (vs : List Value) (ds : List (DataW H)) (ps : List MemPlace),
    ts.all (fun t => P.readableRec t && decide (t < P.types.size)) = true → (∀ x ∈ ps, x.block < W.heap.size) →
    DataW.TrodAll enc P W 0 (fun _ => true) true ts vs ds ps → DataW.TrodAll enc P W' 0 (fun b => decide (b < W.heap.size)) true ts vs ds ps
  | [], [], [], ps, _, _, h => h
  | t :: ts, v :: vs, d :: ds, ps, hr, hlt, h => by
    obtain ⟨p, q, h1, h2, rfl⟩ := h
    simp only [List.all_cons, Bool.and_eq_true, decide_eq_true_eq] at hr
    exact ⟨p, q, Below.trod hl hr.1.1 hr.1.2 h1 hb (fun x hx => hlt x (by simp [hx])), argsBelow hl hb ts vs ds q hr.2 (fun x hx => hlt x (by simp [hx])) h2, rfl⟩
  | [], _ :: _, _, _, _, _, h | [], [], _ :: _, _, _, _, h | _ :: _, [], _, _, _, _, h | _ :: _, _ :: _, [], _, _, _, h => by simp [DataW.TrodAll] at h

/-- What a law's row asks behind a call that returns true and writes nothing that was there. -/
theorem law_post {fn : Func} {s : ChangeSpec} {W W' : World} {args : Array Value} {ds gs : List (DataW H)} {before : List MemPlace} {tb : TypeId}
    (hW : DataW.Whole enc P fn.params.toList s.vars false W args.toList ds gs before) (hvars : s.vars = []) (hl : laidOutB P = true)
    (hread : fn.params.toList.all (fun t => P.readableRec t && decide (t < P.types.size)) = true)
    (hspec : s.fn H (ds ++ gs) = { results := [.lit (.bool true)], args := ds }) (hres : fn.resultTypes = #[tb]) (hb : P.underlying tb = some .bool) (hbl : Below W.heap.size W W') :
    s.post enc P fn false true false false W args (.bool true) W' := by
  have hW' := hW
  have hlt : ∀ p ∈ before, p.block < W.heap.size := fun p hp => hW.lt p hp
  obtain ⟨p, q, hA, hV, rfl, _, _⟩ := hW
  rw [hvars] at hV
  obtain ⟨rfl, rfl⟩ := trodVars_none hV
  refine ⟨ds, [], p ++ [], [], p, [], hW', ?_, ?_, ?_, hbl.frame _, fun h => by cases h⟩
  · rw [hspec, hres]
    exact trodAll_mk1 (shut_bool hb true)
  · rw [hspec]
    exact argsBelow hl hbl _ _ _ _ hread (fun x hx => hlt x (by simp [hx])) hA
  · rw [hspec, hvars]
    rfl

end
end Go.VM

