/- Typed pure data, a condition on code that says what a call gives, what the code of each function comes to, and what each function gives. -/
import Derived.Test.YthdhckgmbfkglaaDoorA4
set_option linter.unusedVariables false
set_option linter.unusedSimpArgs false
namespace Go.VM

open Go Go.RowKit

def edgesOf (o : Oper) : List Nat := (o.after.toList.filter fun e => Region.binds .any e).map (·.on)

def edges (ops : Array Oper) (i : Nat) : List Nat :=
  match ops.toList[i]? with
  | some o => edgesOf o
  | none => []

def rowsOf : List (List Nat) → List Nat → List Nat
  | [], acc => acc
  | es :: r, acc => rowsOf r (acc ++ [es.foldl (fun s e => s ||| (2 ^ e ||| acc.getD e 0)) 0])

def rowsA (ops : Array Oper) : List Nat := rowsOf (ops.toList.map edgesOf) []

def rowBit (rows : List Nat) (i j : Nat) : Bool := (rows.getD i 0).testBit j

theorem fold_bit (f : Nat → Nat) (j : Nat) : ∀ (es : List Nat) (s : Nat), (es.foldl (fun s e => s ||| (2 ^ e ||| f e)) s).testBit j = true → s.testBit j = true ∨ ∃ e, e ∈ es ∧ (j = e ∨ (f e).testBit j = true)
  | [], s, h => .inl h
  | e :: es, s, h => by
    simp only [List.foldl_cons] at h
    rcases fold_bit f j es _ h with h | ⟨e', h1, h2⟩
    · simp only [Nat.testBit_or, Bool.or_eq_true] at h
      rcases h with h | h | h
      · exact .inl h
      · rw [Nat.testBit_two_pow] at h
        exact .inr ⟨e, by simp, .inl (by simpa using (of_decide_eq_true h).symm)⟩
      · exact .inr ⟨e, by simp, .inr h⟩
    · exact .inr ⟨e', by simp [h1], h2⟩

theorem rowsOf_keep : ∀ (es : List (List Nat)) (acc : List Nat) (i : Nat), i < acc.length → (rowsOf es acc).getD i 0 = acc.getD i 0
  | [], acc, i, _ => rfl
  | e :: es, acc, i, h => by
    simp only [rowsOf]
    rw [rowsOf_keep es _ i (by simp; omega)]
    simp [List.getD, List.getElem?_append_left h]

theorem rowsOf_row : ∀ (es : List (List Nat)) (acc : List Nat) (i j : Nat), (∀ k, k < es.length → ∀ e, e ∈ es.getD k [] → e < acc.length + k) → i < es.length → ((rowsOf es acc).getD (acc.length + i) 0).testBit j = true →
    ∃ e, e ∈ es.getD i [] ∧ (j = e ∨ ((rowsOf es acc).getD e 0).testBit j = true)
  | [], _, i, _, _, hi, _ => by simp at hi
  | e0 :: es, acc, 0, j, hlt, _, h => by
    simp only [rowsOf] at h ⊢
    rw [rowsOf_keep _ _ _ (by simp)] at h
    have hg : (acc ++ [e0.foldl (fun s e => s ||| (2 ^ e ||| acc.getD e 0)) 0]).getD (acc.length + 0) 0 = e0.foldl (fun s e => s ||| (2 ^ e ||| acc.getD e 0)) 0 := by
      simp [List.getD]
    rw [hg] at h
    rcases fold_bit (fun e => acc.getD e 0) j e0 0 h with h | ⟨e, h1, h2⟩
    · simp at h
    · have he := hlt 0 (by simp) e (by simpa using h1)
      refine ⟨e, by simpa using h1, h2.imp id fun h2 => ?_⟩
      rw [rowsOf_keep _ _ _ (by simp; omega)]
      simpa [List.getD, List.getElem?_append_left (show e < acc.length by omega)] using h2
  | e0 :: es, acc, i + 1, j, hlt, hi, h => by
    simp only [rowsOf] at h ⊢
    have := rowsOf_row es (acc ++ [e0.foldl (fun s e => s ||| (2 ^ e ||| acc.getD e 0)) 0]) i j
      (fun k hk e he => by have := hlt (k + 1) (by simp; omega) e (by simpa using he); simp; omega) (by simpa using hi) (by simpa [Nat.add_assoc, Nat.add_comm 1 i] using h)
    simpa using this

/-- All that the operations of a list come after lies before them, or in `C`. -/
def VF (E : Nat → List Nat) : List Nat → List Nat → Prop
  | _, [] => True
  | C, x :: l => (∀ e, e ∈ E x → e ∈ C) ∧ VF E (x :: C) l

theorem VF_mono {E : Nat → List Nat} : ∀ (l C C' : List Nat), (∀ e, e ∈ C → e ∈ C') → VF E C l → VF E C' l
  | [], _, _, _, _ => trivial
  | x :: l, C, C', h, hv => ⟨fun e he => h e (hv.1 e he), VF_mono l _ _ (fun e he => by
      rcases List.mem_cons.1 he with rfl | he
      · simp
      · exact List.mem_cons_of_mem _ (h e he)) hv.2⟩

theorem VF_move {E : Nat → List Nat} {x : Nat} {B : List Nat} : ∀ (A C : List Nat), (∀ e, e ∈ E x → e ∈ C) → VF E C (A ++ x :: B) → VF E (x :: C) (A ++ B)
  | [], _, _, hv => hv.2
  | a :: A, C, hx, hv => by
    refine ⟨fun e he => List.mem_cons_of_mem _ (hv.1 e he), ?_⟩
    have := VF_move A (a :: C) (fun e he => List.mem_cons_of_mem _ (hx e he)) hv.2
    exact VF_mono _ _ _ (fun e he => by simp at he ⊢; rcases he with h | h | h <;> simp [h]) this

theorem VF_at {E : Nat → List Nat} {i : Nat} {B : List Nat} : ∀ (A C : List Nat), VF E C (A ++ i :: B) → ∀ e, e ∈ E i → e ∈ C ∨ e ∈ A
  | [], C, hv, e, he => .inl (hv.1 e he)
  | a :: A, C, hv, e, he => by
    rcases VF_at A (a :: C) hv.2 e he with h | h
    · rcases List.mem_cons.1 h with rfl | h
      · exact .inr (by simp)
      · exact .inl h
    · exact .inr (by simp [h])

section

variable {ops : Array Oper}

/-- Each edge leads to an operation that is written before. -/
def edgesDown (ops : Array Oper) : Bool := (List.range ops.size).all fun i => (edges ops i).all fun e => Nat.blt e i

theorem row_step (hd : edgesDown ops = true) {i j : Nat} (h : rowBit (rowsA ops) i j = true) : ∃ e, e ∈ edges ops i ∧ e < i ∧ (j = e ∨ rowBit (rowsA ops) e j = true) := by
  have hlt : ∀ k, k < (ops.toList.map edgesOf).length → ∀ e, e ∈ (ops.toList.map edgesOf).getD k [] → e < k := by
    intro k hk e he
    simp only [List.length_map, Array.length_toList] at hk
    have h1 := List.all_eq_true.1 hd k (by simpa using hk)
    have h2 := List.all_eq_true.1 h1 e (by
      unfold edges
      simp only [List.getD, List.getElem?_map] at he
      cases ho : ops.toList[k]? with
      | none => rw [ho] at he; simp at he
      | some o => rw [ho] at he; simpa using he)
    exact Nat.le_of_ble_eq_true h2
  rcases Nat.lt_or_ge i (ops.toList.map edgesOf).length with hi | hi
  · have := rowsOf_row (ops.toList.map edgesOf) [] i j (fun k hk e he => by have := hlt k hk e he; simpa using this) hi (by simpa [rowBit, rowsA] using h)
    obtain ⟨e, he, hj⟩ := this
    have he' := hlt i hi e he
    refine ⟨e, ?_, he', hj⟩
    unfold edges
    simp only [List.getD, List.getElem?_map] at he
    cases ho : ops.toList[i]? with
    | none => rw [ho] at he; simp at he
    | some o => rw [ho] at he; simpa using he
  · exfalso
    have hlen : ∀ (es : List (List Nat)) (acc : List Nat), (rowsOf es acc).length = acc.length + es.length := by
      intro es
      induction es with
      | nil => intro acc; rfl
      | cons e es ih => intro acc; simp only [rowsOf, ih]; simp; omega
    have : (rowsA ops).getD i 0 = 0 := by
      rw [List.getD, List.getElem?_eq_none (by rw [rowsA, hlen]; simpa using hi)]; rfl
    unfold rowBit at h; rw [this] at h; simp at h

theorem prec (hd : edgesDown ops = true) {C l : List Nat} (hC : ∀ e, e ∈ C → ∀ j, rowBit (rowsA ops) e j = true → j ∈ C) (hv : VF (edges ops) C l) :
    ∀ (i : Nat) (A B : List Nat), l = A ++ i :: B → ∀ j, rowBit (rowsA ops) i j = true → j ∈ C ∨ j ∈ A := by
  intro i
  induction i using Nat.strongRecOn with
  | _ i ih =>
    intro A B hl j hj
    obtain ⟨e, he, hlt, hje⟩ := row_step hd hj
    rcases VF_at A C (hl ▸ hv) e he with h | h
    · left
      rcases hje with rfl | hje
      · exact h
      · exact hC e h j hje
    · rcases hje with rfl | hje
      · exact .inr h
      · obtain ⟨A1, A2, rfl⟩ := List.append_of_mem h
        rcases ih e hlt A1 (A2 ++ i :: B) (by simp [hl]) j hje with h | h
        · exact .inl h
        · exact .inr (by simp [h])

def quietA (op : Op) : Bool := quiet op || isApp op

def freeOk (ops : Array Oper) (o o' : Oper) : Bool :=
  quietA o.op && quietA o'.op && !(isCall o.op && isCall o'.op) && (match o'.dst with
    | some d => !memN d (readsOf ops o)
    | none => true) && (match o.dst with
    | some d => !memN d (readsOf ops o')
    | none => true) && (match o.dst, o'.dst with
    | some d, some d' => !Nat.beq d d'
    | _, _ => true)

def isSt (o : Oper) : Bool :=
  match o.op, o.guard, o.dst with
  | .store _ (.tmp _) _, none, none => true
  | _, _, _ => false

def storesOk (o o' : Oper) : Bool := isSt o && isSt o' && (match o.op, o'.op with
  | .store _ (.tmp t) _, .store _ (.tmp t') _ => !Nat.beq t t'
  | _, _ => false)

def addrOf (o : Oper) : Option Nat :=
  match o.op with
  | .store _ (.tmp s) _ => some s
  | _ => none

def storeQ (ops : Array Oper) (o o' : Oper) : Bool := isSt o && quietA o'.op && (match o'.dst with
  | some d => !memN d (readsOf ops o)
  | none => true)

def pairOk (ops : Array Oper) (rows : List Nat) (i j : Nat) : Bool :=
  Nat.beq i j || rowBit rows i j || rowBit rows j i || (match ops.toList[i]?, ops.toList[j]? with
    | some o, some o' => freeOk ops o o' || storesOk o o' || storeQ ops o o' || storeQ ops o' o
    | _, _ => false)

def drawOkW (ops : Array Oper) (rows : List Nat) : Bool := edgesDown ops && (List.range ops.size).all fun i => (List.range ops.size).all fun j => Nat.ble j i || pairOk ops rows i j

/-- May the operations of a region be carried out in any order that its edges allow? -/
def drawOk (ops : Array Oper) : Bool := drawOkW ops (rowsA ops)

def isStAt (ops : Array Oper) (i : Nat) : Bool :=
  match ops.toList[i]? with
  | some o => isSt o
  | none => false

def noMemAt (ops : Array Oper) (i : Nat) : Bool :=
  match ops.toList[i]? with
  | some o => noMem o.op
  | none => false

/-- Is it a store beside something that looks at memory? -/
def lonely (ops : Array Oper) (rows : List Nat) (i : Nat) : Bool :=
  isStAt ops i && (List.range ops.size).any fun j => !Nat.beq i j && !rowBit rows i j && !rowBit rows j i && !noMemAt ops j

def isAppAt (ops : Array Oper) (i : Nat) : Bool :=
  match ops.toList[i]? with
  | some o => isApp o.op
  | none => false

/-- Is it an append beside something? -/
def lonelyA (ops : Array Oper) (rows : List Nat) (i : Nat) : Bool :=
  isAppAt ops i && (List.range ops.size).any fun j => !Nat.beq i j && !rowBit rows i j && !rowBit rows j i

/-- What the operations make that do not come before the given one. -/
def badW (ops : Array Oper) (rows : List Nat) (i : Nat) : List Nat :=
  ((List.range ops.size).filterMap fun j => bif rowBit rows i j then none else dstOf ops j) ++ ((bif lonely ops rows i then [4294967295] else []) ++ (bif lonelyA ops rows i then [4294967296] else [])) ++
    (List.range ops.size).filterMap fun j => bif isStAt ops j && !Nat.beq i j && !rowBit rows i j && !rowBit rows j i then (match ops.toList[j]? with
      | some o => addrOf o
      | none => none) else none

def badOf (ops : Array Oper) (i : Nat) : List Nat := badW ops (rowsA ops) i

theorem memN_ok {n : Nat} : ∀ {l : List Nat}, memN n l = true ↔ n ∈ l
  | [] => by simp [memN]
  | m :: l => by simp [memN, memN_ok (l := l), Nat.beq_eq]

theorem freeOk_symm {o o' : Oper} (h : freeOk ops o o' = true) : freeOk ops o' o = true := by
  unfold freeOk at *
  simp only [Bool.and_eq_true, Bool.not_eq_true', Bool.and_eq_false_iff] at *
  obtain ⟨⟨⟨⟨⟨h1, h2⟩, h3⟩, h4⟩, h5⟩, h6⟩ := h
  refine ⟨⟨⟨⟨⟨h2, h1⟩, h3.symm⟩, h5⟩, h4⟩, ?_⟩
  cases e1 : o.dst <;> cases e2 : o'.dst <;> simp_all
  rename_i a b
  cases e : Nat.beq b a
  · rfl
  · rw [Nat.beq_eq] at e; subst e; simp at h6

theorem bad_mem {i j d : Nat} (hj : j < ops.size) (hr : rowBit (rowsA ops) i j = false) (hd : dstOf ops j = some d) : memN d (badOf ops i) = true := by
  rw [memN_ok]
  simp only [badOf, badW, List.mem_append, List.mem_filterMap, List.mem_range]
  exact .inl (.inl ⟨j, hj, by rw [hr]; exact hd⟩)

theorem bad_st {i j : Nat} {o o' : Oper} (hi : ops.toList[i]? = some o) (hj : ops.toList[j]? = some o') (hij : i ≠ j) (h1 : rowBit (rowsA ops) i j = false) (h2 : rowBit (rowsA ops) j i = false) (ho : isSt o = true) (hm : noMem o'.op = false) :
    memN 4294967295 (badOf ops i) = true := by
  rw [memN_ok]
  simp only [badOf, badW, List.mem_append]
  left; right; left
  have hl : lonely ops (rowsA ops) i = true := by
    simp only [lonely, isStAt, hi, ho, Bool.true_and, List.any_eq_true, List.mem_range]
    refine ⟨j, ?_, ?_⟩
    · rcases Nat.lt_or_ge j ops.toList.length with h | h
      · simpa using h
      · rw [List.getElem?_eq_none h] at hj; simp at hj
    · have hb : Nat.beq i j = false := by cases e : Nat.beq i j; rfl; rw [Nat.beq_eq] at e; exact absurd e hij
      have hn : noMemAt ops j = false := by simp [noMemAt, hj, hm]
      simp [hb, h1, h2, hn]
  rw [hl]; simp

theorem bad_app {i j : Nat} {o : Oper} (hi : ops.toList[i]? = some o) (hj : j < ops.size) (hij : i ≠ j) (h1 : rowBit (rowsA ops) i j = false) (h2 : rowBit (rowsA ops) j i = false) (ho : quietA o.op = true) :
    qOk (badOf ops i) o.op = true := by
  simp only [quietA, Bool.or_eq_true] at ho
  simp only [qOk, Bool.or_eq_true, Bool.and_eq_true]
  rcases ho with ho | ho
  · exact .inl ho
  refine .inr ⟨ho, ?_⟩
  rw [memN_ok]
  simp only [badOf, badW, List.mem_append]
  left; right; right
  have hl : lonelyA ops (rowsA ops) i = true := by
    simp only [lonelyA, isAppAt, hi, ho, Bool.true_and, List.any_eq_true, List.mem_range]
    refine ⟨j, hj, ?_⟩
    have hb : Nat.beq i j = false := by cases e : Nat.beq i j; rfl; rw [Nat.beq_eq] at e; exact absurd e hij
    simp [hb, h1, h2]
  rw [hl]; simp

theorem bad_addr {i j : Nat} {o o' : Oper} {s : Nat} (hi : ops.toList[i]? = some o) (hj : ops.toList[j]? = some o') (hij : i ≠ j) (h1 : rowBit (rowsA ops) i j = false) (h2 : rowBit (rowsA ops) j i = false) (ho : isSt o = true) (hs : addrOf o = some s) :
    memN s (badOf ops j) = true := by
  rw [memN_ok]
  simp only [badOf, badW, List.mem_append, List.mem_filterMap, List.mem_range]
  right
  refine ⟨i, ?_, ?_⟩
  · rcases Nat.lt_or_ge i ops.toList.length with h | h
    · simpa using h
    · rw [List.getElem?_eq_none h] at hi; simp at hi
  · have hb : Nat.beq j i = false := by cases e : Nat.beq j i; rfl; rw [Nat.beq_eq] at e; exact absurd e.symm hij
    simp only [isStAt, hi, ho, hb, h1, h2, Bool.not_false, Bool.and_true, cond_true]
    exact hs

theorem storesOk_symm {o o' : Oper} (h : storesOk o o' = true) : storesOk o' o = true := by
  unfold storesOk at *
  simp only [Bool.and_eq_true] at *
  refine ⟨⟨h.1.2, h.1.1⟩, ?_⟩
  have h3 := h.2
  split at h3 <;> try (simp at h3; done)
  rename_i t _ _ t' _ e1 e2
  rw [e1, e2]
  simp only [Bool.not_eq_true'] at h3 ⊢
  cases e : Nat.beq t' t with
  | false => rfl
  | true => rw [Nat.beq_eq] at e; subst e; simp at h3

/-- Two operations that may change places. -/
def Swp (ops : Array Oper) (bad : Nat → List Nat) (i j : Nat) : Prop := (∃ o o', Free ops bad i j o o') ∨ (∃ o o', FreeS ops bad i j o o') ∨ (∃ o o' s, FreeQ ops bad i j o o' s) ∨ (∃ o o' s, FreeQ ops bad j i o o' s) ∨ (∃ o o', FreeN ops i j o o') ∨ ∃ o o', FreeN ops j i o o'

theorem swap2 {P : Program} {N : Nat} {ad : Nat → Bool} {bad : Nat → List Nat} {i j : Nat} (h : Swp ops bad i j) {K : St → Prop} {st : St} (hw : stepW P N ad ops bad i (stepW P N ad ops bad j K) st) : stepW P N ad ops bad j (stepW P N ad ops bad i K) st := by
  rcases h with ⟨o, o', h⟩ | ⟨o, o', h⟩ | ⟨o, o', s, h⟩ | ⟨o, o', s, h⟩ | ⟨o, o', h⟩ | ⟨o, o', h⟩
  · exact swap h hw
  · exact swapS h hw
  · exact swapQ h hw
  · exact swapQ' h hw
  · exact swapN h hw
  · exact swapN' h hw

theorem freeQ_of {i j : Nat} {o o' : Oper} (hi : ops.toList[i]? = some o) (hj : ops.toList[j]? = some o') (hij : i ≠ j) (h1 : rowBit (rowsA ops) i j = false) (h2 : rowBit (rowsA ops) j i = false) (h : storeQ ops o o' = true) (hm : noMem o'.op = false) :
    ∃ s, FreeQ ops (badOf ops) i j o o' s := by
  unfold storeQ at h
  simp only [Bool.and_eq_true] at h
  obtain ⟨⟨s1, s2⟩, s3⟩ := h
  have b1 := bad_st hi hj hij h1 h2 s1 hm
  have s1' := s1
  unfold isSt at s1'
  split at s1' <;> try (simp at s1'; done)
  rename_i a s v e g d
  have ha : addrOf o = some s := by simp [addrOf, e]
  have hil : i < ops.size := by
    rcases Nat.lt_or_ge i ops.toList.length with h | h
    · simpa using h
    · rw [List.getElem?_eq_none h] at hi; simp at hi
  refine ⟨s, hi, hj, g, d, ⟨a, v, e⟩, bad_app hj hil (fun e => hij e.symm) h2 h1 s2, ?_, b1, bad_addr hi hj hij h1 h2 s1 ha⟩
  intro t ht hd
  rw [hd] at s3
  have := (memN_ok (n := t)).2 ht
  simp [this] at s3

theorem freeN_of {i j : Nat} {o o' : Oper} (hi : ops.toList[i]? = some o) (hj : ops.toList[j]? = some o') (h : storeQ ops o o' = true) (hm : noMem o'.op = true) : FreeN ops i j o o' := by
  unfold storeQ at h
  simp only [Bool.and_eq_true] at h
  obtain ⟨⟨s1, s2⟩, s3⟩ := h
  unfold isSt at s1
  split at s1 <;> try (simp at s1; done)
  rename_i a s v e g d
  refine ⟨hi, hj, g, d, ⟨a, s, v, e⟩, hm, ?_⟩
  intro t ht hd
  rw [hd] at s3
  have := (memN_ok (n := t)).2 ht
  simp [this] at s3

theorem store_noMem {o : Oper} (h : isSt o = true) : noMem o.op = false := by
  unfold isSt at h
  split at h <;> try (simp at h; done)
  rename_i e _ _
  rw [e]; rfl

theorem free_of (h : drawOk ops = true) {i j : Nat} (hi : i < ops.size) (hj : j < ops.size) (hij : i ≠ j) (h1 : rowBit (rowsA ops) i j = false) (h2 : rowBit (rowsA ops) j i = false) :
    Swp ops (badOf ops) i j := by
  simp only [drawOk, drawOkW, Bool.and_eq_true, List.all_eq_true, List.mem_range] at h
  obtain ⟨_, h⟩ := h
  have hp : ∃ o o', ops.toList[i]? = some o ∧ ops.toList[j]? = some o' ∧ (freeOk ops o o' = true ∨ storesOk o o' = true ∨ storeQ ops o o' = true ∨ storeQ ops o' o = true) := by
    rcases Nat.lt_or_gt_of_ne hij with hlt | hgt
    · have := h i hi j hj
      have hb : Nat.ble j i = false := by cases e : Nat.ble j i; rfl; have := Nat.le_of_ble_eq_true e; omega
      have hb2 : Nat.beq i j = false := by cases e : Nat.beq i j; rfl; rw [Nat.beq_eq] at e; exact absurd e hij
      simp only [hb, Bool.false_or, pairOk, hb2, h1, h2] at this
      split at this
      · rename_i o o' e1 e2; exact ⟨o, o', e1, e2, by simpa [or_assoc] using this⟩
      · simp at this
    · have := h j hj i hi
      have hb : Nat.ble i j = false := by cases e : Nat.ble i j; rfl; have := Nat.le_of_ble_eq_true e; omega
      have hb2 : Nat.beq j i = false := by cases e : Nat.beq j i; rfl; rw [Nat.beq_eq] at e; exact absurd e.symm hij
      simp only [hb, Bool.false_or, pairOk, hb2, h1, h2] at this
      split at this
      · rename_i o o' e1 e2; exact ⟨o', o, e2, e1, by rcases (by simpa [or_assoc] using this : freeOk ops o o' = true ∨ storesOk o o' = true ∨ storeQ ops o o' = true ∨ storeQ ops o' o = true) with q | q | q | q; exact .inl (freeOk_symm q); exact .inr (.inl (storesOk_symm q)); exact .inr (.inr (.inr q)); exact .inr (.inr (.inl q))⟩
      · simp at this
  obtain ⟨o, o', e1, e2, hf | hs | hs | hs⟩ := hp
  case inr.inr.inl =>
    cases hm : noMem o'.op with
    | true => exact .inr (.inr (.inr (.inr (.inl ⟨o, o', freeN_of e1 e2 hs hm⟩))))
    | false =>
    obtain ⟨s, hs⟩ := freeQ_of e1 e2 hij h1 h2 hs hm
    exact .inr (.inr (.inl ⟨o, o', s, hs⟩))
  case inr.inr.inr =>
    cases hm : noMem o.op with
    | true => exact .inr (.inr (.inr (.inr (.inr ⟨o', o, freeN_of e2 e1 hs hm⟩))))
    | false =>
    obtain ⟨s, hs⟩ := freeQ_of e2 e1 (fun e => hij e.symm) h2 h1 hs hm
    exact .inr (.inr (.inr (.inl ⟨o', o, s, hs⟩)))
  case inr.inl =>
    right; left
    unfold storesOk at hs
    simp only [Bool.and_eq_true] at hs
    obtain ⟨⟨s1, s2⟩, s3⟩ := hs
    have b1 := bad_st e1 e2 hij h1 h2 s1 (store_noMem s2)
    have b2 := bad_st e2 e1 (fun e => hij e.symm) h2 h1 s2 (store_noMem s1)
    split at s3 <;> try (simp at s3; done)
    rename_i a t v a' t' v' p1 p2
    unfold isSt at s1 s2
    split at s1 <;> try (simp at s1; done)
    rename_i _ _ _ g1 g2 g3
    split at s2 <;> try (simp at s2; done)
    rename_i _ _ _ k1 k2 k3
    refine ⟨o, o', e1, e2, g2, k2, g3, k3, ⟨a, t, v, a', t', v', p1, p2, ?_⟩, b1, b2⟩
    rintro rfl
    simp at s3
  left
  unfold freeOk at hf
  simp only [Bool.and_eq_true, Bool.not_eq_true', Bool.and_eq_false_iff] at hf
  obtain ⟨⟨⟨⟨⟨f1, f2⟩, f3⟩, f4⟩, f5⟩, f6⟩ := hf
  refine ⟨o, o', e1, e2, bad_app e1 hj hij h1 h2 f1, bad_app e2 hi (fun e => hij e.symm) h2 h1 f2, ?_, ?_, ?_, ?_, ?_, ?_⟩
  · rintro ⟨q1, q2⟩; rcases f3 with f | f <;> simp_all
  · intro t ht e
    rw [e] at f4
    have := (memN_ok (n := t)).2 ht
    simp [this] at f4
  · intro t ht e
    rw [e] at f5
    have := (memN_ok (n := t)).2 ht
    simp [this] at f5
  · intro x a b
    rw [a, b] at f6
    simp at f6
  · intro d hd
    exact bad_mem hj h1 (by simp [dstOf, e2, hd])
  · intro d hd
    exact bad_mem hi h2 (by simp [dstOf, e1, hd])

def foldS (step : Nat → (St → Prop) → St → Prop) : List Nat → (St → Prop) → St → Prop
  | [], K => K
  | i :: r, K => step i (foldS step r K)

/-- Two steps may change places. -/
def Swap (step : Nat → (St → Prop) → St → Prop) (i j : Nat) : Prop := ∀ K st, step i (step j K) st → step j (step i K) st

theorem foldS_move {step : Nat → (St → Prop) → St → Prop} (mono : ∀ i (K K' : St → Prop) st, (∀ st, K st → K' st) → step i K st → step i K' st) {x : Nat} {B : List Nat} {K : St → Prop} : ∀ (A : List Nat) (st : St), (∀ y, y ∈ A → Swap step y x) → foldS step (A ++ x :: B) K st → foldS step (x :: (A ++ B)) K st
  | [], st, _, h => h
  | a :: A, st, hf, h => by
    have h2 : step a (foldS step (x :: (A ++ B)) K) st := mono _ _ _ _ (fun st hs => foldS_move mono A st (fun y hy => hf y (by simp [hy])) hs) h
    exact hf a (by simp) _ _ h2

theorem reorderG (hd : edgesDown ops = true) {step : Nat → (St → Prop) → St → Prop} (mono : ∀ i (K K' : St → Prop) st, (∀ st, K st → K' st) → step i K st → step i K' st)
    (hsw : ∀ i j, i < ops.size → j < ops.size → i ≠ j → rowBit (rowsA ops) i j = false → rowBit (rowsA ops) j i = false → Swap step i j) {K : St → Prop} : ∀ (l2 l1 C : List Nat), (∀ e, e ∈ C → ∀ j, rowBit (rowsA ops) e j = true → j ∈ C) → VF (edges ops) C l1 → VF (edges ops) C l2 →
    (C ++ l1).Nodup → (∀ x, x ∈ l1 ↔ x ∈ l2) → l2.Nodup → (∀ x, x ∈ l1 → x < ops.size) → ∀ st, foldS step l1 K st → foldS step l2 K st := by
  intro l2
  induction l2 with
  | nil =>
    intro l1 C _ _ _ _ hm _ _ st hw
    cases l1 with
    | nil => exact hw
    | cons y l => have := (hm y).1 (by simp); simp at this
  | cons x l2 ih =>
    intro l1 C hC hv1 hv2 hn hm hn2 hlt st hw
    obtain ⟨A, B, rfl⟩ := List.append_of_mem ((hm x).2 (by simp))
    have hxC : x ∉ C := by
      intro hx
      rw [List.nodup_append] at hn
      exact hn.2.2 x hx x (by simp) rfl
    have hfree : ∀ y, y ∈ A → Swap step y x := by
      intro y hy
      have hyl : y ∈ A ++ x :: B := by simp [hy]
      have hyC : y ∉ C := by
        intro hx
        rw [List.nodup_append] at hn
        exact hn.2.2 y hx y hyl rfl
      have hne : y ≠ x := by
        rintro rfl
        rw [List.nodup_append] at hn
        have := hn.2.1
        rw [List.nodup_append] at this
        exact this.2.2 y hy y (by simp) rfl
      refine hsw y x (hlt y hyl) (hlt x (by simp)) hne ?_ ?_
      · cases e : rowBit (rowsA ops) y x with
        | false => rfl
        | true =>
          exfalso
          obtain ⟨A1, A2, rfl⟩ := List.append_of_mem hy
          rcases prec hd hC hv1 y A1 (A2 ++ x :: B) (by simp) x e with q | q
          · exact hxC q
          · rw [List.nodup_append] at hn
            have := hn.2.1
            rw [List.nodup_append] at this
            exact this.2.2 x (by simp [q]) x (by simp) rfl
      · cases e : rowBit (rowsA ops) x y with
        | false => rfl
        | true =>
          exfalso
          rcases prec hd hC hv2 x [] l2 rfl y e with q | q
          · exact hyC q
          · simp at q
    have h1 := foldS_move mono A st hfree hw
    refine mono _ _ _ _ (fun st hs => ih (A ++ B) (x :: C) ?_ (VF_move A C hv2.1 hv1) hv2.2 ?_ ?_ ?_ ?_ st hs) h1
    · intro e he j hj
      rcases List.mem_cons.1 he with rfl | he
      · rcases prec hd hC hv2 e [] l2 rfl j hj with q | q
        · simp [q]
        · simp at q
      · simp [hC e he j hj]
    · have : (C ++ (A ++ x :: B)).Perm (x :: C ++ (A ++ B)) := by
        refine (List.Perm.append_left C (List.perm_middle (a := x) (l₁ := A) (l₂ := B))).trans ?_
        exact List.perm_middle
      exact this.nodup_iff.1 hn
    · intro z
      have hnA : (A ++ x :: B).Nodup := by rw [List.nodup_append] at hn; exact hn.2.1
      have hx2 : x ∉ l2 := (List.nodup_cons.1 hn2).1
      have hxAB : x ∉ A ++ B := by
        have := (List.perm_middle (a := x) (l₁ := A) (l₂ := B)).nodup_iff.1 hnA
        exact (List.nodup_cons.1 this).1
      have := hm z
      constructor
      · intro hz
        have hne : z ≠ x := by rintro rfl; exact hxAB hz
        have hz' : z ∈ A ++ x :: B := by simp at hz ⊢; rcases hz with q | q <;> simp [q]
        have := this.1 hz'
        simpa [hne] using this
      · intro hz
        have hne : z ≠ x := by rintro rfl; exact hx2 hz
        have := this.2 (by simp [hz])
        simpa [hne] using this
    · exact (List.nodup_cons.1 hn2).2
    · intro z hz
      exact hlt z (by simp at hz ⊢; rcases hz with q | q <;> simp [q])

theorem VF_snoc {E : Nat → List Nat} : ∀ (l C : List Nat) (x : Nat), VF E C l → (∀ e, e ∈ E x → e ∈ C ∨ e ∈ l) → VF E C (l ++ [x])
  | [], C, x, _, h => ⟨fun e he => by rcases h e he with q | q; exact q; simp at q, trivial⟩
  | y :: l, C, x, hv, h => ⟨hv.1, VF_snoc l (y :: C) x hv.2 (fun e he => by
      rcases h e he with q | q
      · exact .inl (by simp [q])
      · rcases List.mem_cons.1 q with q | q
        · exact .inl (by simp [q])
        · exact .inr q)⟩

theorem filter_lt {α : Type} {p q : α → Bool} (hpq : ∀ x, q x = true → p x = true) : ∀ (l : List α) (i : α), i ∈ l → p i = true → q i = false → (l.filter q).length < (l.filter p).length
  | [], i, hi, _, _ => by simp at hi
  | x :: l, i, hi, hp, hq => by
    have hle : (l.filter q).length ≤ (l.filter p).length := by
      clear hi
      induction l with
      | nil => simp
      | cons y l ih =>
        simp only [List.filter_cons]
        cases e : q y with
        | true => rw [hpq y e]; simpa using ih
        | false => cases p y <;> simp <;> omega
    simp only [List.filter_cons]
    rcases List.mem_cons.1 hi with rfl | hi
    · rw [hp, hq]; simp; omega
    · have := filter_lt hpq l i hi hp hq
      cases e : q x with
      | true => rw [hpq x e]; simpa using this
      | false => cases p x <;> simp <;> omega

theorem linearise_ok (hd : edgesDown ops = true) (t : Nat) : (Region.linearise .any ops t).Nodup ∧ (∀ i, i ∈ Region.linearise .any ops t ↔ i < ops.size) ∧ VF (edges ops) [] (Region.linearise .any ops t) := by
  have key : ∀ (fuel t : Nat) (listed : Array Bool) (acc : List Nat), listed.size = ops.size → acc.reverse.Nodup → (∀ i, i ∈ acc ↔ listed.getD i false = true) → (∀ i, i ∈ acc → i < ops.size) → VF (edges ops) [] acc.reverse →
      ((List.range ops.size).filter fun i => !listed.getD i false).length ≤ fuel →
      (Region.linearise.go .any ops fuel t listed acc).Nodup ∧ (∀ i, i ∈ Region.linearise.go .any ops fuel t listed acc ↔ i < ops.size) ∧ VF (edges ops) [] (Region.linearise.go .any ops fuel t listed acc) := by
    intro fuel
    induction fuel with
    | zero =>
      intro t listed acc hs hn hm hlt hv hf
      simp only [Region.linearise.go]
      refine ⟨hn, fun i => ⟨fun hi => hlt i (by simpa using hi), fun hi => ?_⟩, hv⟩
      have he : ((List.range ops.size).filter fun i => !listed.getD i false) = [] := List.eq_nil_of_length_eq_zero (by omega)
      have := List.filter_eq_nil_iff.1 he i (by simpa using hi)
      simp only [Bool.not_eq_true', Bool.not_eq_false] at this
      simpa using (hm i).2 this
    | succ fuel ih =>
      intro t listed acc hs hn hm hlt hv hf
      simp only [Region.linearise.go]
      generalize hrs : (List.range ops.size).filter (fun i => !listed.getD i true && ((ops[i]?).map (·.after.all fun e => !Region.binds .any e || listed.getD e.on false)).getD false) = rs
      have hd' : ∀ i b, i < ops.size → listed.getD i b = listed.getD i false := by
        intro i b hi
        simp [Array.getD_eq_getD_getElem?, Array.getElem?_eq_getElem (show i < listed.size by omega)]
      have hmem : ∀ i, i ∈ rs ↔ i < ops.size ∧ listed.getD i false = false ∧ ∀ e, e ∈ edges ops i → listed.getD e false = true := by
        intro i
        rw [← hrs, List.mem_filter, List.mem_range, Bool.and_eq_true, Bool.not_eq_true']
        constructor
        · rintro ⟨h1, h2, h3⟩
          rw [hd' i true h1] at h2
          refine ⟨h1, h2, fun e he => ?_⟩
          unfold edges edgesOf at he
          rw [Array.getElem?_toList] at he
          cases ho : ops[i]? with
          | none => rw [ho] at he; simp at he
          | some o =>
            rw [ho] at he h3
            simp only [Option.map_some, Option.getD_some, List.mem_map, List.mem_filter] at he h3
            obtain ⟨ed, ⟨q1, q2⟩, rfl⟩ := he
            rw [Array.all_eq_true] at h3
            obtain ⟨k, hk, hke⟩ := List.mem_iff_getElem.1 q1
            have := h3 k (by simpa using hk)
            simp only [Array.getElem_toList] at hke
            rw [hke, q2] at this
            simpa using this
        · rintro ⟨h1, h2, h3⟩
          refine ⟨h1, by rw [hd' i true h1]; exact h2, ?_⟩
          rw [Array.getElem?_eq_getElem h1]
          simp only [Option.map_some, Option.getD_some]
          rw [Array.all_eq_true]
          intro k hk
          cases hb : Region.binds .any ops[i].after[k] with
          | false => simp
          | true =>
            have := h3 ops[i].after[k].on (by
              unfold edges edgesOf
              rw [Array.getElem?_toList, Array.getElem?_eq_getElem h1]
              simp only [List.mem_map, List.mem_filter]
              exact ⟨_, ⟨by simp, hb⟩, rfl⟩)
            simpa using this
      cases hg : rs[t % rs.length]? with
      | none =>
        have hnil : rs = [] := by
          cases rs with
          | nil => rfl
          | cons x rs => rw [List.getElem?_eq_getElem (Nat.mod_lt _ (by simp))] at hg; simp at hg
        have hall : ∀ i, i < ops.size → listed.getD i false = true := by
          intro i
          induction i using Nat.strongRecOn with
          | _ i ihi =>
            intro hi
            cases e : listed.getD i false with
            | true => rfl
            | false =>
              exfalso
              have : i ∈ rs := (hmem i).2 ⟨hi, e, fun e' he' => by
                have h1 := List.all_eq_true.1 hd i (by simpa using hi)
                have h2 := Nat.le_of_ble_eq_true (List.all_eq_true.1 h1 e' he')
                exact ihi e' h2 (Nat.lt_trans h2 hi)⟩
              rw [hnil] at this; simp at this
        exact ⟨hn, fun i => ⟨fun hi => hlt i (by simpa using hi), fun hi => by simpa using (hm i).2 (hall i hi)⟩, hv⟩
      | some i =>
        have hi : i ∈ rs := List.mem_of_getElem? hg
        obtain ⟨h1, h2, h3⟩ := (hmem i).1 hi
        have hnot : i ∉ acc := fun h => by rw [(hm i).1 h] at h2; simp at h2
        have hset : ∀ k, (listed.setIfInBounds i true).getD k false = (if k = i then true else listed.getD k false) := by
          intro k
          simp only [Array.getD_eq_getD_getElem?, Array.getElem?_setIfInBounds]
          by_cases e : i = k
          · subst e; simp [hs, h1]
          · rw [if_neg e, if_neg (fun e' => e e'.symm)]
        refine ih _ _ _ (by simpa using hs) ?_ ?_ ?_ ?_ ?_
        · rw [List.reverse_cons, List.nodup_append]
          refine ⟨hn, by simp, ?_⟩
          intro a ha b hb e
          simp at hb ha
          rw [e, hb] at ha
          exact hnot ha
        · intro k
          rw [hset]
          by_cases e : k = i
          · subst e; simp
          · rw [if_neg e]; simp [e, hm k]
        · intro k hk
          rcases List.mem_cons.1 hk with rfl | hk
          · exact h1
          · exact hlt k hk
        · rw [List.reverse_cons]
          exact VF_snoc _ _ _ hv (fun e he => .inr (by simpa using (hm e).2 (h3 e he)))
        · have := filter_lt (p := fun k => !listed.getD k false) (q := fun k => !(listed.setIfInBounds i true).getD k false)
            (by intro k hk; simp only [hset] at hk; by_cases e : k = i <;> simp_all) (List.range ops.size) i (by simpa using h1) (by simp only [h2]; rfl) (by simp only [hset]; simp)
          omega
  refine key ops.size t (Array.replicate ops.size false) [] (by simp) (by simp) ?_ (by simp) trivial ?_
  · intro i
    simp only [List.not_mem_nil, false_iff]
    rw [Array.getD_eq_getD_getElem?, Array.getElem?_replicate]
    split <;> simp
  · exact Nat.le_trans (List.length_filter_le _ _) (by simp)

theorem VF_range (hd : edgesDown ops = true) : VF (edges ops) [] (List.range ops.size) := by
  have key : ∀ n, n ≤ ops.size → VF (edges ops) [] (List.range n) := by
    intro n
    induction n with
    | zero => intro _; trivial
    | succ n ih =>
      intro hn
      rw [List.range_succ]
      refine VF_snoc _ _ _ (ih (by omega)) (fun e he => .inr ?_)
      have h1 := List.all_eq_true.1 hd n (by simp; omega)
      have h2 := Nat.le_of_ble_eq_true (List.all_eq_true.1 h1 e he)
      have h3 : e < n := h2
      simpa using h3
  exact key _ (Nat.le_refl _)

/-- Whatever order is drawn. -/
theorem drawnG {m : Bool} (hd : edgesDown ops = true) {step : Nat → (St → Prop) → St → Prop} (mono : ∀ i (K K' : St → Prop) st, (∀ st, K st → K' st) → step i K st → step i K' st)
    (hsw : ∀ i j, i < ops.size → j < ops.size → i ≠ j → rowBit (rowsA ops) i j = false → rowBit (rowsA ops) j i = false → Swap step i j) {K : St → Prop} (hm : (m || !Region.departs ops) = true) {st : St}
    (hw : foldS step (List.range ops.size) K st) (t : Nat) : foldS step (Region.schedule m ops t) K st := by
  have hs : Region.schedule m ops t = Region.linearise .any ops t := by
    unfold Region.schedule; rw [if_pos hm]
  rw [hs]
  obtain ⟨h1, h2, h3⟩ := linearise_ok hd t
  exact reorderG hd mono hsw (Region.linearise .any ops t) (List.range ops.size) [] (by simp) (VF_range hd) h3 (by simpa using List.nodup_range) (by intro x; rw [h2 x]; simp) h1 (by simp) st hw

end

end Go.VM

namespace Go.VM

open Go Go.RowKit

def St.freezes (st : St) : List Nat → Option St
  | [] => some st
  | b :: l => match st.freeze b with
    | some st => st.freezes l
    | none => none

section

variable {P : Program} {base : Mine} {w0 w : World} {F0 F : Nat → Prop} {ι : Nat → Option Ref} {N : Nat} {st : St} {a : Act}

theorem Ok.drew (h : Ok base w0 F0 N st a w) : Ok base w0 F0 N st a { w with drawn := w.drawn + 1 } := by
  obtain ⟨hN, F, ι, hs⟩ := h
  have hF : ∀ b, F b → w.drew.heap[b]? = w.heap[b]? := fun _ _ => rfl
  refine ⟨hN, F, ι, ⟨fun s v hv => vrep_mono (w' := w.drew) (fun _ h => h) (fun _ _ h => h) hF (hs.env s v hv), ?_, hs.used, hs.apart, hs.fsize, hs.fin, hs.below.drew, hs.size, hs.upin, hs.pools, hs.pin, hs.defers⟩⟩
  intro b k hb
  obtain ⟨r, hr, q⟩ := hs.heap b k hb
  exact ⟨r, hr, brep_mono (w := w) (w' := w.drew) (fun _ _ h => h) (fun _ _ h => h) (fun _ _ _ _ _ _ _ _ _ => rfl) hF (fun _ => rfl) q⟩

theorem Ok.freezes : ∀ (l : List Nat) {st st' : St}, Ok base w0 F0 N st a w → st.freezes l = some st' → Ok base w0 F0 N st' a w
  | [], st, st', h, hf => by simp only [St.freezes, Option.some.injEq] at hf; subst hf; exact h
  | b :: l, st, st', h, hf => by
    simp only [St.freezes] at hf
    split at hf <;> try (simp at hf; done)
    rename_i s hs
    exact Ok.freezes l (h.freeze hs) hf

end

end Go.VM

namespace Go.VM

open Go Go.RowKit

/-- What is done ahead of an operation: a list is given away; a list of nil lists becomes one of handles; a list becomes a row; a pool is given away. -/
inductive Pre where
  | frz (b : Nat)
  | opn (b p : Nat)
  | giv (d p : Nat)
  | frp (p : Nat)

instance (n : Nat) : OfNat Pre n := ⟨.frz n⟩

abbrev nilAll {α : Type} (l : Option (List (Option α))) : Prop := ∀ y, y ∈ lst l → Option.isNone y = true

abbrev hdL {α : Type} (l : Option (List (Option α))) : Option (List (Option Nat)) := l.map fun l => l.map fun _ => none

abbrev gvH {α : Type} (l : Option α) (n : Nat) : Option Nat := l.map fun _ => n

abbrev gvL {α : Type} (ls : List (List α)) (l : Option (List α)) : List (List α) := ls ++ l.toList

abbrev lenL {α : Type} (ls : List α) : Nat := ls.length

abbrev unH {α : Type} (ls : List (List α)) (x : Option Nat) : Option (List α) := x.map fun n => ls.getD n []

abbrev mapL {α β : Type} (f : α → β) (l : Option (List α)) : Option (List β) := l.map fun l => l.map f

def opnV (st : St) (b p : Nat) : (t : Ty) → Option (List (den t)) → Option (Prop × St)
  | .sl t, l => bif !st.used p && Nat.blt p hbase && valT t && Nat.blt b hbase then some (nilAll l, ⟨st.env, upd (upd st.heap b (some (.arr (.hd p) (hdL l)))) p (some (.pool p t [])), upd st.used p true⟩) else none
  | _, _ => none

def St.opn (st : St) (b p : Nat) : Option (Prop × St) :=
  match st.heap b with
  | some (.arr t l) => opnV st b p t l
  | _ => none

/-- A local list becomes a row. -/
def gv (d p : Nat) (x : Option Nat) : (t : Ty) → den t → V
  | .own c, _ => bif Nat.beq c d then ⟨.hd p, x⟩ else ⟨.own c, ()⟩
  | .pair a b, y => ⟨.pair (gv d p x a y.1).t (gv d p x b y.2).t, ((gv d p x a y.1).x, (gv d p x b y.2).x)⟩
  | .agg c, y => ⟨.agg (gv d p x c y).t, (gv d p x c y).x⟩
  | t, y => ⟨t, y⟩

def gvE (d p : Nat) (x : Option Nat) : Option V → Option V
  | some v => some (gv d p x v.t v.x)
  | none => none

def gvB (d p : Nat) (x : Option Nat) : Option Blk → Option Blk
  | some (.box t y) => some (.box (gv d p x t y).t (gv d p x t y).x)
  | k => k

def St.giv (st : St) (d p : Nat) : Option St :=
  match st.heap d with
  | some (.arr t l) => match st.heap p with
    | some (.pool q u ls) => match castT (.sl u) (.sl t) l with
      | some l' => bif Nat.beq p q && !pinned p then some ⟨fun s => gvE d p (gvH l' (lenL ls)) (st.env s), fun c => bif Nat.beq c d then none else bif Nat.beq c p then some (.pool p u (gvL ls l')) else gvB d p (gvH l' (lenL ls)) (st.heap c), st.used⟩ else none
      | none => none
    | _ => none
  | _ => none

/-- A pool is given away. -/
def unT (p : Nat) (u : Ty) : Ty → Ty
  | .hd q => bif Nat.beq q p then .sl u else .hd q
  | .pair a b => .pair (unT p u a) (unT p u b)
  | .agg c => .agg (unT p u c)
  | t => t

def unB (u : Ty) (q : Nat) (ls : List (List (den u))) : (b : Bool) → Option Nat → den (bif b then .sl u else .hd q)
  | true, x => unH ls x
  | false, x => x

def unX (p : Nat) (u : Ty) (ls : List (List (den u))) : (t : Ty) → den t → den (unT p u t)
  | .hd q, x => unB u q ls (Nat.beq q p) x
  | .pair a b, x => (unX p u ls a x.1, unX p u ls b x.2)
  | .agg c, x => unX p u ls c x
  | .int _, x => x
  | .bool, x => x
  | .str, x => x
  | .cst _, x => x
  | .sl _, x => x
  | .unit, x => x
  | .arr _ _, x => x
  | .tup _, x => x
  | .ref _ _, x => x
  | .own _, x => x
  | .eref _ _, x => x
  | .fref _, x => x
  | .vw _, x => x
  | .clo _ _, x => x
  | .her _ _, x => x
  | .nul, x => x

def unE (p : Nat) (u : Ty) (ls : List (List (den u))) : Option V → Option V
  | some v => some ⟨unT p u v.t, unX p u ls v.t v.x⟩
  | none => none

def unK (p : Nat) (u : Ty) (ls : List (List (den u))) : Option Blk → Option Blk
  | some (.box t x) => some (.box (unT p u t) (unX p u ls t x))
  | some (.arr t l) => some (.arr (unT p u t) (mapL (unX p u ls t) l))
  | some (.pool q t l) => some (.pool q (unT p u t) (l.map (List.map (unX p u ls t))))
  | none => none

def St.frp (st : St) (p : Nat) : Option St :=
  match st.heap p with
  | some (.pool q u ls) => bif Nat.beq p q && frozen u then some ⟨fun s => unE p u ls (st.env s), fun c => bif Nat.beq c p then none else unK p u ls (st.heap c), st.used⟩ else none
  | _ => none

/-- These are done one after the other. -/
def preK : List Pre → (St → Prop) → St → Prop
  | [], K, st => K st
  | .frz b :: l, K, st => match st.freeze b with
    | some st => preK l K st
    | none => preK l K st
  | .opn b p :: l, K, st => match st.opn b p with
    | some (c, st) => c ∧ preK l K st
    | none => False
  | .giv d p :: l, K, st => match st.giv d p with
    | some st => preK l K st
    | none => False
  | .frp p :: l, K, st => match st.frp p with
    | some st => preK l K st
    | none => False

section

variable {P : Program} {base : Mine} {w0 w : World} {F0 F : Nat → Prop} {ι : Nat → Option Ref} {N : Nat} {st : St} {a : Act}

theorem below_isH {b : Nat} (h : Nat.blt b hbase = true) : isH b = false := by
  have h := Nat.le_of_ble_eq_true h
  unfold isH
  cases e : Nat.ble hbase b with
  | false => rfl
  | true => have := Nat.le_of_ble_eq_true e; omega

theorem Ok.opn (h : Ok base w0 F0 N st a w) {b p : Nat} {c : Prop} {st' : St} (ho : st.opn b p = some (c, st')) (hc : c) : Ok base w0 F0 N st' a w := by
  obtain ⟨hN, F, ι, hs⟩ := h
  unfold St.opn at ho
  split at ho <;> try (simp at ho; done)
  rename_i t l hb
  unfold opnV at ho
  split at ho <;> try (simp at ho; done)
  rename_i t l
  obtain ⟨hq, ho⟩ := bif_some ho
  simp only [Prod.mk.injEq] at ho
  obtain ⟨rfl, rfl⟩ := ho
  simp only [Bool.and_eq_true, Bool.not_eq_true'] at hq
  obtain ⟨⟨⟨hu, hp⟩, hval⟩, hbs⟩ := hq
  obtain ⟨hip, hhp, hH⟩ := hs.unused hu
  have hp' : p < hbase := Nat.le_of_ble_eq_true hp
  have hne : b ≠ p := by rintro rfl; rw [hb] at hhp; cases hhp
  have hι : ∀ c r, ι c = some r → upd ι p (some nilRef) c = some r := by
    intro c r e
    by_cases hc : c = p
    · subst hc; rw [hip] at e; cases e
    · rw [upd_other _ _ _ _ hc]; exact e
  have hHι : ∀ c, isH c = true → upd ι p (some nilRef) c = ι c := fun c hc => upd_other _ _ _ _ fun e => by rw [e, hH] at hc; cases hc
  have hheap : ∀ c k, upd (upd st.heap b (some (.arr (.hd p) (hdL l)))) p (some (.pool p t [])) c = some k → (c = p ∧ k = .pool p t []) ∨ (c = b ∧ k = .arr (.hd p) (hdL l)) ∨ (c ≠ p ∧ c ≠ b ∧ st.heap c = some k) := by
    intro c k e
    rcases upd_some e with ⟨rfl, e⟩ | ⟨h1, e⟩
    · exact .inl ⟨rfl, (Option.some.inj e).symm⟩
    · rcases upd_some e with ⟨h2, e2⟩ | ⟨h2, e2⟩
      · exact .inr (.inl ⟨h2, (Option.some.inj e2).symm⟩)
      · exact .inr (.inr ⟨h1, h2, e2⟩)
  have hrow : ∀ c k, prow (upd (upd st.heap b (some (.arr (.hd p) (hdL l)))) p (some (.pool p t []))) c = some k → prow st.heap c = some k := by
    intro c k e
    obtain ⟨q, n, q', u, ls, m, hq, rfl, h1, h2, rfl⟩ := prow_some e
    rcases hheap _ _ h1 with ⟨_, e⟩ | ⟨_, e⟩ | ⟨_, _, e⟩
    · cases e; simp at h2
    · cases e
    · rw [prow_hn hq, e]; simp only [rowB, h2]
  have hold : ∀ c k, upd (upd st.heap b (some (.arr (.hd p) (hdL l)))) p (some (.pool p t [])) c = some k → c ≠ p → ∃ k0, st.heap c = some k0 := by
    intro c k e hc
    rcases hheap _ _ e with ⟨e, _⟩ | ⟨rfl, _⟩ | ⟨_, _, e⟩
    · exact absurd e hc
    · exact ⟨_, hb⟩
    · exact ⟨_, e⟩
  have hnil : ∀ r, upd ι p (some nilRef) p = some r → r.nil = true := by intro r e; rw [upd_same] at e; cases e; rfl
  refine ⟨hN, F, upd ι p (some nilRef), ⟨fun s v hv => vrep_mono (fun _ h => h) hι (fun _ _ => rfl) (hs.env s v hv), ?_, ?_, ?_, hs.fsize, hs.fin, hs.below, hs.size, ?_, ?_, ?_, hs.defers⟩⟩
  · intro c k hk
    rcases hheap _ _ hk with ⟨rfl, rfl⟩ | ⟨rfl, rfl⟩ | ⟨h1, h2, e⟩
    · exact ⟨nilRef, upd_same _ _ _, rfl, hp', hval, fun n _ => (hHι _ (isH_hn _ _)).trans (hs.pools.free _ n hp' hu), fun n m hm => by simp at hm⟩
    · obtain ⟨r, hr, q0, q⟩ := hs.heap _ _ hb
      refine ⟨r, hι _ _ hr, rfl, ?_⟩
      cases l with
      | none => exact q
      | some l =>
        obtain ⟨q1, q2, q3, q4, q5, q6, cells, el, qe, q7, q8, q9⟩ := q
        refine ⟨q1, q2, by simpa using q3, q4, q5, q6, cells, el, (fun e => by cases e), q7, q8, fun i y hy => ?_⟩
        simp only [List.getElem?_map, Option.map_eq_some_iff] at hy
        obtain ⟨z, hz, rfl⟩ := hy
        have h9 := q9 i z hz
        have hzn := hc z (List.mem_of_getElem? hz)
        cases z with
        | some z => cases hzn
        | none => exact h9
    · obtain ⟨r, hr, q⟩ := hs.heap _ _ e
      exact ⟨r, hι _ _ hr, brep_mono hι (fun c hc hn => (hHι c hc).trans hn) (fun _ _ _ _ _ _ _ _ _ => rfl) (fun _ _ => rfl) (fun _ => rfl) q⟩
  · intro c r hr
    rcases upd_some hr with ⟨rfl, _⟩ | ⟨h1, e⟩
    · exact upd_same _ _ _
    · show upd st.used p true c = true
      rw [upd_other _ _ _ _ h1]; exact hs.used _ _ e
  · intro c d k k' r r' hcd hc' hd hr hr' hn hn'
    by_cases e1 : c = p
    · subst e1; rw [hnil r hr] at hn; cases hn
    by_cases e2 : d = p
    · subst e2; rw [hnil r' hr'] at hn'; cases hn'
    obtain ⟨k0, f1⟩ := hold _ _ hc' e1
    obtain ⟨k1, f2⟩ := hold _ _ hd e2
    rw [upd_other _ _ _ _ e1] at hr
    rw [upd_other _ _ _ _ e2] at hr'
    exact hs.apart c d k0 k1 r r' hcd f1 f2 hr hr' hn hn'
  · intro n hn
    show upd st.used p true n = true
    by_cases e : n = p
    · subst e; exact upd_same _ _ _
    · rw [upd_other _ _ _ _ e]; exact hs.upin n hn
  · refine ⟨fun c hc' => ?_, fun c hc' => ?_, fun c q u ls e => ?_, fun c d k k' r r' hcd hc' hd hr hr' hn => ?_, fun q n hq hf => ?_⟩
    · show upd (upd st.heap b _) p _ c = none
      rw [upd_other _ _ _ _ (fun e => by rw [e, hH] at hc'; cases hc'), upd_other _ _ _ _ (fun e => by rw [e, below_isH hbs] at hc'; cases hc')]
      exact hs.pools.noH c hc'
    · show upd st.used p true c = true
      rw [upd_other _ _ _ _ (fun e => by rw [e, hH] at hc'; cases hc')]; exact hs.pools.uH c hc'
    · rcases hheap _ _ e with ⟨rfl, e⟩ | ⟨_, e⟩ | ⟨_, _, e⟩
      · cases e; rfl
      · cases e
      · exact hs.pools.self _ _ _ _ e
    · have hcH : isH c = true := by obtain ⟨_, _, _, _, _, _, _, e, _⟩ := prow_some hc'; rw [e]; exact isH_hn _ _
      rw [hHι c hcH] at hr
      rcases hd with hd | hd
      · have hdH : isH d = true := by obtain ⟨_, _, _, _, _, _, _, e, _⟩ := prow_some hd; rw [e]; exact isH_hn _ _
        rw [hHι d hdH] at hr'
        exact hs.pools.apart c d _ _ r r' hcd (hrow _ _ hc') (.inl (hrow _ _ hd)) hr hr' hn
      · by_cases e2 : d = p
        · subst e2; rw [hnil r' hr'] at hn; cases hn
        rw [upd_other _ _ _ _ e2] at hr'
        obtain ⟨k1, f2⟩ := hold _ _ hd e2
        exact hs.pools.apart c d _ _ r r' hcd (hrow _ _ hc') (.inr f2) hr hr' hn
    · have hqp : q ≠ p := by rintro rfl; have := upd_same st.used q true; rw [show upd st.used q true q = false from hf] at this; cases this
      rw [hHι _ (isH_hn _ _)]
      refine hs.pools.free q n hq ?_
      have hf : upd st.used p true q = false := hf
      rw [upd_other _ _ _ _ hqp] at hf; exact hf
  · intro n r r' hn hp1 hr
    by_cases e : n = p
    · subst e
      have := hs.upin n hn
      rw [hu] at this; cases this
    · rw [upd_other _ _ _ _ e] at hr
      exact hs.pin n r r' hn hp1 hr

theorem gv_hd (d p : Nat) (X : Option Nat) (t : Ty) (x : den t) : hdT (gv d p X t x).t = hdT t := by
  cases t with
  | own c => simp only [gv]; cases Nat.beq c d <;> rfl
  | _ => rfl

theorem gv_hd2 (d p : Nat) (X : Option Nat) (t : Ty) (x : den t) : hd2 (gv d p X t x).t = hd2 t := by
  cases t with
  | own c => simp only [gv]; cases Nat.beq c d <;> rfl
  | agg c => cases c with
    | pair u v =>
      show (hdT (gv d p X u (x : den u × den v).1).t, hdT (gv d p X v (x : den u × den v).2).t) = (hdT u, hdT v)
      rw [gv_hd, gv_hd]
    | own c => simp only [gv]; cases Nat.beq c d <;> rfl
    | _ => rfl
  | _ => rfl

theorem gv_tags (d p : Nat) (X : Option Nat) (t : Ty) (x : den t) : isAggT (gv d p X t x).t = isAggT t ∧ cellT (gv d p X t x).t = cellT t := by
  cases t with
  | own c => simp only [gv]; cases Nat.beq c d <;> exact ⟨rfl, rfl⟩
  | _ => exact ⟨rfl, rfl⟩

theorem gv_rep {ι' : Nat → Option Ref} {d p : Nat} {X : Option Nat} {r : Ref} (hι : ∀ b r, ι b = some r → ι' b = some r) (hd : ι d = some r) (hown : rep w F ι' (.hd p) X [r.val]) :
    ∀ (t : Ty) (x : den t) (cs : List Value), rep w F ι t x cs → rep w F ι' (gv d p X t x).t (gv d p X t x).x cs := by
  have same : ∀ (t : Ty) (x : den t) (cs : List Value), rep w F ι t x cs → rep w F ι' t x cs := fun t x cs h => rep_mono (fun _ h => h) hι (fun _ _ => rfl) t x cs h
  intro t
  induction t with
  | own c =>
    intro x cs h
    cases e : Nat.beq c d
    · have e2 : gv d p X (.own c) x = ⟨.own c, ()⟩ := by show (bif Nat.beq c d then _ else _) = _; rw [e]; rfl
      rw [e2]; exact same _ _ _ h
    · have e2 : gv d p X (.own c) x = ⟨.hd p, X⟩ := by show (bif Nat.beq c d then _ else _) = _; rw [e]; rfl
      rw [Nat.beq_eq] at e; subst e
      rw [e2]
      simp only [rep] at h
      obtain ⟨r', hr', rfl⟩ := h
      rw [hd] at hr'; cases hr'
      exact hown
  | pair a c iha ihb =>
    intro x cs h
    simp only [rep] at h
    obtain ⟨c1, c2, rfl, h1, h2⟩ := h
    simp only [gv, rep]
    exact ⟨c1, c2, rfl, iha _ _ h1, ihb _ _ h2⟩
  | agg c ih =>
    intro x cs h
    simp only [rep] at h
    simp only [gv, rep]
    exact ih _ _ h
  | _ => intro x cs h; exact same _ _ _ h

theorem gv_vrep {ι' : Nat → Option Ref} {d p : Nat} {X : Option Nat} {r : Ref} (hι : ∀ b r, ι b = some r → ι' b = some r) (hd : ι d = some r) (hown : rep w F ι' (.hd p) X [r.val]) {t : Ty} {x : den t} {v : Value} (h : vrep w F ι t x v) :
    vrep w F ι' (gv d p X t x).t (gv d p X t x).x v := by
  have same : vrep w F ι' t x v := vrep_mono (fun _ h => h) hι (fun _ _ => rfl) h
  have htag := gv_tags d p X t x
  by_cases hv : valT t = true
  · rcases valT_or hv with h1 | h1
    · rw [vrep_agg (htag.1.trans h1)]
      rw [vrep_agg h1] at h
      obtain ⟨cs, rfl, h⟩ := h
      exact ⟨cs, rfl, gv_rep hι hd hown _ _ _ h⟩
    · rw [vrep_cell (htag.2.trans h1)]
      rw [vrep_cell h1] at h
      exact gv_rep hι hd hown _ _ _ h
  · cases t <;> first
      | exact same
      | exact absurd rfl hv
      | (simp [vrep, vrep1, isAggT, cellT] at h)

theorem gvL_get {α : Type} {ls : List (List α)} {l : Option (List α)} {n : Nat} {m : List α} (h : (gvL ls l)[n]? = some m) : ls[n]? = some m ∨ (n = ls.length ∧ l = some m) := by
  unfold gvL at h
  rcases Nat.lt_or_ge n ls.length with h1 | h1
  · rw [List.getElem?_append_left h1] at h; exact .inl h
  · rw [List.getElem?_append_right h1] at h
    cases l with
    | none => simp at h
    | some l =>
      refine .inr ?_
      cases h2 : n - ls.length with
      | zero => rw [h2] at h; simp at h; exact ⟨by omega, by rw [h]⟩
      | succ k => rw [h2] at h; simp at h

theorem Ok.giv (h : Ok base w0 F0 N st a w) {d p : Nat} {st' : St} (hg : st.giv d p = some st') : Ok base w0 F0 N st' a w := by
  obtain ⟨hN, F, ι, hs⟩ := h
  unfold St.giv at hg
  split at hg <;> try (simp at hg; done)
  rename_i t l hb
  split at hg <;> try (simp at hg; done)
  rename_i q u ls hp
  split at hg <;> try (simp at hg; done)
  rename_i l' hl
  obtain ⟨hpq, e0⟩ := bif_some hg
  subst e0
  clear hg
  simp only [Bool.and_eq_true, Nat.beq_eq, Bool.not_eq_true'] at hpq
  obtain ⟨hpq, hpin⟩ := hpq
  subst hpq
  obtain ⟨e, hl⟩ := castT_some hl
  cases e
  have hl : l = l' := hl
  subst hl
  obtain ⟨r, hr, hk⟩ := hs.heap _ _ hb
  obtain ⟨r0, hr0, q1, q2, q3, q4, q5⟩ := hs.heap _ _ hp
  let ι' : Nat → Option Ref := match l with
    | none => ι
    | some _ => upd ι (hnm p ls.length) (some r)
  have hst : ∀ c, c ≠ hnm p ls.length → ι' c = ι c := by
    intro c hc
    cases l with
    | none => rfl
    | some m => exact upd_other _ _ _ _ hc
  have hnew : ∀ c r', ι' c = some r' → ι c = some r' ∨ (c = hnm p ls.length ∧ r' = r ∧ ∃ m, l = some m) := by
    intro c r' e
    by_cases hc : c = hnm p ls.length
    · cases l with
      | none => exact .inl e
      | some m =>
        refine .inr ⟨hc, ?_, m, rfl⟩
        have e : upd ι (hnm p ls.length) (some r) c = some r' := e
        rw [hc, upd_same] at e
        exact (Option.some.inj e).symm
    · rw [hst c hc] at e; exact .inl e
  have hι : ∀ c r, ι c = some r → ι' c = some r := by
    intro c r e
    rw [hst c (fun hc => by rw [hc, q4 _ (Nat.le_refl _)] at e; cases e)]; exact e
  have hne : ∀ c k, st.heap c = some k → c ≠ hnm p ls.length := fun c k e hc => by rw [hc, hs.pools.noH _ (isH_hn _ _)] at e; cases e
  have hdp : d ≠ p := by rintro rfl; rw [hb] at hp; cases hp
  have hown : rep w F ι' (.hd p) (gvH l (lenL ls)) [r.val] := by
    cases l with
    | none =>
      have hn : r.nil = true := hk.2
      simp only [gvH, Option.map_none, rep, Ref.val, hn, if_true]
    | some m =>
      have hn : r.nil = false := hk.2.1
      simp only [gvH, Option.map_some, rep]
      exact ⟨r, upd_same _ _ _, hn, rfl⟩
  have hheap : ∀ c k, (bif Nat.beq c d then none else bif Nat.beq c p then some (Blk.pool p t (gvL ls l)) else gvB d p (gvH l (lenL ls)) (st.heap c)) = some k →
      (c = p ∧ k = .pool p t (gvL ls l)) ∨ (c ≠ d ∧ c ≠ p ∧ ∃ k0, st.heap c = some k0 ∧ ((∃ u x, k0 = .box u x ∧ k = .box (gv d p (gvH l (lenL ls)) u x).t (gv d p (gvH l (lenL ls)) u x).x) ∨ ((∀ u x, k0 ≠ .box u x) ∧ k = k0))) := by
    intro c k e
    cases e1 : Nat.beq c d <;> rw [e1] at e <;> simp only [cond_true, cond_false, reduceCtorEq] at e
    have n1 : c ≠ d := fun h => by rw [h, Nat.beq_refl] at e1; cases e1
    cases e2 : Nat.beq c p <;> rw [e2] at e <;> simp only [cond_true, cond_false] at e
    · have n2 : c ≠ p := fun h => by rw [h, Nat.beq_refl] at e2; cases e2
      refine .inr ⟨n1, n2, ?_⟩
      cases h0 : st.heap c with
      | none => rw [h0] at e; cases e
      | some k0 =>
        rw [h0] at e
        refine ⟨k0, rfl, ?_⟩
        cases k0 with
        | box u x => exact .inl ⟨u, x, rfl, (Option.some.inj e).symm⟩
        | arr u x => exact .inr ⟨fun _ _ h => (by cases h), (Option.some.inj e).symm⟩
        | pool q u x => exact .inr ⟨fun _ _ h => (by cases h), (Option.some.inj e).symm⟩
    · rw [Nat.beq_eq] at e2
      exact .inl ⟨e2, (Option.some.inj e).symm⟩
  have hold : ∀ c k, (bif Nat.beq c d then none else bif Nat.beq c p then some (Blk.pool p t (gvL ls l)) else gvB d p (gvH l (lenL ls)) (st.heap c)) = some k → c ≠ d ∧ ∃ k0, st.heap c = some k0 := by
    intro c k e
    rcases hheap c k e with ⟨rfl, _⟩ | ⟨h1, _, k0, h2, _⟩
    · exact ⟨fun e => hdp e.symm, _, hp⟩
    · exact ⟨h1, _, h2⟩
  -- rows: old ones, or the new one
  have hrow : ∀ c k r', prow (fun c => bif Nat.beq c d then none else bif Nat.beq c p then some (Blk.pool p t (gvL ls l)) else gvB d p (gvH l (lenL ls)) (st.heap c)) c = some k → ι' c = some r' →
      (∃ k0, prow st.heap c = some k0 ∧ ι c = some r') ∨ (c = hnm p ls.length ∧ r' = r ∧ r.nil = false) := by
    intro c k r' e er
    obtain ⟨x, n, q', u', ls', m, hx, rfl, h1, h2, rfl⟩ := prow_some e
    rcases hheap _ _ h1 with ⟨rfl, e1⟩ | ⟨_, hxp, k0, e0, h3⟩
    · cases e1
      rcases gvL_get h2 with h3 | ⟨rfl, h3⟩
      · have hn : n < ls.length := by
          rcases Nat.lt_or_ge n ls.length with h4 | h4
          · exact h4
          · rw [List.getElem?_eq_none h4] at h3; cases h3
        rw [hst _ (fun e => by have := (hnm_inj q2 q2 e).2; omega)] at er
        exact .inl ⟨_, by rw [prow_hn q2, hp]; simp only [rowB, h3]; rfl, er⟩
      · rcases hnew _ _ er with h4 | ⟨_, h4, _⟩
        · rw [q4 _ (Nat.le_refl _)] at h4; cases h4
        · subst h3
          exact .inr ⟨rfl, h4, hk.2.1⟩
    · rcases h3 with ⟨_, _, _, e1⟩ | ⟨_, e1⟩
      · cases e1
      · subst e1
        rw [hst _ (fun e => hxp (hnm_inj hx q2 e).1)] at er
        exact .inl ⟨_, by rw [prow_hn hx, e0]; simp only [rowB, h2]; rfl, er⟩
  refine ⟨hN, F, ι', ⟨?_, ?_, ?_, ?_, hs.fsize, hs.fin, hs.below, hs.size, hs.upin, ?_, ?_, hs.defers⟩⟩
  · intro s v hv
    simp only [gvE] at hv
    split at hv <;> try (simp at hv; done)
    rename_i v0 hv0
    simp only [Option.some.injEq] at hv; subst hv
    exact gv_vrep hι hr hown (hs.env _ _ hv0)
  · intro c k hc
    rcases hheap c k hc with ⟨rfl, rfl⟩ | ⟨h1, h2, k0, h3, h4⟩
    · refine ⟨r0, hι _ _ hr0, q1, q2, q3, fun n hn => ?_, fun n m hm => ?_⟩
      · have hlen : ls.length ≤ n := Nat.le_trans (by simp [gvL]) hn
        cases hx : ι' (hnm c n) with
        | none => rfl
        | some r' =>
          rcases hnew _ _ hx with h5 | ⟨h5, _, m, h6⟩
          · rw [q4 n hlen] at h5; cases h5
          · have := (hnm_inj q2 q2 h5).2
            subst h6
            simp [gvL] at hn
            omega
      · rcases gvL_get hm with h5 | ⟨rfl, h5⟩
        · obtain ⟨s, hs', a1, a2, a3, a4, a5, a6, cells, el, ae, a7, a8, a9⟩ := q5 n m h5
          exact ⟨s, hι _ _ hs', a1, a2, a3, a4, a5, a6, cells, el, ae, a7, a8, fun i y hy => rep_mono (fun _ h => h) hι (fun _ _ => rfl) _ _ _ (a9 i y hy)⟩
        · subst h5
          obtain ⟨_, a1, a2, a3, a4, a5, a6, cells, el, ae, a7, a8, a9⟩ := hk
          exact ⟨r, upd_same _ _ _, a1, a2, a3, a4, a5, a6, cells, el, ae, a7, a8, fun i y hy => rep_mono (fun _ h => h) hι (fun _ _ => rfl) _ _ _ (a9 i y hy)⟩
    · obtain ⟨s, hs', hq⟩ := hs.heap _ _ h3
      refine ⟨s, hι _ _ hs', ?_⟩
      rcases h4 with ⟨u, x, rfl, rfl⟩ | ⟨_, rfl⟩
      · obtain ⟨p1, p2, p3, p4, p5, cells, el, pb, p6, p7⟩ := hq
        have htag := gv_tags d p (gvH l (lenL ls)) u x
        exact ⟨p1, p2, p3, p4, by simp only [valT, htag.1, htag.2]; exact p5, cells, el, fun h => pb ((bld_hd (gv_hd2 _ _ _ u x)).symm.trans h), p6, gv_rep hι hr hown _ _ _ p7⟩
      · cases k with
        | pool q u ls2 =>
          have e := hs.pools.self _ _ _ _ h3
          subst e
          obtain ⟨z1, z2, z3, z4, z5⟩ := hq
          refine ⟨z1, z2, z3, fun n hn => ?_, fun n m hm => ?_⟩
          · rw [hst _ (fun e => h2 (hnm_inj z2 q2 e).1)]; exact z4 n hn
          · obtain ⟨s, hs', a1, a2, a3, a4, a5, a6, cells, el, ae, a7, a8, a9⟩ := z5 n m hm
            exact ⟨s, hι _ _ hs', a1, a2, a3, a4, a5, a6, cells, el, ae, a7, a8, fun i y hy => rep_mono (fun _ h => h) hι (fun _ _ => rfl) _ _ _ (a9 i y hy)⟩
        | box u x =>
          obtain ⟨p1, p2, p3, p4, p5, cells, el, pb, p6, p7⟩ := hq
          exact ⟨p1, p2, p3, p4, p5, cells, el, pb, p6, rep_mono (fun _ h => h) hι (fun _ _ => rfl) _ _ _ p7⟩
        | arr u x =>
          obtain ⟨p0, hq⟩ := hq
          refine ⟨p0, ?_⟩
          cases x with
          | none => exact hq
          | some x =>
            obtain ⟨p1, p2, p3, p4, p5, p6, cells, el, pe, p7, p8, p9⟩ := hq
            exact ⟨p1, p2, p3, p4, p5, p6, cells, el, pe, p7, p8, fun i y hy => rep_mono (fun _ h => h) hι (fun _ _ => rfl) _ _ _ (p9 i y hy)⟩
  · intro c r' e
    rcases hnew _ _ e with h1 | ⟨rfl, _⟩
    · exact hs.used _ _ h1
    · exact hs.pools.uH _ (isH_hn _ _)
  · intro c e k k' r1 r2 hce hc he h1 h2 n1 n2
    obtain ⟨_, k0, f1⟩ := hold c k hc
    obtain ⟨_, k1, f2⟩ := hold e k' he
    rw [hst _ (hne _ _ f1)] at h1
    rw [hst _ (hne _ _ f2)] at h2
    exact hs.apart c e k0 k1 r1 r2 hce f1 f2 h1 h2 n1 n2
  · have hdrow : ∀ c k0 r', prow st.heap c = some k0 → ι c = some r' → r.nil = false → r'.blk ≠ r.blk := fun c k0 r' e1 e2 hn =>
      hs.pools.apart c d _ _ r' r (fun e => by rw [e] at e1; exact (hs.row_static e1 hb).elim) e1 (.inr hb) e2 hr hn
    refine ⟨fun c hc => ?_, hs.pools.uH, fun c q' u' ls' e => ?_, fun c e k k' r1 r2 hce hc he h1 h2 n2 => ?_, fun x n hx hu => ?_⟩
    · cases e : (bif Nat.beq c d then none else bif Nat.beq c p then some (Blk.pool p t (gvL ls l)) else gvB d p (gvH l (lenL ls)) (st.heap c)) with
      | none => exact e
      | some k => obtain ⟨_, k0, f1⟩ := hold c k e; rw [hs.pools.noH c hc] at f1; cases f1
    · rcases hheap _ _ e with ⟨rfl, e1⟩ | ⟨_, _, k0, e0, h3⟩
      · cases e1; rfl
      · rcases h3 with ⟨_, _, _, e1⟩ | ⟨_, e1⟩
        · cases e1
        · subst e1; exact hs.pools.self _ _ _ _ e0
    · rcases he with he | he
      · rcases hrow _ _ _ hc h1 with ⟨k0, f1, g1⟩ | ⟨f1, g1, m1⟩ <;> rcases hrow _ _ _ he h2 with ⟨k1, f2, g2⟩ | ⟨f2, g2, m2⟩
        · exact hs.pools.apart c e _ _ r1 r2 hce f1 (.inl f2) g1 g2 n2
        · rw [g2]; exact hdrow _ _ _ f1 g1 m2
        · rw [g1]; exact fun e => hdrow _ _ _ f2 g2 m1 e.symm
        · exact absurd (f1.trans f2.symm) hce
      · obtain ⟨hed, k1, f2⟩ := hold e k' he
        rw [hst _ (hne _ _ f2)] at h2
        rcases hrow _ _ _ hc h1 with ⟨k0, f1, g1⟩ | ⟨f1, g1, m1⟩
        · exact hs.pools.apart c e _ _ r1 r2 hce f1 (.inr f2) g1 h2 n2
        · rw [g1]; exact hs.apart d e _ _ r r2 (fun e => hed e.symm) hb f2 hr h2 m1 n2
    · have h0 := hs.pools.free x n hx hu
      cases hx2 : ι' (hnm x n) with
      | none => rfl
      | some r' =>
        rcases hnew _ _ hx2 with h5 | ⟨h5, _⟩
        · rw [h0] at h5; cases h5
        · have e := (hnm_inj hx q2 h5).1
          subst e
          have := hs.used _ _ hr0
          rw [show st.used x = false from hu] at this; cases this
  · intro n r1 r2 hn h1 h2
    rcases hnew _ _ h2 with h3 | ⟨rfl, _⟩
    · exact hs.pin n r1 r2 hn h1 h3
    · unfold pinned at hn hpin
      rw [hnm_mod q2] at hn
      rw [Nat.mod_eq_of_lt q2, hn] at hpin; cases hpin

theorem unT_hd (p : Nat) (u t : Ty) : hdT (unT p u t) = hdT t := by
  cases t with
  | hd q => show hdT (bif Nat.beq q p then _ else _) = _; cases Nat.beq q p <;> rfl
  | _ => rfl

theorem unT_hd2 (p : Nat) (u t : Ty) : hd2 (unT p u t) = hd2 t := by
  cases t with
  | hd q => show hd2 (bif Nat.beq q p then _ else _) = _; cases Nat.beq q p <;> rfl
  | agg c => cases c with
    | pair x y =>
      show (hdT (unT p u x), hdT (unT p u y)) = (hdT x, hdT y)
      rw [unT_hd, unT_hd]
    | hd q => show hd2 (.agg (bif Nat.beq q p then _ else _)) = _; cases Nat.beq q p <;> rfl
    | _ => rfl
  | _ => rfl

theorem unT_tags (p : Nat) (u t : Ty) : isAggT (unT p u t) = isAggT t ∧ cellT (unT p u t) = cellT t := by
  cases t with
  | hd q => show isAggT (bif Nat.beq q p then _ else _) = _ ∧ cellT (bif Nat.beq q p then _ else _) = _; cases Nat.beq q p <;> exact ⟨rfl, rfl⟩
  | _ => exact ⟨rfl, rfl⟩

theorem unT_width (p : Nat) (u t : Ty) : width (unT p u t) = width t := by
  induction t with
  | hd q => show width (bif Nat.beq q p then _ else _) = _; cases Nat.beq q p <;> rfl
  | pair x y ih1 ih2 => show width (unT p u x) + width (unT p u y) = _; rw [ih1, ih2]; rfl
  | agg c ih => exact ih
  | _ => rfl

theorem unT_val (p : Nat) (u t : Ty) : valT (unT p u t) = valT t := by
  have h := unT_tags p u t
  simp only [valT, h.1, h.2]

theorem unT_u8 {p : Nat} {u t : Ty} (h : unT p u t = .int .u8) : t = .int .u8 := by
  cases t with
  | hd q =>
    have h : (bif Nat.beq q p then Ty.sl u else Ty.hd q) = .int .u8 := h
    cases e : Nat.beq q p <;> rw [e] at h <;> cases h
  | pair x y => cases h
  | agg c => cases h
  | _ => exact h

theorem unX_rep {F' : Nat → Prop} {p : Nat} {u : Ty} {ls : List (List (den u))} (hF : ∀ k, F k → F' k) (hrow : ∀ n r, ι (hnm p n) = some r → r.nil = false → rep w F' ι (.sl u) (unH ls (some n)) [r.val]) :
    ∀ (t : Ty) (x : den t) (cs : List Value), rep w F ι t x cs → rep w F' ι (unT p u t) (unX p u ls t x) cs := by
  have same : ∀ (t : Ty) (x : den t) (cs : List Value), rep w F ι t x cs → rep w F' ι t x cs := fun t x cs h => rep_mono hF (fun _ _ h => h) (fun _ _ => rfl) t x cs h
  intro t
  induction t with
  | hd q =>
    intro x cs h
    have key : ∀ b : Bool, (b = true → q = p) → rep w F' ι (bif b then .sl u else .hd q) (unB u q ls b x) cs := by
      intro b hb
      cases b with
      | false => exact same _ _ _ h
      | true =>
        have := hb rfl
        subst this
        cases x with
        | none => exact h
        | some n =>
          simp only [rep] at h
          obtain ⟨r, hr, hn, rfl⟩ := h
          exact hrow n r hr hn
    exact key (Nat.beq q p) fun e => Nat.eq_of_beq_eq_true e
  | pair a c iha ihb =>
    intro x cs h
    simp only [rep] at h
    obtain ⟨c1, c2, rfl, h1, h2⟩ := h
    exact ⟨c1, c2, rfl, iha _ _ h1, ihb _ _ h2⟩
  | agg c ih => intro x cs h; exact ih _ _ h
  | _ => intro x cs h; exact same _ _ _ h

theorem unX_vrep {F' : Nat → Prop} {p : Nat} {u : Ty} {ls : List (List (den u))} (hF : ∀ k, F k → F' k) (hrow : ∀ n r, ι (hnm p n) = some r → r.nil = false → rep w F' ι (.sl u) (unH ls (some n)) [r.val]) {t : Ty} {x : den t} {v : Value} (h : vrep w F ι t x v) :
    vrep w F' ι (unT p u t) (unX p u ls t x) v := by
  have same : vrep w F' ι t x v := vrep_mono hF (fun _ _ h => h) (fun _ _ => rfl) h
  have htag := unT_tags p u t
  by_cases hv : valT t = true
  · rcases valT_or hv with h1 | h1
    · rw [vrep_agg (htag.1.trans h1)]
      rw [vrep_agg h1] at h
      obtain ⟨cs, rfl, h⟩ := h
      exact ⟨cs, rfl, unX_rep hF hrow _ _ _ h⟩
    · rw [vrep_cell (htag.2.trans h1)]
      rw [vrep_cell h1] at h
      exact unX_rep hF hrow _ _ _ h
  · cases t <;> first
      | exact same
      | exact absurd rfl hv
      | (simp [vrep, vrep1, isAggT, cellT] at h)

theorem Ok.frp (h : Ok base w0 F0 N st a w) {p : Nat} {st' : St} (hg : st.frp p = some st') : Ok base w0 F0 N st' a w := by
  obtain ⟨hN, F, ι, hs⟩ := h
  unfold St.frp at hg
  split at hg <;> try (simp at hg; done)
  rename_i q u ls hp
  obtain ⟨hpq, e0⟩ := bif_some hg
  subst e0
  clear hg
  simp only [Bool.and_eq_true, Nat.beq_eq] at hpq
  obtain ⟨rfl, hfz⟩ := hpq
  obtain ⟨r0, hr0, q1, q2, q3, q4, q5⟩ := hs.heap _ _ hp
  let F' : Nat → Prop := fun k => F k ∨ ∃ n l r, ls[n]? = some l ∧ ι (hnm p n) = some r ∧ k = r.blk
  have hF : ∀ k, F k → F' k := fun k h => .inl h
  have hpr : ∀ n l, ls[n]? = some l → prow st.heap (hnm p n) = some (.arr u (some l)) := by
    intro n l e
    rw [prow_hn q2, hp]; simp only [rowB, e]
  have hrow : ∀ n r, ι (hnm p n) = some r → r.nil = false → rep w F' ι (.sl u) (unH ls (some n)) [r.val] := by
    intro n r hr hn
    have hlt : n < ls.length := by
      rcases Nat.lt_or_ge n ls.length with h1 | h1
      · exact h1
      · rw [q4 n h1] at hr; cases hr
    obtain ⟨s, hs', a1, a2, a3, a4, a5, a6, cells, el, ae, a7, a8, a9⟩ := q5 n _ (List.getElem?_eq_getElem hlt)
    rw [hr] at hs'; cases hs'
    have e : ls.getD n [] = ls[n] := by simp [List.getD, List.getElem?_eq_getElem hlt]
    simp only [unH, Option.map_some, e, rep, Ref.val, a1, if_false, Bool.false_eq_true, a3]
    exact ⟨⟨r.blk, r.off, none⟩, r.cap, rfl, by omega, fun _ => ⟨cells, el, (0, 0), rfl, .inr ⟨n, _, r, List.getElem?_eq_getElem hlt, hr, rfl⟩, a7, fun i y hy => rep_mono hF (fun _ _ h => h) (fun _ _ => rfl) _ _ _ (a9 i y hy)⟩⟩
  have hheap : ∀ c k, (bif Nat.beq c p then none else unK p u ls (st.heap c)) = some k → c ≠ p ∧ ∃ k0, st.heap c = some k0 ∧ unK p u ls (some k0) = some k := by
    intro c k e
    cases e1 : Nat.beq c p <;> rw [e1] at e <;> simp only [cond_true, cond_false, reduceCtorEq] at e
    refine ⟨(fun h => by rw [h, Nat.beq_refl] at e1; cases e1), ?_⟩
    cases h0 : st.heap c with
    | none => rw [h0] at e; cases e
    | some k0 => rw [h0] at e; exact ⟨k0, rfl, e⟩
  -- blocks of others are not given away
  have hstat : ∀ c k r, c ≠ p → st.heap c = some k → ι c = some r → r.nil = false → ¬ F r.blk → ¬ F' r.blk := by
    rintro c k r hc hk hr hn hnF (h1 | ⟨n, l, s, h1, h2, h3⟩)
    · exact hnF h1
    · exact hs.pools.apart (hnm p n) c _ _ s r (fun e => by rw [← e, hs.pools.noH _ (isH_hn _ _)] at hk; cases hk) (hpr n l h1) (.inr hk) h2 hr hn h3.symm
  refine ⟨hN, F', ι, ⟨?_, ?_, hs.used, ?_, ?_, ?_, hs.below, hs.size, hs.upin, ?_, hs.pin, hs.defers⟩⟩
  · intro s v hv
    simp only [unE] at hv
    split at hv <;> try (simp at hv; done)
    rename_i v0 hv0
    simp only [Option.some.injEq] at hv; subst hv
    exact unX_vrep hF hrow (hs.env _ _ hv0)
  · intro c k hc
    obtain ⟨hne, k0, h0, hk⟩ := hheap c k hc
    obtain ⟨r, hr, hq⟩ := hs.heap _ _ h0
    refine ⟨r, hr, ?_⟩
    cases k0 with
    | box t x =>
      simp only [unK, Option.some.injEq] at hk; subst hk
      obtain ⟨p1, p2, p3, p4, p5, cells, el, pb, p6, p7⟩ := hq
      exact ⟨p1, p2, p3, hstat c _ r hne h0 hr p1 p4, (unT_val p u t).trans p5, cells, el, fun h => pb ((bld_hd (unT_hd2 p u t)).symm.trans h), p6, unX_rep hF hrow _ _ _ p7⟩
    | arr t l =>
      simp only [unK, Option.some.injEq] at hk; subst hk
      obtain ⟨p0, hq⟩ := hq
      refine ⟨(unT_val p u t).trans p0, ?_⟩
      cases l with
      | none => exact hq
      | some l =>
        obtain ⟨p1, p2, p3, p4, p5, p6, cells, el, pe, p7, p8, p9⟩ := hq
        refine ⟨p1, p2.trans (unT_width p u t).symm, by simpa using p3, p4, p5, hstat c _ r hne h0 hr p1 p6, cells, el, fun e => pe (unT_u8 e), p7, p8, fun i y hy => ?_⟩
        rw [unT_width]
        simp only [List.getElem?_map, Option.map_eq_some_iff] at hy
        obtain ⟨z, hz, rfl⟩ := hy
        exact unX_rep hF hrow _ _ _ (p9 i z hz)
    | pool q t l =>
      simp only [unK, Option.some.injEq] at hk; subst hk
      have e := hs.pools.self _ _ _ _ h0
      subst e
      obtain ⟨z1, z2, z3, z4, z5⟩ := hq
      refine ⟨z1, z2, (unT_val p u t).trans z3, fun n hn => z4 n (by simpa using hn), fun n m hm => ?_⟩
      simp only [List.getElem?_map, Option.map_eq_some_iff] at hm
      obtain ⟨m0, hm0, rfl⟩ := hm
      obtain ⟨s, hs', a1, a2, a3, a4, a5, a6, cells, el, ae, a7, a8, a9⟩ := z5 n m0 hm0
      refine ⟨s, hs', a1, a2.trans (unT_width p u t).symm, by simpa using a3, a4, a5, ?_, cells, el, fun e => ae (unT_u8 e), a7, a8, fun i y hy => ?_⟩
      · rintro (h1 | ⟨n', l', s', h1, h2, h3⟩)
        · exact a6 h1
        · exact hs.pools.apart (hnm p n') (hnm q n) _ _ s' s (fun e => hne (hnm_inj q2 z2 e).1.symm) (hpr n' l' h1) (.inl (by rw [prow_hn z2, h0]; simp only [rowB, hm0]; rfl)) h2 hs' a1 h3.symm
      · rw [unT_width]
        simp only [List.getElem?_map, Option.map_eq_some_iff] at hy
        obtain ⟨z, hz, rfl⟩ := hy
        exact unX_rep hF hrow _ _ _ (a9 i z hz)
  · intro c d k k' r r' hcd hc hd
    obtain ⟨_, k0, f1, _⟩ := hheap c k hc
    obtain ⟨_, k1, f2, _⟩ := hheap d k' hd
    exact hs.apart c d k0 k1 r r' hcd f1 f2
  · rintro k (h | ⟨n, l, r, h1, h2, rfl⟩)
    · exact hs.fsize _ h
    · exact hs.row_lt (hpr n l h1) h2
  · rintro k (h | ⟨n, l, r, h1, h2, rfl⟩)
    · exact hs.fin _ h
    · obtain ⟨s, hs', _, _, _, _, a5, _⟩ := q5 n l h1
      rw [h2] at hs'; cases hs'
      exact .inr a5
  · refine hs.pools.sub (fun c k e => ?_) fun c q t l e => ?_
    · obtain ⟨_, k0, f1, _⟩ := hheap c k e
      exact ⟨k0, f1⟩
    · obtain ⟨_, k0, f1, f2⟩ := hheap _ _ e
      cases k0 with
      | box t x => cases f2
      | arr t x => cases f2
      | pool q' t' l' => cases f2; exact ⟨t', l', f1, by simp⟩

theorem preK_ok {K : St → Prop} : ∀ (l : List Pre) (st : St), preK l K st → Ok base w0 F0 N st a w → ∃ st', Ok base w0 F0 N st' a w ∧ K st'
  | [], st, h, hok => ⟨st, hok, h⟩
  | .frz b :: l, st, h, hok => by
    simp only [preK] at h
    split at h
    · rename_i s hs
      exact preK_ok l _ h (hok.freeze hs)
    · exact preK_ok l _ h hok
  | .opn b p :: l, st, h, hok => by
    simp only [preK] at h
    split at h <;> try exact h.elim
    rename_i c s hs
    exact preK_ok l _ h.2 (hok.opn hs h.1)
  | .giv d p :: l, st, h, hok => by
    simp only [preK] at h
    split at h <;> try exact h.elim
    rename_i s hs
    exact preK_ok l _ h (hok.giv hs)
  | .frp p :: l, st, h, hok => by
    simp only [preK] at h
    split at h <;> try exact h.elim
    rename_i s hs
    exact preK_ok l _ h (hok.frp hs)

end

end Go.VM

namespace Go.VM

open Go Go.RowKit

/-- What is done ahead of an operation: lists are given away; the result is taken over. -/
def stepOf : List (Nat × List Pre × Bool) → Nat → List Pre × Bool
  | [], _ => ([], false)
  | (j, s) :: l, i => bif Nat.beq i j then s else stepOf l i

def lendOf : List (Nat × Lend) → Nat → Option Lend
  | [], _ => none
  | (j, s) :: l, i => bif Nat.beq i j then some s else lendOf l i

structure joinV (T : Type) (k : T → Prop) (body : (T → Prop) → Prop) : Prop where
  run : body k

/-- The state goes on in the given shape. -/
def unpackK (sh : Shape) (st : St) (k : Pay sh.ents → Prop) : Prop :=
  match unpack sh st with
  | some p => k p
  | none => False

/-- A region without a drawn order; an entry of 1000 results is a cut: the state is packed anew. -/
def regF (P : Program) (N : Nat) (ops : Array Oper) (fi : List (Nat × List Pre × Bool)) (le : List (Nat × Lend)) : List Nat → (St → Prop) → St → Prop
  | [], K, st => preK (stepOf fi 4095).1 K st
  | i :: r, K, st => match lendOf le i with
    | none => preK (stepOf fi i).1 (regW P N (fun i => (stepOf fi i).2) ops (fun _ => []) [i] (regF P N ops fi le r K)) st
    | some L => bif Nat.beq L.k 1000
      then joinV (Pay L.inn.ents) (fun p => preK (stepOf fi i).1 (regW P N (fun i => (stepOf fi i).2) ops (fun _ => []) [i] (regF P N ops fi le r K)) (pack L.inn p)) fun k => unpackK L.inn st k
      else match ops.toList[i]? with
      | some o => preK (stepOf fi i).1 (lendW P N L o (regF P N ops fi le r K)) st
      | none => False

/-- A step of a region whose order is drawn. -/
def stepL (P : Program) (N : Nat) (ad : Nat → Bool) (ops : Array Oper) (bad : Nat → List Nat) (fi : List (Nat × List Pre × Bool)) (le : List (Nat × Lend)) (i : Nat) (K : St → Prop) (st : St) : Prop :=
  match (stepOf fi i).1 with
  | [] => match lendOf le i with
    | none => regW P N ad ops bad [i] K st
    | some L => match ops.toList[i]? with
      | some o => lendW P N L o K st
      | none => False
  | l => preK l (fun st => match lendOf le i with
    | none => regW P N ad ops bad [i] K st
    | some L => match ops.toList[i]? with
      | some o => lendW P N L o K st
      | none => False) st

/-- What is done ahead of an operation is done ahead of one that has its place among all others. -/
def presOk (ops : Array Oper) : List (Nat × List Pre × Bool) → Bool
  | [] => true
  | (i, l, _) :: r => (l.isEmpty || (Nat.beq i 4095 && Nat.ble ops.size 4095) || (List.range ops.size).all fun j => Nat.beq i j || rowBit (rowsA ops) i j || rowBit (rowsA ops) j i) && presOk ops r

theorem presOk_ok {ops : Array Oper} : ∀ {fi : List (Nat × List Pre × Bool)} {i j : Nat}, presOk ops fi = true → i < ops.size → j < ops.size → i ≠ j → rowBit (rowsA ops) i j = false → rowBit (rowsA ops) j i = false → (stepOf fi i).1 = []
  | [], _, _, _, _, _, _, _, _ => rfl
  | (k, l, s) :: r, i, j, h, hi, hj, hij, h1, h2 => by
    simp only [presOk, Bool.and_eq_true, Bool.or_eq_true, List.all_eq_true, List.mem_range] at h
    simp only [stepOf]
    cases e : Nat.beq i k
    · exact presOk_ok h.2 hi hj hij h1 h2
    · rw [Nat.beq_eq] at e; subst e
      simp only [cond_true]
      rcases h.1 with (h3 | h3) | h3
      · simpa using h3
      · have e1 := Nat.eq_of_beq_eq_true h3.1
        have e2 := Nat.le_of_ble_eq_true h3.2
        omega
      · have := h3 j hj
        rw [h1, h2] at this
        simp at this
        exact absurd this hij

/-- Each of these operations has its place among all others. -/
def lendsOk (ops : Array Oper) : List (Nat × Lend) → Bool
  | [] => true
  | (i, _) :: l => ((List.range ops.size).all fun j => Nat.beq i j || rowBit (rowsA ops) i j || rowBit (rowsA ops) j i) && lendsOk ops l

theorem lendsOk_ok {ops : Array Oper} : ∀ {le : List (Nat × Lend)} {i j : Nat} {L : Lend}, lendsOk ops le = true → lendOf le i = some L → j < ops.size → i ≠ j → rowBit (rowsA ops) i j = false → rowBit (rowsA ops) j i = false → False
  | [], _, _, _, _, h, _, _, _, _ => by simp [lendOf] at h
  | (k, s) :: l, i, j, L, hl, h, hj, hij, h1, h2 => by
    simp only [lendsOk, Bool.and_eq_true, List.all_eq_true, List.mem_range] at hl
    simp only [lendOf] at h
    cases e : Nat.beq i k <;> rw [e] at h
    · exact lendsOk_ok hl.2 h hj hij h1 h2
    · rw [Nat.beq_eq] at e; subst e
      have := hl.1 j hj
      rw [h1, h2] at this
      simp at this
      exact hij this

theorem lendW_mono {P : Program} {N : Nat} {L : Lend} {o : Oper} {K K' : St → Prop} {st : St} (h : ∀ st, K st → K' st) : lendW P N L o K st → lendW P N L o K' st := by
  unfold lendW
  intro hw
  split at hw <;> try exact hw.elim
  split at hw <;> try exact hw.elim
  rename_i d _
  cases e : Nat.blt d N <;> rw [e] at hw
  · exact hw.elim
  simp only [cond_true] at hw ⊢
  split at hw <;> try exact hw.elim
  split at hw <;> try exact hw.elim
  cases hnp : noPools L.inn.ents <;> rw [hnp] at hw
  · exact hw.elim
  simp only [cond_true] at hw ⊢
  split at hw <;> try exact hw.elim
  refine lendV.mono hw fun q hq => ?_
  split at hq <;> try exact hq.elim
  exact h _ hq

theorem preK_mono {K K' : St → Prop} (h : ∀ st, K st → K' st) : ∀ (l : List Pre) (st : St), preK l K st → preK l K' st
  | [], st, hw => h st hw
  | .frz b :: l, st, hw => by
    simp only [preK] at hw ⊢
    split at hw <;> exact preK_mono h l _ hw
  | .opn b p :: l, st, hw => by
    simp only [preK] at hw ⊢
    split at hw <;> try exact hw.elim
    exact ⟨hw.1, preK_mono h l _ hw.2⟩
  | .giv d p :: l, st, hw => by
    simp only [preK] at hw ⊢
    split at hw <;> try exact hw.elim
    exact preK_mono h l _ hw
  | .frp p :: l, st, hw => by
    simp only [preK] at hw ⊢
    split at hw <;> try exact hw.elim
    exact preK_mono h l _ hw

theorem stepL_mono {P : Program} {N : Nat} {ad : Nat → Bool} {ops : Array Oper} {bad : Nat → List Nat} {fi : List (Nat × List Pre × Bool)} {le : List (Nat × Lend)} (i : Nat) (K K' : St → Prop) (st : St) (h : ∀ st, K st → K' st) : stepL P N ad ops bad fi le i K st → stepL P N ad ops bad fi le i K' st := by
  have key : ∀ st, (match lendOf le i with
    | none => regW P N ad ops bad [i] K st
    | some L => match ops.toList[i]? with
      | some o => lendW P N L o K st
      | none => False) → (match lendOf le i with
    | none => regW P N ad ops bad [i] K' st
    | some L => match ops.toList[i]? with
      | some o => lendW P N L o K' st
      | none => False) := by
    intro st
    split
    · exact stepW_mono h
    · split
      · exact lendW_mono h
      · exact id
  unfold stepL
  split
  · exact key st
  · exact preK_mono key _ st

theorem stepL_swap {P : Program} {N : Nat} {ad : Nat → Bool} {ops : Array Oper} {fi : List (Nat × List Pre × Bool)} {le : List (Nat × Lend)} (h : drawOk ops = true) (hl : lendsOk ops le = true) (hp : presOk ops fi = true) (i j : Nat) (hi : i < ops.size) (hj : j < ops.size) (hij : i ≠ j) (h1 : rowBit (rowsA ops) i j = false) (h2 : rowBit (rowsA ops) j i = false) :
    Swap (stepL P N ad ops (badOf ops) fi le) i j := by
  intro K st hw
  have pi := presOk_ok hp hi hj hij h1 h2
  have pj := presOk_ok hp hj hi (fun e => hij e.symm) h2 h1
  unfold stepL at hw ⊢
  rw [pi] at hw ⊢
  simp only [pj] at hw ⊢
  cases ei : lendOf le i with
  | some L => exact (lendsOk_ok hl ei hj hij h1 h2).elim
  | none =>
    cases ej : lendOf le j with
    | some L => exact (lendsOk_ok hl ej hi (fun e => hij e.symm) h2 h1).elim
    | none =>
      rw [ei] at hw
      simp only [ej] at hw
      simp only [ei]
      exact swap2 (free_of h hi hj hij h1 h2) hw

/-- The steps of a region whose order is drawn. -/
def regD (P : Program) (N : Nat) (ad : Nat → Bool) (ops : Array Oper) (bad : Nat → List Nat) (fi : List (Nat × List Pre × Bool)) (le : List (Nat × Lend)) (l : List Nat) (K : St → Prop) (st : St) : Prop := foldS (stepL P N ad ops bad fi le) l K st

theorem drawn_ok {P : Program} {N : Nat} {ad : Nat → Bool} {ops : Array Oper} {fi : List (Nat × List Pre × Bool)} {le : List (Nat × Lend)} {K : St → Prop} (h : drawOk ops = true) (hl : lendsOk ops le = true) (hp : presOk ops fi = true) (hm : (P.follows .mixedOrders || !Region.departs ops) = true) {st : St}
    (hw : regD P N ad ops (badOf ops) fi le (List.range ops.size) K st) (t : Nat) : regD P N ad ops (badOf ops) fi le (Region.schedule (P.follows .mixedOrders) ops t) K st := by
  have hd : edgesDown ops = true := by simp only [drawOk, drawOkW, Bool.and_eq_true] at h; exact h.1
  exact drawnG hd (fun i K K' st h => stepL_mono i K K' st h) (fun i j hi hj hij h1 h2 => stepL_swap h hl hp i j hi hj hij h1 h2) hm hw t

section

variable {P : Program} {base : Mine} {w0 w : World} {F0 F : Nat → Prop} {ι : Nat → Option Ref} {N : Nat} {st : St} {a : Act}

variable {next : Act → World → Prop} {Q : Exit → Act → World → Prop} {K : St → Prop}

variable (hG : base.u8 = u8of P ∧ ∀ w : World, Keep base w0 w → Gl P w)

include hG

theorem regF_sound {ops : Array Oper} {fi : List (Nat × List Pre × Bool)} {le : List (Nat × Lend)} : ∀ (l : List Nat) (K : St → Prop) (st : St) (a : Act) (w : World), (∀ st a w, K st → Ok base w0 F0 N st a w → Q .normal a w) → regF P N ops fi le l K st → Ok base w0 F0 N st a w →
    wpOps P ops Q l a w
  | [], K, st, a, w, hn, h, hok => by
    obtain ⟨s, h1, h2⟩ := preK_ok _ _ h hok
    exact hn _ _ _ h2 h1
  | i :: r, K, st, a, w, hn, h, hok => by
    have ih : ∀ st a w, regF P N ops fi le r K st → Ok base w0 F0 N st a w → wpOps P ops Q r a w := fun st a w h hok => regF_sound r K st a w hn h hok
    simp only [regF] at h
    split at h
    · obtain ⟨s, h1, h2⟩ := preK_ok _ _ h hok
      exact step_sound hG ih h2 h1
    · rename_i L _
      cases hk : Nat.beq L.k 1000 <;> rw [hk] at h <;> simp only [cond_true, cond_false] at h
      case true =>
        have h := h.run
        unfold unpackK at h
        split at h <;> try exact h.elim
        rename_i p hp
        obtain ⟨s, h1, h2⟩ := preK_ok _ _ h (unpack_ok hp hok)
        exact step_sound hG ih h2 h1
      split at h <;> try exact h.elim
      rename_i o ho
      obtain ⟨s, h1, h2⟩ := preK_ok _ _ h hok
      obtain ⟨hg, hw⟩ := lendW_sound (Q := Q) hG (fun st a w h hok => ih st a w h hok) h2 h1
      simp only [wpOps]
      rw [Array.getElem?_toList] at ho
      rw [ho]
      simp only
      rw [if_pos (by simp [Region.wanted, hg])]
      exact .inl hw

theorem regD_sound {ad : Nat → Bool} {ops : Array Oper} {bad : Nat → List Nat} {fi : List (Nat × List Pre × Bool)} {le : List (Nat × Lend)} : ∀ (l : List Nat) (K : St → Prop) (st : St) (a : Act) (w : World), (∀ st a w, K st → Ok base w0 F0 N st a w → Q .normal a w) → regD P N ad ops bad fi le l K st → Ok base w0 F0 N st a w →
    wpOps P ops Q l a w
  | [], K, st, a, w, hn, h, hok => hn _ _ _ h hok
  | i :: r, K, st, a, w, hn, h, hok => by
    have ih : ∀ st a w, foldS (stepL P N ad ops bad fi le) r K st → Ok base w0 F0 N st a w → wpOps P ops Q r a w := fun st a w h hok => regD_sound r K st a w hn h hok
    have key : ∀ st a w, (match lendOf le i with
        | none => regW P N ad ops bad [i] (foldS (stepL P N ad ops bad fi le) r K) st
        | some L => match ops.toList[i]? with
          | some o => lendW P N L o (foldS (stepL P N ad ops bad fi le) r K) st
          | none => False) → Ok base w0 F0 N st a w → wpOps P ops Q (i :: r) a w := by
      intro st a w h hok
      split at h
      · exact step_sound hG ih h hok
      · split at h <;> try exact h.elim
        rename_i o ho
        obtain ⟨hg, hw⟩ := lendW_sound (Q := Q) hG (fun st a w h hok => ih st a w h hok) h hok
        simp only [wpOps]
        rw [Array.getElem?_toList] at ho
        rw [ho]
        simp only
        rw [if_pos (by simp [Region.wanted, hg])]
        exact .inl hw
    replace h : stepL P N ad ops bad fi le i (foldS (stepL P N ad ops bad fi le) r K) st := h
    unfold stepL at h
    split at h
    · exact key _ _ _ h hok
    · obtain ⟨s, h1, h2⟩ := preK_ok _ _ h hok
      exact key _ _ _ h2 h1

end

end Go.VM

namespace Go.VM

open Go Go.RowKit

inductive Ann where
  | nil
  | seq (a b : Ann)
  | cond (j : Option Shape) (a b : Ann)
  | loop (s : Shape) (a : Ann)
  | blk (j : Option Shape) (a : Ann)
  | reg (fr : List Nat) (fi : List (Nat × List Pre × Bool)) (j : Option Shape)
  | regL (fr : List Nat) (fi : List (Nat × List Pre × Bool)) (le : List (Nat × Lend)) (j : Option Shape)

def Ann.l : Ann → Ann
  | .seq a _ => a
  | .cond _ a _ => a
  | .blk _ a => a
  | _ => .nil

def Ann.r : Ann → Ann
  | .seq _ b => b
  | .cond _ _ b => b
  | _ => .nil

def Ann.j : Ann → Option Shape
  | .cond j _ _ => j
  | .reg _ _ j => j
  | .regL _ _ _ j => j
  | .blk j _ => j
  | _ => none

def Ann.fr : Ann → List Nat
  | .reg fr _ _ => fr
  | .regL fr _ _ _ => fr
  | _ => []

def Ann.fi : Ann → List (Nat × List Pre × Bool)
  | .reg _ fi _ => fi
  | .regL _ fi _ _ => fi
  | _ => []

def Ann.le : Ann → List (Nat × Lend)
  | .regL _ _ le _ => le
  | _ => []

abbrev Kont := Exit → St → Prop

/-- A loop: there is an invariant and a measure. -/
structure loopV (T : Type) (step : (T → Prop) → T → Prop) (p : T) : Prop where
  run : ∃ (Inv : T → Prop) (μ : T → Nat), Inv p ∧ ∀ p, Inv p → step (fun p' => Inv p' ∧ μ p' < μ p) p

def withN (K : Kont) (k : St → Prop) : Kont := fun e st =>
  match e with
  | .normal => k st
  | e => K e st

def joinW (j : Option Shape) (K : Kont) (body : Kont → Prop) : Prop :=
  match j with
  | none => body K
  | some sh => joinV (Pay sh.ents) (fun p => K .normal (pack sh p)) fun k => body (withN K fun st => unpackK sh st k)

def wpC (P : Program) (N : Nat) : Code → Ann → Kont → St → Prop
  | .skip, _, K, st => K .normal st
  | .region _ ops draw, ann, K, st => match st.freezes ann.fr with
    | some st => joinW ann.j K fun K => bif draw
        then bif drawOk ops && lendsOk ops ann.le && presOk ops ann.fi && (P.follows .mixedOrders || !Region.departs ops) then regD P N (fun i => (stepOf ann.fi i).2) ops (badOf ops) ann.fi ann.le (List.range ops.size) (preK (stepOf ann.fi 4095).1 (K .normal)) st else False
        else regF P N ops ann.fi ann.le (List.range ops.size) (K .normal) st
    | none => False
  | .seq x y, ann, K, st => wpC P N x ann.l (withN K fun st => wpC P N y ann.r K st) st
  | .cond c x y, ann, K, st => match st.val c with
    | some ⟨.bool, b⟩ => joinW ann.j K fun K => brV b (wpC P N x ann.l K st) (wpC P N y ann.r K st)
    | _ => False
  | .block id c, ann, K, st => joinW ann.j K fun K => wpC P N c ann.l (fun e st => match e with
    | .exit id' => bif Nat.beq id' id then K .normal st else K (.exit id') st
    | e => K e st) st
  | .loop c, ann, K, st => match ann with
    | .loop sh ann => unpackK sh st fun p => loopV (Pay sh.ents) (fun k p => wpC P N c ann (withN K fun st => unpackK sh st k) (pack sh p)) p
    | _ => False
  | .exit id, _, K, st => K (.exit id) st
  | .ret, _, K, st => K .ret st
  | _, _, _, _ => False

theorem wp_loopT {P : Program} {Q : Exit → Act → World → Prop} {T : Type} {c : Code} (I : T → Act → World → Prop) (μ : T → Nat) {p : T} {a : Act} {w : World} (h₀ : I p a w)
    (round : ∀ p a w, I p a w → c.wp P (Exit.then (fun a' w' => ∃ p', I p' a' w' ∧ μ p' < μ p) Q) a w) : (Code.loop c).wp P Q a w := by
  intro b k cs
  have key : ∀ n p a w, μ p = n → I p a w →
      ∃ e a' w', Q e a' w' ∧ Arrives P (lone (b.at a (.code c :: .inLoop c :: k)) cs w) b k cs e a' w' := by
    intro n
    induction n using Nat.strongRecOn with
    | _ n ih =>
      intro p a w hn hI
      obtain ⟨e, a₁, w₁, hq, harr⟩ := round p a w hI b (.inLoop c :: k) cs
      cases e with
      | normal =>
        obtain ⟨p', hI₁, hlt⟩ := hq
        obtain ⟨e₂, a₂, w₂, hq₂, harr₂⟩ := ih (μ p') (hn ▸ hlt) p' a₁ w₁ rfl hI₁
        exact ⟨e₂, a₂, w₂, hq₂, .of_steps (Steps.trans harr (.one step_inLoop)) harr₂⟩
      | exit id => exact ⟨_, a₁, w₁, hq, .pass (x := .inLoop c) rfl (fun _ _ => .inl (by simp)) harr⟩
      | goto l => exact ⟨_, a₁, w₁, hq, .pass (x := .inLoop c) rfl (fun _ _ => .inl (by simp)) harr⟩
      | ret => exact ⟨_, a₁, w₁, hq, .pass (x := .inLoop c) rfl (fun _ _ => .inl (by simp)) harr⟩
      | panic ch => exact ⟨_, a₁, w₁, hq, .pass (x := .inLoop c) rfl (fun _ _ => .inl (by simp)) harr⟩
      | outgrown => exact ⟨_, a₁, w₁, hq, .pass (x := .inLoop c) rfl (fun _ _ => .inl (by simp)) harr⟩
  obtain ⟨e, a', w', hq, harr⟩ := key _ p a w rfl h₀
  exact ⟨e, a', w', hq, .of_steps (.one step_loop) harr⟩

section

variable {P : Program} {base : Mine} {w0 : World} {F0 : Nat → Prop} {N : Nat}

/-- Where the code comes to. -/
def After (base : Mine) (w0 : World) (F0 : Nat → Prop) (N : Nat) (K : Kont) : Exit → Act → World → Prop := fun e a w => ∃ st, K e st ∧ Ok base w0 F0 N st a w

theorem join_after {j : Option Shape} {K : Kont} {body : Kont → Prop} (h : joinW j K body) : ∃ K' : Kont, body K' ∧ ∀ e a w, After base w0 F0 N K' e a w → After base w0 F0 N K e a w := by
  cases j with
  | none => exact ⟨K, h, fun _ _ _ h => h⟩
  | some sh =>
    refine ⟨_, h.run, ?_⟩
    rintro e a w ⟨st, hk, hok⟩
    cases e with
    | normal =>
      simp only [withN, unpackK] at hk
      split at hk <;> try exact hk.elim
      rename_i p hp
      exact ⟨_, hk, unpack_ok hp hok⟩
    | _ => exact ⟨st, hk, hok⟩

theorem withN_after {K : Kont} {k : St → Prop} {e : Exit} {a : Act} {w : World} {next : Act → World → Prop} (hn : ∀ st a w, k st → Ok base w0 F0 N st a w → next a w) (h : After base w0 F0 N (withN K k) e a w) :
    Exit.then next (After base w0 F0 N K) e a w := by
  obtain ⟨st, hk, hok⟩ := h
  cases e with
  | normal => exact hn _ _ _ hk hok
  | _ => exact ⟨st, hk, hok⟩

variable (hG : base.u8 = u8of P ∧ ∀ w : World, Keep base w0 w → Gl P w)

include hG

theorem wpC_sound : ∀ (c : Code) (ann : Ann) (K : Kont) (st : St) (a : Act) (w : World), wpC P N c ann K st → Ok base w0 F0 N st a w → c.wp P (After base w0 F0 N K) a w := by
  intro c
  induction c with
  | skip => intro ann K st a w h hok; exact wp_skip ⟨st, h, hok⟩
  | exit id => intro ann K st a w h hok; exact wp_exit ⟨st, h, hok⟩
  | ret => intro ann K st a w h hok; exact wp_ret ⟨st, h, hok⟩
  | region id ops draw =>
    intro ann K st a w h hok
    simp only [wpC] at h
    split at h <;> try exact h.elim
    rename_i st' hf
    have hok' := Ok.freezes _ hok hf
    obtain ⟨K', h, hK⟩ := join_after (base := base) (w0 := w0) (F0 := F0) (N := N) h
    cases draw with
    | false =>
      simp only [cond_false] at h
      refine wp_mono (wp_region (regF_sound hG (Q := After base w0 F0 N K') _ _ _ _ _ ?_ h hok')) hK
      exact fun st a w h hok => ⟨st, h, hok⟩
    | true =>
      simp only [cond_true] at h
      cases hd : (drawOk ops && lendsOk ops ann.le && presOk ops ann.fi && (P.follows .mixedOrders || !Region.departs ops)) <;> rw [hd] at h
      · exact h.elim
      simp only [cond_true] at h
      rw [Bool.and_eq_true, Bool.and_eq_true, Bool.and_eq_true] at hd
      refine wp_mono (wp_region_draw fun t => regD_sound hG (base := base) (w0 := w0) (F0 := F0) (Q := After base w0 F0 N K') _ _ _ _ _ (fun st a w h hok => by obtain ⟨s, h1, h2⟩ := preK_ok _ _ h hok; exact ⟨s, h2, h1⟩) (drawn_ok hd.1.1.1 hd.1.1.2 hd.1.2 hd.2 h t) hok'.drew) hK
  | seq x y ihx ihy =>
    intro ann K st a w h hok
    simp only [wpC] at h
    exact wp_seq (wp_mono (ihx _ _ _ _ _ h hok) fun e a w hq => withN_after (fun st a w h hok => ihy _ _ _ _ _ h hok) hq)
  | cond c x y ihx ihy =>
    intro ann K st a w h hok
    simp only [wpC] at h
    split at h <;> try exact h.elim
    rename_i b hb
    obtain ⟨K', h, hK⟩ := join_after (base := base) (w0 := w0) (F0 := F0) (N := N) h
    have hok' := hok
    obtain ⟨_, F, ι, hs⟩ := hok
    have hv := hs.val hb
    rw [vrep_bool] at hv
    refine wp_mono (wp_cond hv ?_) hK
    cases b with
    | true => exact ihx _ _ _ _ _ h hok'
    | false => exact ihy _ _ _ _ _ h hok'
  | block id c ih =>
    intro ann K st a w h hok
    simp only [wpC] at h
    obtain ⟨K', h, hK⟩ := join_after (base := base) (w0 := w0) (F0 := F0) (N := N) h
    refine wp_block (wp_mono (ih _ _ _ _ _ h hok) ?_)
    rintro e a w ⟨st, hk, hok⟩
    cases e with
    | exit id' =>
      simp only at hk
      simp only [Exit.inBlock]
      cases e : Nat.beq id' id <;> rw [e] at hk <;> simp only [cond_true, cond_false] at hk
      · have : id' ≠ id := by rintro rfl; simp at e
        rw [if_neg this]; exact hK _ _ _ ⟨st, hk, hok⟩
      · rw [Nat.beq_eq] at e; subst e
        rw [if_pos rfl]; exact hK _ _ _ ⟨st, hk, hok⟩
    | _ => exact hK _ _ _ ⟨st, hk, hok⟩
  | loop c ih =>
    intro ann K st a w h hok
    simp only [wpC] at h
    split at h <;> try exact h.elim
    rename_i sh ann
    simp only [unpackK] at h
    split at h <;> try exact h.elim
    rename_i p hp
    obtain ⟨Inv, μ, h0, hstep⟩ := h.run
    refine wp_loopT (fun p a w => Inv p ∧ Ok base w0 F0 N (pack sh p) a w) μ ⟨h0, unpack_ok hp hok⟩ ?_
    rintro p a w ⟨hI, hok⟩
    refine wp_mono (ih _ _ _ _ _ (hstep p hI) hok) fun e a w hq => withN_after ?_ hq
    intro st a w hk hok
    simp only at hk
    split at hk <;> try exact hk.elim
    rename_i p' hp'
    exact ⟨p', ⟨hk.1, unpack_ok hp' hok⟩, hk.2⟩
  | _ => intro ann K st a w h hok; exact h.elim

end

end Go.VM

namespace Go.VM

open Go Go.RowKit

def resV1 (P : Program) (st : St) (rt : Ty) : ResultVar → Option (den rt)
  | .tmp t => match st.env t with
    | some v => coe st.heap rt v.t v.x
    | none => none
  | .cell a t => match st.env a with
    | some ⟨.ref b o, _⟩ => match tinf P t with
      | some (ag, n) => match loadV st.heap ag n ⟨.ref b o, ()⟩ with
        | some u => coe st.heap rt u.t u.x
        | none => none
      | none => none
    | _ => none

def resL (P : Program) (st : St) : (c : Ty) → List ResultVar → Option (den c)
  | .unit, [] => some ()
  | .pair a b, r :: rs => match resV1 P st a r with
    | some x => match resL P st b rs with
      | some y => some (x, y)
      | none => none
    | none => none
  | _, _ => none

def valsT : Ty → Bool
  | .unit => true
  | .pair a b => valT a && valsT b
  | _ => false

def rtOk : Ty → Nat → Bool
  | .tup c, n => valsT c && frozen c && !Nat.beq n 1
  | t, n => valT t && frozen t && Nat.beq n 1

def resAll (P : Program) (st : St) (rt : Ty) (rs : List ResultVar) : Option (den rt) :=
  match rt with
  | .tup c => resL P st c rs
  | rt => match rs with
    | [r] => resV1 P st rt r
    | _ => none

/-- At the end the results are such that `Q`. -/
def retK (P : Program) (rs : List ResultVar) (rt : Ty) (Q : den rt → Prop) : Kont := fun e st =>
  match e with
  | .normal => match resAll P st rt rs with
    | some r => Q r
    | none => False
  | .ret => match resAll P st rt rs with
    | some r => Q r
    | none => False
  | _ => False

def nthV : List V → Nat → Option V
  | [], _ => none
  | v :: _, 0 => some v
  | _ :: l, n + 1 => nthV l n

def entry (xs : List V) : St := ⟨nthV xs, fun _ => none, fun n => resv n⟩

section

variable {P : Program} {base : Mine} {w0 w : World} {F0 F : Nat → Prop} {ι : Nat → Option Ref} {N : Nat} {st : St} {a : Act}

def resF (tmps : Array Value) : ResultVar → Sem Value
  | .tmp t => pure (tmps.getD t undef)
  | .cell a t => do loadVar t (← asAddr (tmps.getD a undef))

theorem Sim.holdsAll (hs : Sim base w0 F0 F ι st a w) : Holds w (fun k => F0 k ∨ base.own k) ι st.heap := by
  intro b t l hb
  obtain ⟨r, hr, q⟩ := hs.heap _ _ hb
  refine ⟨r, hr, ?_⟩
  obtain ⟨hv, q⟩ := q
  cases l with
  | none => simp only [rep, Ref.val]; simp only at q; rw [if_pos q]; exact ⟨rfl, fun hn => by rw [q] at hn; simp at hn⟩
  | some l =>
    obtain ⟨q1, q2, q3, q4, q5, q6, cells, el, qe, q7, q8, q9⟩ := q
    refine ⟨?_, fun _ => q2⟩
    simp only [rep, Ref.val, q1, if_false, Bool.false_eq_true, q3]
    exact ⟨⟨r.blk, r.off, none⟩, r.cap, rfl, by omega, fun _ => ⟨cells, el, (0, 0), rfl, .inr (q5), q7, fun i y hy => rep_mono hs.fin (fun _ _ h => h) (fun _ _ => rfl) _ _ _ (q9 i y hy)⟩⟩

theorem coe_vrep (hs : Sim base w0 F0 F ι st a w) {t u : Ty} {x : den u} {y : den t} {v : Value} (hval : valT t = true) (hfr : frozen t = true) (hv : vrep w F ι u x v) (h : coe st.heap t u x = some y) :
    vrep w (fun k => F0 k ∨ base.own k) noRef t y v := by
  have htag := coe_tags _ _ _ _ h
  rcases valT_or hval with h1 | h1
  · rw [vrep_agg h1]
    rw [vrep_agg (htag.1.trans h1)] at hv
    obtain ⟨cs, rfl, hv⟩ := hv
    exact ⟨cs, rfl, rep_frozen _ _ _ hfr (coe_rep hs.fin hs.holdsAll _ _ _ _ _ hv h)⟩
  · rw [vrep_cell h1]
    rw [vrep_cell (htag.2.2.trans h1)] at hv
    exact rep_frozen _ _ _ hfr (coe_rep hs.fin hs.holdsAll _ _ _ _ _ hv h)

theorem resV1_ok (hs : Sim base w0 F0 F ι st a w) {rt : Ty} {r : ResultVar} {x : den rt} (hval : valT rt = true) (hfr : frozen rt = true) (h : resV1 P st rt r = some x) :
    ∃ v, (resF a.tmps r).run P w = .ok v w ∧ vrep w (fun k => F0 k ∨ base.own k) noRef rt x v := by
  cases r with
  | tmp t =>
    simp only [resV1] at h
    split at h <;> try (simp at h; done)
    rename_i v hv
    exact ⟨_, rfl, coe_vrep hs hval hfr (hs.env _ _ hv) h⟩
  | cell p t =>
    simp only [resV1] at h
    split at h <;> try (simp at h; done)
    rename_i b o _ hv
    split at h <;> try (simp at h; done)
    rename_i ag n ht
    split at h <;> try (simp at h; done)
    rename_i u hu
    have hp := hs.env _ _ hv
    have hp' := hp
    rw [vrep_cell rfl] at hp'; simp only [rep] at hp'
    obtain ⟨r, hr, e⟩ := hp'
    simp only [List.cons.injEq, and_true] at e
    obtain ⟨val, h1, h2⟩ := loadV_ok (P := P) hs.heap ht (v := ⟨.ref b o, ()⟩) hp hu
    refine ⟨val, ?_, coe_vrep hs hval hfr h2 h⟩
    rw [e] at h1
    simp only [Instr.loadAt, Instr.sureAddr, Sem.run_bind, Sem.run_pure, Result.andThen_ok] at h1
    simp only [resF, e, asAddr, Sem.run_bind, Sem.run_pure, Result.andThen_ok, h1]

theorem resL_ok (hs : Sim base w0 F0 F ι st a w) : ∀ (c : Ty) (rs : List ResultVar) (x : den c), valsT c = true → frozen c = true → resL P st c rs = some x →
    ∃ vs : List Value, vs.length = rs.length ∧ (∀ acc : Array Value, (rs.foldlM (fun (acc : Array Value) (r : ResultVar) => acc.push <$> resF a.tmps r) acc).run P w = .ok (acc ++ vs.toArray) w) ∧ trep w (fun k => F0 k ∨ base.own k) noRef c x vs
  | .unit, [], x, _, _, h => ⟨[], rfl, fun acc => by simp, rfl⟩
  | .pair c d, r :: rs, x, hv, hf, h => by
    simp only [valsT, Bool.and_eq_true] at hv
    simp only [frozen, Bool.and_eq_true] at hf
    simp only [resL] at h
    split at h <;> try (simp at h; done)
    rename_i y hy
    split at h <;> try (simp at h; done)
    rename_i z hz
    simp only [Option.some.injEq] at h; subst h
    obtain ⟨v, h1, h2⟩ := resV1_ok (P := P) hs hv.1 hf.1 hy
    obtain ⟨vs, l1, l2, l3⟩ := resL_ok hs d rs z hv.2 hf.2 hz
    refine ⟨v :: vs, by simp [l1], fun acc => ?_, ?_⟩
    · simp only [List.foldlM_cons, Sem.run_bind, Sem.run_map, h1, Result.andThen_ok]
      rw [l2 (acc.push v)]; simp
    · simp only [trep]
      exact ⟨v, vs, rfl, (vrep_vrep1 hv.1).1 h2, l3⟩
  | .unit, _ :: _, _, _, _, h | .pair _ _, [], _, _, _, h => by simp [resL] at h
  | .int _, _, _, h, _, _ | .bool, _, _, h, _, _ | .str, _, _, h, _, _ | .cst _, _, _, h, _, _ | .sl _, _, _, h, _, _ | .agg _, _, _, h, _, _ | .arr _ _, _, _, h, _, _ | .tup _, _, _, h, _, _
  | .ref _ _, _, _, h, _, _ | .own _, _, _, h, _, _ | .eref _ _, _, _, h, _, _ | .fref _, _, _, h, _, _ => by simp [valsT] at h

theorem results_eq (fn : Func) (tmps : Array Value) : results fn tmps = (do
    let vs ← fn.results.mapM (resF tmps)
    pure (if h : vs.size = 1 then vs[0] else .tuple vs)) := by
  unfold results
  congr 1

theorem resAll_ok (hs : Sim base w0 F0 F ι st a w) {fn : Func} {rt : Ty} {x : den rt} (hrt : rtOk rt fn.results.size = true) (h : resAll P st rt fn.results.toList = some x) :
    ∃ v, (results fn a.tmps).run P w = .ok v w ∧ vrep w (fun k => F0 k ∨ base.own k) noRef rt x v := by
  have main : ∀ vs : List Value, vs.length = fn.results.toList.length → (∀ acc : Array Value, (fn.results.toList.foldlM (fun (acc : Array Value) (r : ResultVar) => acc.push <$> resF a.tmps r) acc).run P w = .ok (acc ++ vs.toArray) w) →
      (results fn a.tmps).run P w = .ok (if h : vs.toArray.size = 1 then vs.toArray[0] else .tuple vs.toArray) w := by
    intro vs hl hv
    rw [results_eq, Array.mapM_eq_foldlM, ← Array.foldlM_toList]
    have := hv #[]
    simp only [Array.empty_append] at this
    simp only [Sem.run_bind, Sem.run_pure]
    rw [this]
    rfl
  have single : ∀ rt : Ty, valT rt = true → frozen rt = true → (x : den rt) → (match fn.results.toList with
      | [r] => resV1 P st rt r
      | _ => none) = some x → ∃ v, (results fn a.tmps).run P w = .ok v w ∧ vrep w (fun k => F0 k ∨ base.own k) noRef rt x v := by
    intro rt hv hf x h
    split at h <;> try (simp at h; done)
    rename_i r hr
    obtain ⟨v, h1, h2⟩ := resV1_ok (P := P) hs hv hf h
    refine ⟨v, ?_, h2⟩
    rw [main [v] (by rw [hr]; rfl) (fun acc => by rw [hr]; simp [h1])]
    rfl
  cases rt with
  | tup c =>
    simp only [rtOk, Bool.and_eq_true, Bool.not_eq_true'] at hrt
    obtain ⟨⟨h1, h2⟩, h3⟩ := hrt
    simp only [resAll] at h
    obtain ⟨vs, l1, l2, l3⟩ := resL_ok (P := P) hs c _ x h1 h2 h
    refine ⟨_, main vs l1 l2, ?_⟩
    have hne : ¬ vs.toArray.size = 1 := by
      simp only [List.size_toArray, l1, Array.length_toList]
      intro e; rw [e] at h3; simp at h3
    rw [dif_neg hne]
    exact ⟨vs.toArray, rfl, by simpa using l3⟩
  | _ =>
    simp only [rtOk, Bool.and_eq_true] at hrt
    exact single _ hrt.1.1 hrt.1.2 x h

theorem vreps_nth {F : Nat → Prop} : ∀ (xs : List V) (vals : List Value), vreps w F xs vals → xs.length = vals.length ∧ ∀ n v, nthV xs n = some v → ∃ x, vals[n]? = some x ∧ vrep w F noRef v.t v.x x
  | [], [], _ => ⟨rfl, fun n v h => by simp [nthV] at h⟩
  | v :: xs, x :: vals, h => by
    obtain ⟨h1, h2⟩ := vreps_nth xs vals h.2
    refine ⟨by simp [h1], fun n u hu => ?_⟩
    cases n with
    | zero => simp only [nthV, Option.some.injEq] at hu; subst hu; exact ⟨x, rfl, h.1⟩
    | succ n => exact h2 n u hu
  | [], _ :: _, h | _ :: _, [], h => h.elim

theorem entry_pools (xs : List V) : PoolsOk noRef (entry xs).heap (entry xs).used :=
  ⟨fun _ _ => rfl, fun b hb => (by simp [entry, resv, hb]), fun _ _ _ _ e => (by cases e), fun b c k k' r r' _ hb => (by
    obtain ⟨_, _, _, _, _, _, _, _, e, _⟩ := prow_some hb
    cases e), fun _ _ _ _ => rfl⟩

theorem entry_ok {xs : List V} {vals : List Value} {n : Nat} (hlen : Nat.ble xs.length n = true) (hF : ∀ b, F b → b < w.heap.size) (hv : vreps w F xs vals) :
    Ok (freshM (u8of P) w.heap.size) w F n (entry xs) { tmps := vals.toArray ++ Array.replicate (n - vals.toArray.size) undef, defers := [] } w := by
  obtain ⟨hl, hn⟩ := vreps_nth xs vals hv
  have hlen' : vals.length ≤ n := by rw [← hl]; exact Nat.le_of_ble_eq_true hlen
  refine ⟨by simp; omega, F, noRef, ⟨?_, ?_, ?_, ?_, hF, fun b h => .inl h, Keep.refl _ _, Nat.le_refl _, fun n h => by simp [entry, resv, h], entry_pools xs, fun _ _ _ _ h => by simp [freshM] at h, rfl⟩⟩
  · intro s v hs
    obtain ⟨x, hx, q⟩ := hn s v hs
    have hs' : s < vals.length := by
      rcases Nat.lt_or_ge s vals.length with h' | h'
      · exact h'
      · rw [List.getElem?_eq_none h'] at hx; simp at hx
    have : (vals.toArray ++ Array.replicate (n - vals.toArray.size) undef).getD s undef = x := by
      rw [Array.getD_eq_getD_getElem?, Array.getElem?_append_left (by simpa using hs')]
      simp [hx]
    rw [this]; exact q
  · intro b k hb'; simp [entry] at hb'
  · intro b r hb'; simp [noRef] at hb'
  · intro b c k k' r r' _ hb'; simp [entry] at hb'

/-- The function does what the condition on its body says. -/
theorem callV_of {f : FuncId} {fn : Func} {c : Code} {ann : Ann} {xs : List V} {rt : Ty} {Q : den rt → Prop} (hf : P.funcs[f]? = some fn) (hb : fn.body = some c)
    (hc : ∀ args w, (callFunc f args).run P w = .ok (.enter f args) w) (hrt : rtOk rt fn.results.size = true) (hlen : Nat.ble xs.length fn.ntmps = true) (hex : ∃ r, Q r)
    (h : wpC P fn.ntmps c ann (retK P fn.results.toList rt Q) (entry xs)) : callV P f xs rt Q := by
  refine ⟨hc, hex, fun w F vals hF hg hv => ?_⟩
  have hok := entry_ok (P := P) (F := F) hlen hF hv
  refine calls_of_wp hf hb (wp_mono (wpC_sound ⟨rfl, fun _ hb => hg.below hb.below⟩ c ann _ _ _ _ h hok) ?_)
  rintro e a w' ⟨st, hk, _, F', ι, hs⟩
  have fin : (match resAll P st rt fn.results.toList with
      | some r => Q r
      | none => False) → a.defers = [] ∧ ∃ v, (results fn a.tmps).run P w' = .ok v w' ∧ ∃ v_1 r, Ending.returned v = .returned v_1 ∧ vrep w' (fun k => F k ∨ w.heap.size ≤ k) noRef rt r v_1 ∧ Q r ∧ Below w.heap.size w w' := by
    intro hk
    split at hk <;> try exact hk.elim
    rename_i r hr
    obtain ⟨v, h1, h2⟩ := resAll_ok (P := P) hs hrt hr
    exact ⟨hs.defers, v, h1, v, r, rfl, vrep_mono (fun _ h => h.imp id freshM_own) (fun _ _ h => h) (fun _ _ => rfl) h2, hk, hs.below.below⟩
  cases e with
  | normal => exact fin hk
  | ret => exact fin hk
  | _ => exact hk.elim

def resVv (P : Program) (st : St) : ResultVar → Option V
  | .tmp t => st.env t
  | .cell a t => match st.env a with
    | some ⟨.ref b o, _⟩ => match tinf P t with
      | some (ag, n) => loadV st.heap ag n ⟨.ref b o, ()⟩
      | none => none
    | _ => none

def resOwn (P : Program) (st : St) (t : Ty) : List ResultVar → Option (Option (List (den t)))
  | [r] => match resVv P st r with
    | some ⟨.own b, _⟩ => match st.heap b with
      | some (.arr t' l) => castT (.sl t) (.sl t') l
      | _ => none
    | _ => none
  | _ => none

/-- At the end the result is a list of its own such that `Q`. -/
def retO (P : Program) (rs : List ResultVar) (t : Ty) (Q : Option (List (den t)) → Prop) : Kont := fun e st =>
  match e with
  | .normal => match resOwn P st t rs with
    | some r => Q r
    | none => False
  | .ret => match resOwn P st t rs with
    | some r => Q r
    | none => False
  | _ => False

theorem resVv_ok (hs : Sim base w0 F0 F ι st a w) {r : ResultVar} {v : V} (h : resVv P st r = some v) : ∃ x, (resF a.tmps r).run P w = .ok x w ∧ vrep w F ι v.t v.x x := by
  cases r with
  | tmp t => exact ⟨_, rfl, hs.env _ _ h⟩
  | cell p t =>
    simp only [resVv] at h
    split at h <;> try (simp at h; done)
    rename_i b o _ hv
    split at h <;> try (simp at h; done)
    rename_i ag n ht
    have hp := hs.env _ _ hv
    have hp' := hp
    rw [vrep_cell rfl] at hp'; simp only [rep] at hp'
    obtain ⟨r, hr, e⟩ := hp'
    simp only [List.cons.injEq, and_true] at e
    obtain ⟨val, h1, h2⟩ := loadV_ok (P := P) hs.heap ht (v := ⟨.ref b o, ()⟩) hp h
    refine ⟨val, ?_, h2⟩
    rw [e] at h1
    simp only [Instr.loadAt, Instr.sureAddr, Sem.run_bind, Sem.run_pure, Result.andThen_ok] at h1
    simp only [resF, e, asAddr, Sem.run_bind, Sem.run_pure, Result.andThen_ok, h1]

/-- A list that nobody else holds is data. -/
theorem ownV.val {f : FuncId} {xs : List V} {t : Ty} {Q : Option (List (den t)) → Prop} (h : ownV P f xs t Q) : callV P f xs (.sl t) Q := by
  refine ⟨h.call, h.ex, fun w F vals hF hg hv => (h.run w F vals hF hg hv).mono ?_⟩
  rintro e w' ⟨r, l, rfl, hb, hq, hbl⟩
  refine ⟨_, l, rfl, ?_, hq, hbl⟩
  rw [vrep_cell rfl]
  obtain ⟨_, q⟩ := hb
  cases l with
  | none => simp only at q; simp only [rep, Ref.val, q, if_true]
  | some l =>
    obtain ⟨q1, q2, q3, q4, q5, q6, cells, el, qe, q7, q8, q9⟩ := q
    simp only [rep, Ref.val, q1, if_false, Bool.false_eq_true, q3]
    exact ⟨⟨r.blk, r.off, none⟩, r.cap, rfl, by omega, fun _ => ⟨cells, el, (0, 0), rfl, .inr (freshM_own q5), q7, fun i y hy => rep_mono (fun _ h => .inl h) (fun _ _ h => h) (fun _ _ => rfl) _ _ _ (q9 i y hy)⟩⟩

/-- The function returns a list of its own as the condition on its body says. -/
theorem ownV_of {f : FuncId} {fn : Func} {c : Code} {ann : Ann} {xs : List V} {t : Ty} {Q : Option (List (den t)) → Prop} (hf : P.funcs[f]? = some fn) (hb : fn.body = some c)
    (hc : ∀ args w, (callFunc f args).run P w = .ok (.enter f args) w) (hrt : flat t = true) (hlen : Nat.ble xs.length fn.ntmps = true) (hex : ∃ r, Q r)
    (h : wpC P fn.ntmps c ann (retO P fn.results.toList t Q) (entry xs)) : ownV P f xs t Q := by
  refine ⟨hc, hex, fun w F vals hF hg hv => ?_⟩
  have hok := entry_ok (P := P) (F := F) hlen hF hv
  refine calls_of_wp hf hb (wp_mono (wpC_sound ⟨rfl, fun _ hb => hg.below hb.below⟩ c ann _ _ _ _ h hok) ?_)
  rintro e a w' ⟨st, hk, _, F', ι, hs⟩
  have fin : (match resOwn P st t fn.results.toList with
      | some r => Q r
      | none => False) → a.defers = [] ∧ ∃ v, (results fn a.tmps).run P w' = .ok v w' ∧ ∃ (r : Ref) (l : Option (List (den t))), Ending.returned v = .returned r.val ∧ brep w' (freshM (u8of P) w.heap.size) F noRef r (.arr t l) ∧ Q l ∧ Below w.heap.size w w' := by
    intro hk
    split at hk <;> try exact hk.elim
    rename_i l hr
    unfold resOwn at hr
    split at hr <;> try (simp at hr; done)
    rename_i rv hrs
    split at hr <;> try (simp at hr; done)
    rename_i b _ hv'
    split at hr <;> try (simp at hr; done)
    rename_i t' l' hl
    obtain ⟨val, q1, q2⟩ := resVv_ok (P := P) hs hv'
    obtain ⟨r, hr', hbr⟩ := hs.heap _ _ hl
    rw [vrep_cell rfl] at q2; simp only [rep] at q2
    obtain ⟨r', hr'', e⟩ := q2
    rw [hr'] at hr''; cases hr''
    simp only [List.cons.injEq, and_true] at e
    subst e
    obtain ⟨e, rfl⟩ := castT_some hr
    cases e
    refine ⟨hs.defers, r.val, ?_, r, l', rfl, ?_, hk, hs.below.below⟩
    · rw [results_eq, Array.mapM_eq_foldlM, ← Array.foldlM_toList, hrs]
      simp only [List.foldlM_cons, List.foldlM_nil, Sem.run_bind, Sem.run_map, q1, Result.andThen_ok, Sem.run_pure]
      rfl
    · obtain ⟨p0, p⟩ := hbr
      refine ⟨p0, ?_⟩
      cases l' with
      | none => exact p
      | some l' =>
        obtain ⟨p1, p2, p3, p4, p5, p6, cells, el, pe, p7, p8, p9⟩ := p
        exact ⟨p1, p2, p3, p4, p5, fun hf => by have := hF _ hf; have := freshM_own p5; omega, cells, el, pe, p7, p8, fun i y hy => rep_flat _ _ _ hrt (p9 i y hy)⟩
  cases e with
  | normal => exact fin hk
  | ret => exact fin hk
  | _ => exact hk.elim

end

end Go.VM

namespace Go.VM

open Go Go.RowKit

/-- What goes back: the results, and the blocks that were lent. -/
def retSt (P : Program) (st : St) (rs : List ResultVar) : St :=
  ⟨fun s => bif Nat.ble 1000 s && Nat.blt s 1064 then (match st.heap (1000000000 + (s - 1000)) with
      | some (.box _ _) => some ⟨.ref (1000000000 + (s - 1000)) 0, ()⟩
      | _ => none)
    else match rs[s]? with
      | some r => resVv P st r
      | none => none, st.heap, st.used⟩

def allRes (P : Program) (st : St) : List ResultVar → Bool
  | [] => true
  | r :: l => (match resVv P st r with
    | some _ => true
    | none => false) && allRes P st l

def retQ (P : Program) (rs : List ResultVar) (L : Lend) (Q : Pay L.out.ents → Prop) (st : St) : Prop :=
  bif allRes P st rs then match unpack L.out (retSt P st rs) with
    | some q => Q q
    | none => False
  else False

/-- At the end what goes back is such that `Q`. -/
def retL (P : Program) (rs : List ResultVar) (L : Lend) (Q : Pay L.out.ents → Prop) : Kont := fun e st =>
  match e with
  | .normal => retQ P rs L Q st
  | .ret => retQ P rs L Q st
  | _ => False

section

variable {P : Program} {base : Mine} {w0 w : World} {F0 F : Nat → Prop} {ι : Nat → Option Ref} {N : Nat} {st : St} {a : Act}

theorem allRes_ok (hs : Sim base w0 F0 F ι st a w) : ∀ (rs : List ResultVar), allRes P st rs = true →
    ∃ vs : List Value, vs.length = rs.length ∧ (∀ acc : Array Value, (rs.foldlM (fun (acc : Array Value) (r : ResultVar) => acc.push <$> resF a.tmps r) acc).run P w = .ok (acc ++ vs.toArray) w) ∧
      ∀ (i : Nat) (r : ResultVar) (v : V), rs[i]? = some r → resVv P st r = some v → ∃ x, vs[i]? = some x ∧ vrep w F ι v.t v.x x
  | [], _ => ⟨[], rfl, fun acc => by simp, fun i r v h => by simp at h⟩
  | r :: l, h => by
    simp only [allRes, Bool.and_eq_true] at h
    obtain ⟨h1, h2⟩ := h
    cases e : resVv P st r with
    | none => rw [e] at h1; simp at h1
    | some v =>
      obtain ⟨x, hx, hv⟩ := resVv_ok (P := P) hs e
      obtain ⟨vs, q1, q2, q3⟩ := allRes_ok hs l h2
      refine ⟨x :: vs, by simp [q1], fun acc => ?_, fun i r' v' hr hv' => ?_⟩
      · simp only [List.foldlM_cons, Sem.run_bind, Sem.run_map, hx, Result.andThen_ok, q2]
        congr 1
        simp
      · cases i with
        | zero =>
          simp only [List.getElem?_cons_zero, Option.some.injEq] at hr; subst hr
          rw [e] at hv'; cases hv'
          exact ⟨x, rfl, hv⟩
        | succ i =>
          simp only [List.getElem?_cons_succ] at hr
          simpa using q3 i r' v' hr hv'

theorem retSt_ok (hs : Sim base w0 F0 F ι st a w) {rs : List ResultVar} {vs : List Value} (hl : vs.length = rs.length) (hk : rs.length ≤ 900) (hvs : ∀ (i : Nat) (r : ResultVar) (v : V), rs[i]? = some r → resVv P st r = some v → ∃ x, vs[i]? = some x ∧ vrep w F ι v.t v.x x) :
    ∃ a' : Act, resVal rs.length a'.tmps = (if rs.length = 1 then vs.getD 0 undef else .tuple vs.toArray) ∧ Sim base w0 F0 F ι (retSt P st rs) a' w := by
  let gh : Nat → Value := fun s => match ι (1000000000 + (s - 1000)) with
    | some r => .pointer (some ⟨r.blk, r.off + 0, none⟩)
    | none => undef
  let tm : Array Value := (vs ++ (List.range 2000).map fun i => gh (i + rs.length)).toArray
  have t1 : ∀ i, i < rs.length → tm.getD i undef = vs.getD i undef := by
    intro i hi
    simp only [tm, Array.getD_eq_getD_getElem?, List.getElem?_toArray, List.getD]
    rw [List.getElem?_append_left (by omega)]
  have t2 : ∀ i, rs.length ≤ i → i < 2000 → tm.getD i undef = gh i := by
    intro i h1 h2
    simp only [tm, Array.getD_eq_getD_getElem?, List.getElem?_toArray]
    rw [List.getElem?_append_right (by omega), hl, List.getElem?_map, List.getElem?_range (by omega)]
    simp only [Option.map_some, Option.getD_some]
    congr 1; omega
  refine ⟨{ a with tmps := tm }, ?_, ?_⟩
  · unfold resVal
    split
    · rename_i h; exact t1 0 (by omega)
    · congr 1
      apply congrArg List.toArray
      apply List.ext_getElem?
      intro i
      by_cases hi : i < rs.length
      · rw [List.getElem?_map, List.getElem?_range hi, Option.map_some, t1 i hi]
        simp only [List.getD]
        rw [List.getElem?_eq_getElem (by omega)]; rfl
      · rw [List.getElem?_eq_none (by simp; omega), List.getElem?_eq_none (by omega)]
  · refine { hs with env := ?_, defers := hs.defers }
    intro s v hv
    simp only [retSt] at hv
    show vrep w F ι v.t v.x (tm.getD s undef)
    cases hb : (Nat.ble 1000 s && Nat.blt s 1064) with
    | true =>
      rw [hb] at hv
      simp only [Bool.and_eq_true] at hb
      have h1 : 1000 ≤ s := Nat.le_of_ble_eq_true hb.1
      have h2 : s < 1064 := Nat.le_of_ble_eq_true hb.2
      simp only [cond_true] at hv
      split at hv <;> try (simp at hv; done)
      rename_i t x hh
      simp only [Option.some.injEq] at hv; subst hv
      rw [t2 s (by omega) (by omega), vrep_cell rfl]
      obtain ⟨r, hr, q⟩ := hs.heap _ _ hh
      refine ⟨r, hr, ?_⟩
      simp only [gh, hr]
    | false =>
      rw [hb] at hv
      simp only [cond_false] at hv
      split at hv <;> try (simp at hv; done)
      rename_i r hr
      obtain ⟨x, hx, hv'⟩ := hvs s r v hr hv
      have hi : s < rs.length := by
        rcases Nat.lt_or_ge s rs.length with h | h
        · exact h
        · rw [List.getElem?_eq_none h] at hr; simp at hr
      rw [t1 s hi]
      simp only [List.getD, hx]; exact hv'

/-- The function does what the condition on its body says. -/
theorem lendV_of {f : FuncId} {fn : Func} {c : Code} {ann : Ann} {n : Nat} {L : Lend} {p : Pay L.inn.ents} {Q : Pay L.out.ents → Prop} (hf : P.funcs[f]? = some fn) (hb : fn.body = some c)
    (hc : ∀ args w, (callFunc f args).run P w = .ok (.enter f args) w) (hk : (Nat.beq L.k fn.results.size && Nat.ble fn.results.size 900) = true) (hex : ∃ q, Q q)
    (hn : Nat.ble n fn.ntmps = true) (h : wpC P fn.ntmps c ann (retL P fn.results.toList L Q) (pack L.inn p)) : lendV P f n L p Q := by
  refine ⟨hc, hex, fun base w F ι a hbn hb8 han hs hg => ?_⟩
  have hn := Nat.le_of_ble_eq_true hn
  simp only [Bool.and_eq_true, Nat.beq_eq] at hk
  have hk2 := Nat.le_of_ble_eq_true hk.2
  have hok : Ok base w F fn.ntmps (pack L.inn p) { tmps := a.tmps ++ Array.replicate (fn.ntmps - a.tmps.size) undef, defers := [] } w := by
    refine ⟨by simp; omega, F, ι, { hs with env := ?_, defers := rfl }⟩
    intro s v hv
    have := hs.env s v hv
    have e : (a.tmps ++ Array.replicate (fn.ntmps - a.tmps.size) undef).getD s undef = a.tmps.getD s undef := by
      simp only [Array.getD_eq_getD_getElem?]
      by_cases h1 : s < a.tmps.size
      · rw [Array.getElem?_append_left h1]
      · rw [Array.getElem?_append_right (by omega), Array.getElem?_eq_none (xs := a.tmps) (by omega), Array.getElem?_replicate]
        split <;> rfl
    show vrep w F ι v.t v.x ((a.tmps ++ Array.replicate (fn.ntmps - a.tmps.size) undef).getD s undef)
    rw [e]; exact this
  refine calls_of_wp hf hb (wp_mono (wpC_sound ⟨hb8, hg⟩ c ann _ _ _ _ h hok) ?_)
  rintro e a1 w' ⟨st, hq, _, F', ι', hs'⟩
  have fin : retQ P fn.results.toList L Q st → a1.defers = [] ∧ ∃ v, (results fn a1.tmps).run P w' = .ok v w' ∧ ∃ q F' ι' a', Ending.returned v = .returned (resVal L.k a'.tmps) ∧ Q q ∧ Sim base w F F' ι' (pack L.out q) a' w' := by
    intro hq
    unfold retQ at hq
    cases ha : allRes P st fn.results.toList <;> rw [ha] at hq
    · exact hq.elim
    simp only [cond_true] at hq
    split at hq <;> try exact hq.elim
    rename_i q hu
    obtain ⟨vs, q1, q2, q3⟩ := allRes_ok (P := P) hs' _ ha
    obtain ⟨a', r1, r2⟩ := retSt_ok (P := P) hs' q1 (by simp; omega) q3
    obtain ⟨_, F2, ι2, hs2⟩ := unpack_ok (N := a'.tmps.size) hu ⟨rfl, F', ι', r2⟩
    refine ⟨hs'.defers, _, ?_, q, F2, ι2, a', rfl, hq, hs2⟩
    have e1 : fn.results.toList.length = L.k := by rw [hk.1]; simp
    rw [e1] at r1
    rw [r1, results_eq, Array.mapM_eq_foldlM, ← Array.foldlM_toList]
    simp only [Sem.run_bind, q2, Result.andThen_ok, Sem.run_pure]
    congr 1
    have e2 : vs.length = L.k := by rw [q1, e1]
    by_cases h1 : L.k = 1
    · rw [if_pos h1]
      have e3 : vs.length = 1 := by omega
      match vs, e3 with
      | [x], _ => rfl
    · rw [if_neg h1]
      have e3 : ¬ (#[] ++ vs.toArray).size = 1 := by simp; omega
      rw [dif_neg e3]; simp
  cases e with
  | normal => exact fin hq
  | ret => exact fin hq
  | _ => exact hq.elim

end

end Go.VM
