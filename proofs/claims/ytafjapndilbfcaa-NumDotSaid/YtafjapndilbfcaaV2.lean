/- Typed pure data for the values of the model, and a condition on code that says what a call gives. -/
import Derived.Test.YtafjapndilbfcaaV1
set_option linter.unusedVariables false
set_option linter.unusedSimpArgs false
namespace Go.VM
open Go Go.RowKit

section
variable {P : Program} {base : Nat} {w0 w : World} {F0 F : Nat → Prop} {ι : Nat → Option Ref} {st : St} {a : Act}

theorem Sim.fresh (h : Sim base w0 F0 F ι st a w) {d : Nat} (hd : st.used d = false) (r : Ref) : ∀ b r', ι b = some r' → upd ι d (some r) b = some r' := by
  have hnone : ι d = none := by
    cases e : ι d with
    | none => rfl
    | some r => have := h.used d r e; rw [hd] at this; simp at this
  intro b r' e
  by_cases hb : b = d
  · subst hb; rw [hnone] at e; simp at e
  · rw [upd_other _ _ _ _ hb]; exact e

/-- A new block of elements. -/
theorem alloc_arr (h : Sim base w0 F0 F ι st a w) {d : Nat} {t : Ty} {l : List (den t)} {cs : Array Value} {e : TypeId} {cap : Nat} {w1 : World} (hw1 : w1 = w ∨ w1 = w.drew) (hd : st.used d = false) (ht : valT t = true)
    (hl : l.length ≤ cap) (hc : cap * width t ≤ cs.size) (hx : Lies w F ι t l cs.toList 0) :
    Sim base w0 F0 F (upd ι d (some (newRef w (width t) l.length cap))) (st.new d (.arr t (some l))) a (w1.alloc (.cells cs e)) ∧
    vrep (w1.alloc (.cells cs e)) F (upd ι d (some (newRef w (width t) l.length cap))) (.own d) () (.slice (some ⟨w.heap.size, 0, none⟩) l.length cap) := by
  have hsz : w1.heap.size = w.heap.size := by rcases hw1 with rfl | rfl <;> rfl
  have hhp : ∀ k, k < w.heap.size → (w1.alloc (.cells cs e)).heap[k]? = w.heap[k]? := by
    intro k hk
    rcases hw1 with rfl | rfl
    · exact alloc_blk _ _ _ hk
    · exact alloc_blk w.drew _ _ hk
  have hnew : (w1.alloc (.cells cs e)).heap[w.heap.size]? = some (.cells cs e) := by rw [← hsz]; exact heap_alloc_new _ _
  constructor
  · refine h.alloc (o := .cells cs e) (by rcases hw1 with rfl | rfl; exact .inl rfl; exact .inr rfl) hd (fun _ => rfl) ⟨ht, rfl, rfl, rfl, hl, h.size, fun hf => ?_, cs, e, hnew, by simp [newRef]; exact hc, ?_⟩
    · have := h.fsize _ hf; simp only [newRef] at this; omega
    · intro i y hy
      exact rep_mono (fun _ h => h) (h.fresh hd _) (fun b hb => hhp _ (h.fsize b hb)) _ _ _ (hx i y hy)
  · exact (vrep_cell rfl).2 ⟨_, upd_same _ _ _, by simp [Ref.val, newRef]⟩

theorem seg_made (z : Array Value) (n i : Nat) (hi : i < n) : seg (madeCells z (n * z.size)).toList (i * z.size) z.size = z.toList := by
  apply List.ext_getElem?
  intro j
  rcases Nat.lt_or_ge j z.size with hj | hj
  · have hlt : i * z.size + j < n * z.size := by
      have : (i + 1) * z.size ≤ n * z.size := Nat.mul_le_mul_right _ hi
      rw [Nat.add_mul] at this; omega
    rw [seg_get _ _ _ _ hj]
    have hm : (i * z.size + j) % z.size = j := by rw [Nat.mul_comm, Nat.mul_add_mod]; exact Nat.mod_eq_of_lt hj
    simp only [madeCells, Array.toList_map, Array.toList_range, List.getElem?_map]
    rw [List.getElem?_range hlt]
    simp only [Option.map_some, hm]
    rw [getElem!_pos z j hj]
    simp [hj]
  · rw [List.getElem?_eq_none (by simp [seg]; omega), List.getElem?_eq_none (by simpa using hj)]

/-- The element type of a slice type, its zero value, cells and bytes. -/
def elemV (P : Program) (t : TypeId) : Option (V × Nat) :=
  match P.underlying t with
  | some (.slice e) => match zeroV P e with
    | some z => match tinf P e with
      | some (_, n) => match P.info? e with
        | some i => bif Nat.beq n (width z.t) && Nat.blt 0 n && Nat.blt 0 i.bytes then some (z, i.bytes) else none
        | none => none
      | none => none
    | none => none
  | _ => none

theorem elemV_ok {t : TypeId} {z : V} {bytes : Nat} (h : elemV P t = some (z, bytes)) : ∃ e i zv, P.underlying t = some (.slice e) ∧ P.info? e = some i ∧ i.zero = some zv ∧ i.size = width z.t ∧ i.bytes = bytes ∧ 0 < width z.t ∧ 0 < bytes ∧
    zv.cells.size = width z.t ∧ valT z.t = true ∧ ∀ (w : World) F ι, rep w F ι z.t z.x zv.cells.toList := by
  unfold elemV at h
  split at h <;> try (simp at h; done)
  rename_i e ht
  split at h <;> try (simp at h; done)
  rename_i z' hz
  split at h <;> try (simp at h; done)
  rename_i ag n hi'
  split at h <;> try (simp at h; done)
  rename_i i hi
  obtain ⟨hc, heq⟩ := bif_some h
  simp only [Prod.mk.injEq] at heq
  obtain ⟨rfl, rfl⟩ := heq
  simp only [Bool.and_eq_true, Nat.beq_eq] at hc
  obtain ⟨⟨rfl, h0⟩, h1⟩ := hc
  have hsz : i.size = width z'.t := by
    unfold tinf at hi'
    split at hi' <;> try (simp at hi'; done)
    rw [hi] at hi'; simp at hi'; exact hi'.2
  unfold zeroV at hz
  split at hz <;> try (simp at hz; done)
  rename_i ty hty
  rw [hi] at hz
  simp only at hz
  split at hz <;> try (simp at hz; done)
  rename_i zv hzv
  split at hz <;> try (simp at hz; done)
  rename_i x hx
  obtain ⟨hv, rfl⟩ := bif_some hz
  have hrep : ∀ (w : World) F ι, rep w F ι ty x zv.cells.toList := by
    intro w F ι
    obtain ⟨c, e, q⟩ := ofCells_rep (w := w) (F := F) (ι := ι) _ _ _ _ hx
    simp at e; rw [e]; exact q
  refine ⟨e, i, zv, ht, hi, hzv, hsz, rfl, Nat.le_of_ble_eq_true h0, Nat.le_of_ble_eq_true h1, ?_, hv, hrep⟩
  have := rep_length _ _ _ (hrep default (fun _ => False) (fun _ => none))
  simpa using this

/-- make. -/
def mkRes (t : Ty) (x : den t) (bytes : Nat) (l c : Int) : Res := .newc (mkC bytes l c) (.arr t (some (repS l x)))
def makeV (P : Program) (t : TypeId) (l c : V) : Option Res :=
  match elemV P t with
  | some (z, bytes) => match l, c with
    | ⟨.int _, l⟩, ⟨.int _, c⟩ => some (mkRes z.t z.x bytes l c)
    | _, _ => none
  | none => none

/-- What a result that is a new block of elements stands for. -/
def Res.okNew (base : Nat) (w0 : World) (F0 F : Nat → Prop) (st : St) (a : Act) (w : World) (P : Program) (d : Nat) (tag : Ty) (s : Sem Value) : Res → Prop
  | .new k => ∃ val w' ι' x, s.run P w = .ok val w' ∧ Sim base w0 F0 F ι' (st.new d k) a w' ∧ vrep w' F ι' tag x val
  | .newc c k => c → ∃ val w' ι' x, s.run P w = .ok val w' ∧ Sim base w0 F0 F ι' (st.new d k) a w' ∧ vrep w' F ι' tag x val
  | _ => True

theorem mkRes_ok (hs : Sim base w0 F0 F ι st a w) {t : TypeId} {z : V} {bytes d : Nat} {k k' : IntKind} {l c : Int} (hd : st.used d = false) (he : elemV P t = some (z, bytes)) :
    (mkRes z.t z.x bytes l c).okNew base w0 F0 F st a w P d (.own d) (Instr.makeSlice t (.int k l) (.int k' c)) := by
  intro ⟨h0, h1, h2⟩
  obtain ⟨e, i, zv, ht, hi, hz, e1, e2, p1, p2, e3, hv, hrep⟩ := elemV_ok he
  have hc : c ≤ 281474976710656 := by
    have : c * 1 ≤ c * bytes := Int.mul_le_mul_of_nonneg_left (by omega) (by omega)
    omega
  have hrun := run_make (P := P) w t e i zv ht hi hz k k' l c h0 h1 (by rw [e2, Int.mul_comm]; exact h2) (by omega)
  have hlies : Lies w F ι z.t (List.replicate l.toNat z.x) (madeCells zv.cells (c.toNat * i.size)).toList 0 := by
    intro j y hy
    have hj : j < l.toNat := by
      rcases Nat.lt_or_ge j l.toNat with q | q
      · exact q
      · rw [List.getElem?_eq_none (by simpa using q)] at hy; simp at hy
    rw [List.getElem?_replicate, if_pos hj] at hy
    simp only [Option.some.injEq] at hy; subst hy
    rw [Nat.zero_add, e1, ← e3, seg_made _ _ _ (by omega)]
    exact hrep w F ι
  obtain ⟨q1, q2⟩ := alloc_arr hs (d := d) (e := e) (cap := c.toNat) (.inl rfl) hd hv (by simp; omega) (by rw [size_madeCells, e1]; exact Nat.le_refl _) hlies
  have hlen : (List.replicate l.toNat z.x).length = l.toNat := by simp
  rw [hlen] at q1 q2
  exact ⟨_, _, _, (), hrun, q1, q2⟩

theorem makeV_ok (hs : Sim base w0 F0 F ι st a w) {t : TypeId} {d : Nat} {l c : V} {vl vc : Value} {r : Res} (hd : st.used d = false) (hl : vrep w F ι l.t l.x vl) (hc : vrep w F ι c.t c.x vc) (h : makeV P t l c = some r) :
    r.okNew base w0 F0 F st a w P d (.own d) (Instr.makeSlice t vl vc) := by
  unfold makeV at h
  split at h <;> try (simp at h; done)
  rename_i z bytes he
  split at h <;> try (simp at h; done)
  simp only [Option.some.injEq] at h; subst h
  rw [vrep_int] at hl hc; subst hl; subst hc
  exact mkRes_ok hs hd he

/-- A literal of a slice. -/
def setP (t : Ty) : List (den t) → List (Nat × V) → Option (List (den t))
  | xs, [] => some xs
  | xs, (i, v) :: r => match coe noHeap t v.t v.x with
    | some y => bif Nat.blt i xs.length && valT v.t then setP t (xs.set i y) r else none
    | none => none
def litV (P : Program) (t : TypeId) (len : Nat) (parts : List (Nat × V)) : Option Res :=
  match elemV P t with
  | some (z, _) => bif Nat.ble (len * width z.t) 16777216 then match setP z.t (List.replicate len z.x) parts with
    | some l => some (.new (.arr z.t (some l)))
    | none => none else none
  | none => none

theorem setP_ok {t : Ty} : ∀ (parts : List (Nat × V)) (vals : List (Nat × Value)) (xs ys : List (den t)) (cells : Array Value), parts.length = vals.length →
    (∀ (k : Nat) (p : Nat × V) (q : Nat × Value), parts[k]? = some p → vals[k]? = some q → p.1 = q.1 ∧ vrep w F ι p.2.t p.2.x q.2) → Lies w F ι t xs cells.toList 0 → cells.size = xs.length * width t → setP t xs parts = some ys →
    ∃ cells', Instr.fill (fun i => some (i * width t, width t)) cells vals = some cells' ∧ Lies w F ι t ys cells'.toList 0 ∧ cells'.size = ys.length * width t ∧ ys.length = xs.length := by
  intro parts
  induction parts with
  | nil =>
    intro vals xs ys cells hl _ hx hc h
    cases vals with
    | nil => simp only [setP, Option.some.injEq] at h; subst h; exact ⟨cells, rfl, hx, hc, rfl⟩
    | cons q vals => simp at hl
  | cons p parts ih =>
    intro vals xs ys cells hl hv hx hc h
    cases vals with
    | nil => simp at hl
    | cons q vals =>
      obtain ⟨i, v⟩ := p
      obtain ⟨i', x⟩ := q
      obtain ⟨rfl, hvx⟩ := hv 0 (i, v) (i', x) rfl rfl
      simp only [setP] at h
      split at h <;> try (simp at h; done)
      rename_i y hy
      cases hb : (Nat.blt i xs.length && valT v.t) <;> rw [hb] at h <;> simp only [cond_true, cond_false, reduceCtorEq] at h
      simp only [Bool.and_eq_true] at hb
      obtain ⟨hi, hval⟩ := hb
      replace hi : i < xs.length := Nat.le_of_ble_eq_true hi
      have hcells := coe_rep (fun _ h => h) noHeap_holds _ _ _ _ _ (vrep_cells (valT_or hval) hvx) hy
      have hlen := rep_length _ _ _ hcells
      have hle : i * width t + width t ≤ xs.length * width t := by rw [← Nat.succ_mul]; exact Nat.mul_le_mul_right _ hi
      have hlen' : x.cells.size = width t := by simpa using hlen
      have hsp : (x.cells.zipIdx.foldl (fun cs (p : Value × Nat) => cs.setIfInBounds (i * width t + p.2) p.1) cells).toList = splice cells.toList (i * width t) x.cells.toList := by
        have := foldl_set x.cells.toList (i * width t) 0 cells (by simp [hlen']; omega)
        rw [Nat.add_zero] at this
        rw [← this, ← Array.foldl_toList]; simp
      have hsl := splice_len cells.toList (i * width t) x.cells.toList (by rw [hlen]; simp; omega)
      have e : Instr.fill (fun i => some (i * width t, width t)) cells ((i, x) :: vals) = Instr.fill (fun i => some (i * width t, width t)) (x.cells.zipIdx.foldl (fun cs (p : Value × Nat) => cs.setIfInBounds (i * width t + p.2) p.1) cells) vals := by
        rw [Instr.fill]
        simp only
        rw [if_neg]
        simp [hlen']
        omega
      rw [e]
      have hsz : (x.cells.zipIdx.foldl (fun cs (p : Value × Nat) => cs.setIfInBounds (i * width t + p.2) p.1) cells).size = xs.length * width t := by
        rw [← Array.length_toList, hsp, hsl, Array.length_toList, hc]
      obtain ⟨cells', z1, z2, z3, z4⟩ := ih vals (xs.set i y) ys (x.cells.zipIdx.foldl (fun cs (p : Value × Nat) => cs.setIfInBounds (i * width t + p.2) p.1) cells) (by simpa using hl)
        (fun k p q hp hq => hv (k + 1) p q hp hq) (by
          intro j z hz
          rw [hsp, Nat.zero_add]
          have hsg := seg_splice cells.toList (i * width t) x.cells.toList (j * width t) (width t) (by rw [hlen]; simp; omega)
          by_cases hij : j = i
          · subst hij
            rw [List.getElem?_set_self hi] at hz
            simp only [Option.some.injEq] at hz; subst hz
            rw [hsg.2 (Nat.le_refl _) (by rw [hlen]; exact Nat.le_refl _), Nat.sub_self, seg_all _ _ hlen]; exact hcells
          · rw [List.getElem?_set_ne (fun e => hij e.symm)] at hz
            rw [hsg.1 (by
              rcases Nat.lt_or_gt_of_ne hij with hlt | hgt
              · left; rw [← Nat.succ_mul]; exact Nat.mul_le_mul_right _ hlt
              · right; rw [hlen, ← Nat.succ_mul]; exact Nat.mul_le_mul_right _ hgt)]
            have := hx j z hz; rwa [Nat.zero_add] at this) (by rw [hsz]; simp) h
      exact ⟨cells', z1, z2, z3, by rw [z4]; simp⟩

/-- An array as a value. -/
def buildA (P : Program) (t : TypeId) (parts : List (Nat × V)) : Option V :=
  match zeroV P t with
  | some ⟨.arr n ty, l⟩ => match P.underlying t with
    | some (.array _ e) => match tinf P e with
      | some (_, k) => bif Nat.beq k (width ty) then match setP ty l parts with
        | some ys => some ⟨.arr n ty, (ys : List (den ty))⟩
        | none => none else none
      | none => none
    | _ => none
  | _ => none

theorem buildA_ok {t : TypeId} {parts : List (Nat × V)} {vals : List (Nat × Value)} {u : V} (hl : parts.length = vals.length)
    (hv : ∀ (k : Nat) (p : Nat × V) (q : Nat × Value), parts[k]? = some p → vals[k]? = some q → p.1 = q.1 ∧ vrep w F ι p.2.t p.2.x q.2) (h : buildA P t parts = some u) :
    ∃ r, (Instr.build t vals.toArray).run P w = .ok r w ∧ vrep w F ι u.t u.x r := by
  unfold buildA at h
  split at h <;> try (simp at h; done)
  rename_i n ty l hz
  split at h <;> try (simp at h; done)
  rename_i m e ht
  split at h <;> try (simp at h; done)
  rename_i ag k hti
  cases hb : Nat.beq k (width ty) <;> rw [hb] at h <;> simp only [cond_true, cond_false, reduceCtorEq] at h
  obtain rfl := Nat.eq_of_beq_eq_true hb
  split at h <;> try (simp at h; done)
  rename_i ys hset
  simp only [Option.some.injEq] at h; subst h
  obtain ⟨zv, h1, h2, h3⟩ := zeroV_rep hz w
  have hr := h3 F ι
  simp only [rep] at hr
  obtain ⟨q1, q2, q3⟩ := hr
  obtain ⟨cells', z1, z2, z3, z4⟩ := setP_ok (w := w) (F := F) (ι := ι) parts vals l ys zv.cells hl hv (fun j y hy => by rw [Nat.zero_add]; exact q3 j y hy) (by rw [q1, ← q2, Array.length_toList]) hset
  refine ⟨.agg cells', ?_, vrep_of_rep rfl ?_⟩
  · simp only [Instr.build, Sem.run_bind, h1, Result.andThen_ok, run_underlying ht, (tinf_run hti w).2, z1, Sem.run_pure]
  · simp only [rep]
    exact ⟨by rw [z4, q1], by rw [Array.length_toList, z3, z4, q1], fun i y hy => by have := z2 i y hy; rwa [Nat.zero_add] at this⟩

theorem litV_ok (hs : Sim base w0 F0 F ι st a w) {t : TypeId} {d len : Nat} {parts : List (Nat × V)} {vals : List (Nat × Value)} {r : Res} (hd : st.used d = false) (hl : parts.length = vals.length)
    (hv : ∀ (k : Nat) (p : Nat × V) (q : Nat × Value), parts[k]? = some p → vals[k]? = some q → p.1 = q.1 ∧ vrep w F ι p.2.t p.2.x q.2) (h : litV P t len parts = some r) :
    r.okNew base w0 F0 F st a w P d (.own d) (Instr.buildSlice t len vals.toArray) := by
  unfold litV at h
  split at h <;> try (simp at h; done)
  rename_i z bytes he
  cases hb : Nat.ble (len * width z.t) 16777216 <;> rw [hb] at h <;> simp only [cond_true, cond_false, reduceCtorEq] at h
  split at h <;> try (simp at h; done)
  rename_i l hset
  simp only [Option.some.injEq] at h; subst h
  obtain ⟨e, i, zv, ht, hi, hz, e1, e2, p1, p2, e3, hval, hrep⟩ := elemV_ok he
  have hlies : Lies w F ι z.t (List.replicate len z.x) (madeCells zv.cells (len * width z.t)).toList 0 := by
    intro j y hy
    have hj : j < len := by
      rcases Nat.lt_or_ge j len with q | q
      · exact q
      · rw [List.getElem?_eq_none (by simpa using q)] at hy; simp at hy
    rw [List.getElem?_replicate, if_pos hj] at hy
    simp only [Option.some.injEq] at hy; subst hy
    rw [Nat.zero_add, ← e3, seg_made _ _ _ hj]
    exact hrep w F ι
  obtain ⟨cells', z1, z2, z3, z4⟩ := setP_ok parts vals _ _ (madeCells zv.cells (len * width z.t)) hl hv hlies (by rw [size_madeCells]; simp) hset
  simp only [List.length_replicate] at z4
  obtain ⟨q1, q2⟩ := alloc_arr hs (d := d) (e := e) (cap := len) (cs := cells') (l := l) (.inl rfl) hd hval (by omega) (by rw [z3, z4]; exact Nat.le_refl _) z2
  refine ⟨_, _, _, (), ?_, q1, q2⟩
  have hn : ¬ 16777216 < len * width z.t := by have := Nat.le_of_ble_eq_true hb; omega
  have hsize : (sizeOf e).run P w = .ok (width z.t) w := by simp [sizeOf, run_info hi, e1]
  rcases Nat.eq_zero_or_pos (len * width z.t) with h0 | h0
  · have hm : madeCells zv.cells (len * width z.t) = #[] := by rw [h0]; simp [madeCells]
    rw [hm] at z1
    have hr : ∀ f : Nat → Value, Array.map f (Array.range 0) = #[] := fun f => by simp [Array.range]
    simp [Instr.buildSlice, run_underlying ht, hsize, h0, hr, z1, newRow, z4]
  · have h0' : ¬ (len * width z.t = 0) := by omega
    have hm : (Array.range (len * width z.t)).map (fun x => zv.cells[x % zv.cells.size]!) = madeCells zv.cells (len * width z.t) := rfl
    have hmul : ¬ (len = 0 ∨ width z.t = 0) := by
      rintro (e | e) <;> rw [e] at h0 <;> simp at h0
    simp only [Instr.buildSlice, Sem.run_bind, run_underlying ht, Result.andThen_ok, hsize, Sem.run_ite, gt_iff_lt, show (2 ^ 24 : Nat) = 16777216 from rfl, hn, if_false, h0', Sem.run_pure, zeroValue, run_info hi, hz, hm, z1]
    simp [newRow, z4]

end
end Go.VM

namespace Go.VM
open Go Go.RowKit

section
variable {P : Program} {base : Nat} {w0 w : World} {F0 F : Nat → Prop} {ι : Nat → Option Ref} {st : St} {a : Act}

theorem app_grow {t t1 ty e : TypeId} {d1 : TypeDesc} {i : TypeInfo} {z : Value} (ht : P.underlying t = some (.slice e)) (ht1 : P.underlying t1 = some d1) (hd1 : ∀ k, d1 ≠ .int k) (hi : P.info? e = some i) (hz : i.zero = some z)
    {b : Option Addr} {sLen sCap m : Nat} {x : Value} {olds news : List Value} (hx : (Builtin.lenOf x).run P w = .ok m w) (ho : (Builtin.firstCells i.size sLen (.slice b sLen sCap)).run P w.drew = .ok olds.toArray w.drew)
    (hf : (Builtin.firstCells i.size m x).run P w.drew = .ok news.toArray w.drew) (hroom : sCap < sLen + m) (h63 : ((sLen + m : Nat) : Int) ≤ 9223372036854775807) (hfit : Builtin.nextslicecap (sLen + m) sCap * i.bytes ≤ 281474976710656) :
    (Builtin.append_ #[t, t1] ty #[.slice b sLen sCap, x]).run P w =
      .ok (.slice (some ⟨w.heap.size, 0, none⟩) (sLen + m) (grownCap w (sLen + m) sCap e))
        (w.drew.alloc (.cells (olds.toArray ++ news.toArray ++ Builtin.zeroCells z.cells (grownCap w (sLen + m) sCap e - (sLen + m))) e)) := by
  have hn : ¬ (sLen + m ≤ sCap) := by omega
  have h63' : ¬ (9223372036854775807 < ((sLen : Int) + (m : Int))) := by omega
  have h48' : ¬ (281474976710656 < Builtin.nextslicecap (sLen + m) sCap * i.bytes) := by omega
  simp [Builtin.append_, run_underlying ht, run_underlying ht1, sizeOf, typeInfo, zeroValue, hi, hz, hx, hn, h63', h48', Question.forced, newRow, grownCap, ho, hf]
  rw [show (olds ++ news).toArray = olds.toArray ++ news.toArray by simp, Array.append_assoc]

/-- The elements that are appended, as their cells. -/
def Src (P : Program) (w : World) (F : Nat → Prop) (ι : Nat → Option Ref) (t : Ty) (ys : Option (List (den t))) (v : Value) : Prop :=
  ∃ news : List Value, (∀ w' : World, (∀ b : Nat, w'.heap[b]? = w.heap[b]?) → (Builtin.lenOf v).run P w' = .ok (ys.getD []).length w' ∧ ∀ n, n ≤ (ys.getD []).length → (Builtin.firstCells (width t) n v).run P w' = .ok (news.take (n * width t)).toArray w') ∧
    news.length = (ys.getD []).length * width t ∧ Lies w F ι t (ys.getD []) news 0

theorem Src.full {t : Ty} {ys : Option (List (den t))} {v : Value} (h : Src P w F ι t ys v) :
    ∃ news : List Value, (∀ w' : World, (∀ b : Nat, w'.heap[b]? = w.heap[b]?) → (Builtin.lenOf v).run P w' = .ok (ys.getD []).length w' ∧ (Builtin.firstCells (width t) (ys.getD []).length v).run P w' = .ok news.toArray w') ∧
    news.length = (ys.getD []).length * width t ∧ Lies w F ι t (ys.getD []) news 0 := by
  obtain ⟨news, h1, h2, h3⟩ := h
  refine ⟨news, fun w' hw => ⟨(h1 w' hw).1, ?_⟩, h2, h3⟩
  have := (h1 w' hw).2 _ (Nat.le_refl _)
  rwa [List.take_of_length_le (by omega)] at this

theorem src_nil {t : Ty} : Src P w F ι t none (.slice none 0 0) :=
  ⟨[], fun w' _ => ⟨by simp [Builtin.lenOf], fun n _ => by simp [Builtin.firstCells]⟩, by simp, by intro i y hy; simp at hy⟩

theorem src_some {t : Ty} {l : List (den t)} {blk off cap : Nat} {cells : Array Value} {el : TypeId} {fz : Nat × Nat} (hw : 0 < width t) (hb : w.heap[blk]? = some (.cells cells el fz)) (hr : Lies w F ι t l cells.toList off) :
    Src P w F ι t (some l) (.slice (some ⟨blk, off, none⟩) l.length cap) := by
  obtain ⟨q1, q2⟩ := lies_seg hw hr
  refine ⟨seg cells.toList off (l.length * width t), fun w' hw' => ⟨by simp [Builtin.lenOf], fun n hn => ?_⟩, q1, q2⟩
  have hn' : n * width t ≤ l.length * width t := Nat.mul_le_mul_right _ hn
  refine run_firstCells_some (P := P) w' _ _ _ _ _ _ (by rw [List.length_take, q1]; omega) ?_
  intro j v hj
  have hj0 : j < n * width t := by
    rcases Nat.lt_or_ge j (n * width t) with h | h
    · exact h
    · rw [List.getElem?_eq_none (by simp; omega)] at hj; simp at hj
  have hj' : j < l.length * width t := by omega
  rw [List.getElem?_take, if_pos hj0] at hj
  rw [addr_add, cell_at ((hw' blk).trans hb), ← seg_get _ _ _ _ hj']; exact hj

theorem src_ok {hp : Nat → Option Blk} (hh : HeapOk w base F ι hp) {t u : Ty} {x : den u} {ys : Option (List (den t))} {v : Value} (hw : 0 < width t) (hv : vrep w F ι u x v) (h : coe hp (.sl t) u x = some ys) : Src P w F ι t ys v := by
  rw [coe_sl] at h
  rcases coeS_some h with ⟨rfl, rfl⟩ | ⟨b, l, rfl, hb, rfl⟩ | ⟨rfl, rfl⟩ | ⟨b, l, rfl, hb, rfl⟩
  · rw [vrep_cst] at hv; subst hv; exact src_nil
  · obtain ⟨r, hr, q0, q⟩ := hh _ _ hb
    rw [vrep_cell rfl] at hv; simp only [rep] at hv
    obtain ⟨r', hr', e⟩ := hv
    rw [hr] at hr'; cases hr'
    simp only [List.cons.injEq, and_true] at e; subst e
    cases ys with
    | none => simp only at q; simp only [Ref.val, q, if_true]; exact src_nil
    | some l =>
      obtain ⟨q1, q2, q3, q4, q5, q6, cells, el, q7, q8, q9⟩ := q
      simp only [Ref.val, q1, Bool.false_eq_true, if_false, q3]
      exact src_some hw q7 q9
  · rw [vrep_cell rfl] at hv
    cases x with
    | none => simp only [rep, List.cons.injEq, and_true] at hv; subst hv; exact src_nil
    | some l =>
      simp only [rep] at hv
      obtain ⟨blk, off, cap, cells, el, fz, e', hf, hl, hb, hr⟩ := hv
      simp only [List.cons.injEq, and_true] at e'; subst e'
      exact src_some hw hb hr
  · obtain ⟨r, hr, q0, q⟩ := hh _ _ hb
    rw [vrep_cell rfl] at hv; simp only [rep] at hv
    obtain ⟨r', hr', hn, h0, h1, h2, e⟩ := hv
    rw [hr] at hr'; cases hr'
    simp only [List.cons.injEq, and_true] at e; subst e
    cases l with
    | none => simp only at q; rw [q] at hn; simp at hn
    | some l =>
      obtain ⟨q1, q2, q3, q4, q5, q6, cells, el, q7, q8, q9⟩ := q
      obtain ⟨i, j⟩ := x
      simp only at h0 h1 h2
      have e5 : ((l.take j.toNat).drop i.toNat).length = j.toNat - i.toNat := by simp; omega
      simp only [Option.map_some, Ref.view]
      rw [← e5]
      refine src_some hw q7 ?_
      intro k z hz
      have hk : k < j.toNat - i.toNat := by
        rcases Nat.lt_or_ge k (j.toNat - i.toNat) with q | q
        · exact q
        · rw [List.getElem?_eq_none (by omega)] at hz; simp at hz
      rw [if_neg (by omega), q2]
      have := q9 (i.toNat + k) z (by rw [← hz]; simp [List.getElem?_take]; omega)
      rw [Nat.add_mul, ← Nat.add_assoc] at this
      exact this

def appL {α : Type} (l : Option (List α)) (ys : List α) : Option (List α) :=
  match l with
  | none => bif ys.isEmpty then none else some ys
  | some xs => some (appS xs ys)

def appC {α : Type} (bytes : Nat) (l : Option (List α)) (ys : List α) : Prop := ((l.getD []).length + ys.length) * bytes ≤ 140737488355328

/-- append: the block that goes, the condition, what the new one holds. -/
def appendV (P : Program) (hp : Nat → Option Blk) (t t1 : TypeId) (s x : V) : Option (Option Nat × Prop × Blk) :=
  match elemV P t with
  | some (z, bytes) => match P.underlying t1 with
    | some (.slice _) => match coe hp (.sl z.t) x.t x.x with
      | some ys => match s with
        | ⟨.own b, _⟩ => match hp b with
          | some (.arr t' l) => match castT (.sl z.t) (.sl t') l with
            | some l => some (some b, appC bytes l (lst ys), .arr z.t (appL l (lst ys)))
            | none => none
          | _ => none
        | ⟨.cst .nilSl, _⟩ => some (none, appC bytes (none : Option (List (den z.t))) (lst ys), .arr z.t (appL none (lst ys)))
        | ⟨.sl _, none⟩ => some (none, appC bytes (none : Option (List (den z.t))) (lst ys), .arr z.t (appL none (lst ys)))
        | _ => none
      | none => none
    | _ => none
  | none => none

/-- copy: into the part of a list from `l` to `h`. -/
def cpyN {α : Type} (l h : Int) (ys : Option (List α)) : Int := min (h - l) ((ys.getD []).length : Int)
def cpyS {α : Type} (x : Option (List α)) (l h : Int) (ys : Option (List α)) : Option (List α) :=
  x.map fun y => y.take l.toNat ++ (ys.getD []).take (h.toNat - l.toNat) ++ y.drop (l.toNat + min (h.toNat - l.toNat) (ys.getD []).length)

/-- copy: the block, what it holds then, and how much went over. -/
def copyV (P : Program) (hp : Nat → Option Blk) (t : TypeId) (x s : V) : Option (Nat × Blk × Int) :=
  match P.underlying t with
  | some (.slice e) => match tinf P e with
    | some (_, n) => match x with
      | ⟨.vw b, p⟩ => match hp b with
        | some (.arr ty y) => bif Nat.beq n 1 && Nat.beq (width ty) 1 then match coe hp (.sl ty) s.t s.x with
            | some ys => some (b, .arr ty (cpyS y p.1 p.2 ys), cpyN p.1 p.2 ys)
            | none => none
          else none
        | _ => none
      | _ => none
    | none => none
  | _ => none

theorem lies_part {t : Ty} {l : List (den t)} {cs : List Value} {off n : Nat} (hw : width t = 1) (h : Lies w F ι t l cs off) : Lies w F ι t (l.take n) ((cs.drop off).take n) 0 := by
  intro i y hy
  have hi : i < n := by
    rcases Nat.lt_or_ge i n with q | q
    · exact q
    · rw [List.getElem?_eq_none (by simp; omega)] at hy; simp at hy
  have := h i y (by rw [List.getElem?_take, if_pos hi] at hy; exact hy)
  rw [hw, Nat.mul_one] at this ⊢
  have e : seg ((cs.drop off).take n) (0 + i) 1 = seg cs (off + i) 1 := by
    have := seg_seg cs off n i 1 (by omega)
    rw [Nat.zero_add]; exact this
  rw [e]; exact this

theorem copyV_ok (hs : Sim base w0 F0 F ι st a w) {t t1 ty : TypeId} {x s : V} {vx vs : Value} {b : Nat} {k : Blk} {n : Int} (hx : vrep w F ι x.t x.x vx) (hv : vrep w F ι s.t s.x vs) (h : copyV P st.heap t x s = some (b, k, n)) :
    ∃ w', (Builtin.copy_ #[t, t1] ty #[vx, vs]).run P w = .ok (.int .i64 n) w' ∧ Sim base w0 F0 F ι { st with heap := upd st.heap b (some k) } a w' := by
  unfold copyV at h
  split at h <;> try (simp at h; done)
  rename_i e ht
  split at h <;> try (simp at h; done)
  rename_i ag m hm
  split at h <;> try (simp at h; done)
  rename_i b' p
  split at h <;> try (simp at h; done)
  rename_i ty' y hb
  cases hc : (Nat.beq m 1 && Nat.beq (width ty') 1) <;> rw [hc] at h <;> simp only [cond_true, cond_false, reduceCtorEq] at h
  simp only [Bool.and_eq_true, Nat.beq_eq] at hc
  obtain ⟨rfl, hw1⟩ := hc
  split at h <;> try (simp at h; done)
  rename_i ys hys
  simp only [Option.some.injEq, Prod.mk.injEq] at h
  obtain ⟨rfl, rfl, rfl⟩ := h
  obtain ⟨news, hn1, hn2, hn3⟩ := src_ok (P := P) hs.heap (by omega) hv hys
  obtain ⟨i, j⟩ := p
  rw [vrep_cell rfl] at hx; simp only [rep] at hx
  obtain ⟨r, hr, hnil, h0, h1, h2, e2⟩ := hx
  simp only [List.cons.injEq, and_true] at e2; subst e2
  obtain ⟨r', hr', hk⟩ := hs.heap _ _ hb
  rw [hr] at hr'; cases hr'
  have hk' := hk
  obtain ⟨q0, q⟩ := hk
  cases y with
  | none => simp only at q; rw [q] at hnil; simp at hnil
  | some y =>
    obtain ⟨q1, q2, q3, q4, q5, q6, cells, el, q7, q8, q9⟩ := q
    replace h0 : 0 ≤ i := h0
    replace h1 : i ≤ j := h1
    replace h2 : j ≤ (r.len : Int) := h2
    obtain ⟨hlen, hcells⟩ := hn1 w (fun _ => rfl)
    rw [hw1, Nat.mul_one] at hn2
    have hcells := hcells (min (ys.getD []).length (j.toNat - i.toNat)) (Nat.min_le_left _ _)
    rw [hw1, Nat.mul_one] at hcells
    -- what goes over
    have hl : (news.take (min (ys.getD []).length (j.toNat - i.toNat))).length = min (ys.getD []).length (j.toNat - i.toNat) := by rw [List.length_take, hn2]; omega
    have hcap : r.off + r.cap ≤ cells.size := by rw [q2, hw1, Nat.mul_one] at q8; exact q8
    have hone : ∀ u ∈ news.take (min (ys.getD []).length (j.toNat - i.toNat)), u.oneCell' = true := by
      intro u hu
      have hn2' : news.length = (ys.getD []).length * width ty' := by rw [hw1, Nat.mul_one]; exact hn2
      exact lies_one hn3 hn2' u (List.mem_of_mem_take hu)
    have hrun : ∃ w', w' = w.setRow r.blk (splice cells.toList (r.off + i.toNat) (news.take (min (ys.getD []).length (j.toNat - i.toNat)))).toArray ∧
        (Builtin.copy_ #[t, t1] ty #[r.view i j, vs]).run P w = .ok (.int .i64 (cpyN i j ys)) w' := by
      have hn : goInt ((min (ys.getD []).length (j.toNat - i.toNat) : Nat) : Int) = .int .i64 (cpyN i j ys) := by
        simp only [goInt, cpyN]; congr 1; omega
      have hinfo : ∃ inf, P.info? e = some inf ∧ inf.size = 1 := by
        have h3 := (tinf_run hm w).2
        unfold sizeOf typeInfo at h3
        cases hi : P.info? e with
        | none => simp [hi, run_program] at h3
        | some inf => simp [hi, run_program] at h3; exact ⟨inf, rfl, h3⟩
      refine ⟨_, rfl, ?_⟩
      have hmin : Nat.min (ys.getD []).length (j.toNat - i.toNat) = min (ys.getD []).length (j.toNat - i.toNat) := rfl
      by_cases hce : r.cap = i.toNat
      · have hz : min (ys.getD []).length (j.toNat - i.toNat) = 0 := by omega
        rw [hz] at hcells hn ⊢
        have hself : w.setRow r.blk (splice cells.toList (r.off + i.toNat) (news.take 0)).toArray = w := by
          have : (splice cells.toList (r.off + i.toNat) (news.take 0)).toArray = cells := by simp [splice]
          rw [this]; exact setRow_self w _ _ _ _ q7
        rw [hself]
        simp [Builtin.copy_, Ref.view, hmin, hz, run_underlying ht, hlen, (tinf_run hm w).2, hcells, storeCells]
        exact hn
      · have hst := run_storeCells_at P r.blk (r.off + i.toNat) el (news.take (min (ys.getD []).length (j.toNat - i.toNat))) 0 cells w q7 (by rw [hl]; omega) hone
        simp only [Nat.add_zero] at hst
        simp [Builtin.copy_, Ref.view, hmin, hce, q2, hw1, run_underlying ht, hlen, (tinf_run hm w).2, hcells, hst, hn, splice]
    obtain ⟨w', hw', hrun⟩ := hrun
    refine ⟨w', hrun, ?_⟩
    subst hw'
    have a1 : i.toNat ≤ j.toNat := by omega
    have a2 : j.toNat ≤ r.len := by omega
    have a3 : min (ys.getD []).length (j.toNat - i.toNat) ≤ j.toNat - i.toNat := Nat.min_le_right _ _
    have hF : ∀ c, F c → (w.setRow r.blk (splice cells.toList (r.off + i.toNat) (news.take (min (ys.getD []).length (j.toNat - i.toNat)))).toArray).heap[c]? = w.heap[c]? := fun c hc => setRow_other w _ c _ (fun e => q6 (by rw [← e]; exact hc))
    have hfit : r.off + i.toNat + (news.take (min (ys.getD []).length (j.toNat - i.toNat))).length ≤ cells.toList.length := by rw [hl]; simp only [Array.length_toList]; omega
    have hsl := splice_len cells.toList (r.off + i.toNat) (news.take (min (ys.getD []).length (j.toNat - i.toNat))) hfit
    refine hs.write hb hr hnil q5 q6 ⟨q0, ?_⟩
    simp only [cpyS, Option.map_some]
    refine ⟨hnil, q2, ?_, q4, q5, q6, _, el, setRow_heap w _ _ _ _ _ q7, ?_, ?_⟩
    · simp; omega
    · simp only [List.size_toArray, hsl, Array.length_toList]; exact q8
    · intro k z hz
      refine rep_mono (fun _ h => h) (fun _ _ h => h) hF _ _ _ ?_
      have hsp := seg_splice cells.toList (r.off + i.toNat) (news.take (min (ys.getD []).length (j.toNat - i.toNat))) (r.off + k * width ty') (width ty') hfit
      rw [hl, hw1, Nat.mul_one] at hsp
      rw [hw1, Nat.mul_one]
      have lt1 : (y.take i.toNat).length = i.toNat := by rw [List.length_take]; omega
      have lt2 : ((ys.getD []).take (j.toNat - i.toNat)).length = min (ys.getD []).length (j.toNat - i.toNat) := by rw [List.length_take]; omega
      have old : y[k]? = some z → (r.off + k + 1 ≤ r.off + i.toNat ∨ r.off + i.toNat + min (ys.getD []).length (j.toNat - i.toNat) ≤ r.off + k) → rep w F ι ty' z (seg (splice cells.toList (r.off + i.toNat) (news.take (min (ys.getD []).length (j.toNat - i.toNat)))) (r.off + k) 1) := by
        intro hy hor
        rw [hsp.1 hor]
        have := q9 k z hy
        rwa [hw1, Nat.mul_one] at this
      rcases Nat.lt_or_ge k i.toNat with hk1 | hk1
      · refine old ?_ (.inl (by omega))
        rw [List.append_assoc, List.getElem?_append_left (by omega), List.getElem?_take, if_pos hk1] at hz; exact hz
      · rcases Nat.lt_or_ge k (i.toNat + min (ys.getD []).length (j.toNat - i.toNat)) with hk2 | hk2
        · rw [hsp.2 (by omega) (by omega)]
          have hz' : (ys.getD [])[k - i.toNat]? = some z := by
            rw [List.append_assoc, List.getElem?_append_right (by omega), lt1, List.getElem?_append_left (by omega), List.getElem?_take, if_pos (by omega)] at hz; exact hz
          have := hn3 (k - i.toNat) z hz'
          rw [hw1, Nat.mul_one, Nat.zero_add] at this
          have e3 : seg (news.take (min (ys.getD []).length (j.toNat - i.toNat))) (r.off + k - (r.off + i.toNat)) 1 = seg news (k - i.toNat) 1 := by
            have h5 := seg_seg news 0 (min (ys.getD []).length (j.toNat - i.toNat)) (k - i.toNat) 1 (by omega)
            rw [Nat.zero_add] at h5
            rw [show r.off + k - (r.off + i.toNat) = k - i.toNat by omega, ← h5]
            simp [seg]
          rw [e3]; exact this
        · refine old ?_ (.inr (by omega))
          rw [List.getElem?_append_right (by simp; omega)] at hz
          rw [List.getElem?_drop] at hz
          rw [← hz]; congr 1
          simp; omega

def St.killO (st : St) : Option Nat → St
  | none => st
  | some b => st.kill b

theorem nil_app (hs : Sim base w0 F0 F ι st a w) {t t1 ty : TypeId} {z : V} {bytes d : Nat} {ds : TypeId} {x : Value} {ys : Option (List (den z.t))} (he : elemV P t = some (z, bytes)) (ht1 : P.underlying t1 = some (.slice ds)) (hd : st.used d = false)
    (hsrc : Src P w F ι z.t ys x) (hc : appC bytes (none : Option (List (den z.t))) (ys.getD [])) :
    ∃ r w' ι', (Builtin.append_ #[t, t1] ty #[.slice none 0 0, x]).run P w = .ok r w' ∧ Sim base w0 F0 F ι' (st.new d (.arr z.t (appL none (ys.getD [])))) a w' ∧ vrep w' F ι' (.own d) () r := by
  obtain ⟨e, i, zv, ht, hi, hz, e1, e2, p1, p2, e3, hval, hrep⟩ := elemV_ok he
  obtain ⟨news, hn1, hn2, hn3⟩ := hsrc.full
  obtain ⟨hlen, hfst⟩ := hn1 w (fun _ => rfl)
  rw [← e1] at hfst
  simp only [appC, Option.getD_none, List.length_nil, Nat.zero_add] at hc
  rcases Nat.eq_zero_or_pos (ys.getD []).length with h0 | h0
  · have hnil : ys.getD [] = [] := List.eq_nil_of_length_eq_zero h0
    have hnews : news = [] := List.eq_nil_of_length_eq_zero (by rw [hn2, h0]; simp)
    rw [hnil]
    refine ⟨.slice none 0 0, w, upd ι d (some ⟨0, 0, 0, true, 0, 0⟩), ?_, ?_, (vrep_cell rfl).2 ⟨_, upd_same _ _ _, rfl⟩⟩
    · rw [h0] at hlen hfst
      simp [Builtin.append_, run_underlying ht, run_underlying ht1, sizeOf, typeInfo, hi, hlen, hfst, hnews]
    · have hι := hs.fresh hd ⟨0, 0, 0, true, 0, 0⟩
      refine hs.change (w' := w) (g := none) (b0 := d) (k0 := .arr z.t none) (r0 := ⟨0, 0, 0, true, 0, 0⟩) (fun _ _ _ => rfl) rfl rfl rfl (Nat.le_refl _) (by simp) hι ?_ (upd_same _ _ _) ⟨hval, rfl⟩ (upd_same _ _ _) ?_
      · intro b r' hb
        rcases upd_some hb with ⟨rfl, _⟩ | ⟨hne, hb⟩
        · exact upd_same _ _ _
        · rw [upd_other _ _ _ _ hne]; exact hs.used _ _ hb
      · intro b k' hne hb
        rw [upd_other _ _ _ _ hne] at hb
        exact ⟨hb, fun r' _ _ => ⟨by simp, by simp⟩⟩
  · have hle : (ys.getD []).length ≤ 140737488355328 := by
      have : (ys.getD []).length * 1 ≤ (ys.getD []).length * bytes := Nat.mul_le_mul_left _ p2
      omega
    have hfit : Builtin.nextslicecap (0 + (ys.getD []).length) 0 * i.bytes ≤ 281474976710656 := by
      rw [e2]; exact growslice_fits (by omega) (by rw [Nat.zero_add]; exact hc)
    obtain ⟨_, hfst'⟩ := hn1 w.drew (fun _ => rfl)
    rw [← e1] at hfst'
    have hrun := app_grow (P := P) (w := w) (ty := ty) ht ht1 (by intro k; simp) hi hz (b := none) (sLen := 0) (sCap := 0) (olds := []) hlen (by simp [Builtin.firstCells]) hfst' (by omega) (by omega) hfit
    have happ : appL none (ys.getD []) = some (ys.getD []) := by
      unfold appL
      cases h : ys.getD [] with
      | nil => rw [h] at h0; simp at h0
      | cons y l => rfl
    rw [happ]
    have hge := grownCap_ge w (0 + (ys.getD []).length) 0 e
    obtain ⟨q1, q2⟩ := alloc_arr hs (d := d) (e := e) (l := ys.getD []) (cap := grownCap w (0 + (ys.getD []).length) 0 e)
      (cs := [].toArray ++ news.toArray ++ Builtin.zeroCells zv.cells (grownCap w (0 + (ys.getD []).length) 0 e - (0 + (ys.getD []).length))) (.inr rfl) hd hval (by omega)
      (by
        simp only [Array.size_append, List.size_toArray, size_zeroCells, e3, hn2, List.length_nil, Nat.zero_add]
        rw [← Nat.add_mul]; exact Nat.mul_le_mul_right _ (by omega))
      (by
        intro j y hy
        have hj : j < (ys.getD []).length := by
          rcases Nat.lt_or_ge j (ys.getD []).length with q | q
          · exact q
          · rw [List.getElem?_eq_none q] at hy; simp at hy
        have hle : j * width z.t + width z.t ≤ (ys.getD []).length * width z.t := by rw [← Nat.succ_mul]; exact Nat.mul_le_mul_right _ hj
        have h1 := hn3 j y hy
        simp only [Array.toList_append, List.nil_append]
        rw [seg_left _ _ _ _ (by simp [hn2]; exact hle)]
        exact h1)
    rw [Nat.zero_add] at hrun q1 q2
    exact ⟨_, _, _, hrun, q1, q2⟩

theorem own_app (hs : Sim base w0 F0 F ι st a w) {t t1 ty : TypeId} {z : V} {bytes d b : Nat} {ds : TypeId} {x s : Value} {l : List (den z.t)} {ys : Option (List (den z.t))} (he : elemV P t = some (z, bytes)) (ht1 : P.underlying t1 = some (.slice ds)) (hd : st.used d = false)
    (hb : st.heap b = some (.arr z.t (some l))) (hsv : vrep w F ι (.own b) () s)
    (hsrc : Src P w F ι z.t ys x) (hc : appC bytes (some l) (ys.getD [])) :
    ∃ r w' ι', (Builtin.append_ #[t, t1] ty #[s, x]).run P w = .ok r w' ∧ Sim base w0 F0 F ι' ((st.kill b).new d (.arr z.t (some (l ++ ys.getD [])))) a w' ∧ vrep w' F ι' (.own d) () r := by
  obtain ⟨e, i, zv, ht, hi, hz, e1, e2, p1, p2, e3, hval, hrep⟩ := elemV_ok he
  obtain ⟨news, hn1, hn2, hn3⟩ := hsrc.full
  obtain ⟨hlen, hfst⟩ := hn1 w (fun _ => rfl)
  rw [← e1] at hfst
  simp only [appC, Option.getD_some] at hc
  obtain ⟨r, hr, hk⟩ := hs.heap _ _ hb
  obtain ⟨q0, q1, q2, q3, q4, q5, q6, cells, el, q7, q8, q9⟩ := hk
  rw [vrep_cell rfl] at hsv; simp only [rep] at hsv
  obtain ⟨r', hr', e'⟩ := hsv
  rw [hr] at hr'; cases hr'
  simp only [List.cons.injEq, and_true] at e'; subst e'
  simp only [Ref.val, q1, Bool.false_eq_true, if_false]
  have hnl := hn3
  obtain ⟨s1, s2⟩ := lies_seg p1 (show Lies w F ι z.t l cells.toList r.off from q9)
  by_cases hroom : r.len + (ys.getD []).length ≤ r.cap
  · -- in place
    have hmul : (r.len + (ys.getD []).length) * width z.t ≤ r.cap * width z.t := Nat.mul_le_mul_right _ hroom
    rw [Nat.add_mul] at hmul
    rw [q2] at q8
    have hel : el = e ∨ True := .inr trivial
    have hfit : r.off + r.len * i.size + news.length ≤ cells.size := by rw [e1, hn2]; omega
    have hst := run_storeCells_at P r.blk (r.off + r.len * i.size) el news 0 cells w q7 (by simpa using hfit) (lies_one hnl hn2)
    simp only [Nat.add_zero] at hst
    have hrun : (Builtin.append_ #[t, t1] ty #[.slice (some ⟨r.blk, r.off, none⟩) r.len r.cap, x]).run P w =
        .ok (.slice (some ⟨r.blk, r.off, none⟩) (r.len + (ys.getD []).length) r.cap) (w.setRow r.blk (splice cells.toList (r.off + r.len * i.size) news).toArray) := by
      simp [Builtin.append_, run_underlying ht, run_underlying ht1, sizeOf, typeInfo, hi, hlen, hroom, hfst, addr_add, hst, splice]
    let r' : Ref := { r with len := r.len + (ys.getD []).length }
    refine ⟨_, _, upd ι d (some r'), hrun, hs.rewrite (r' := r') hb hr q1 hd q5 q6 rfl ?_, (vrep_cell rfl).2 ⟨r', upd_same _ _ _, by simp [Ref.val, r', q1]⟩⟩
    have hι := hs.fresh hd r'
    have hF : ∀ c, F c → (w.setRow r.blk (splice cells.toList (r.off + r.len * i.size) news).toArray).heap[c]? = w.heap[c]? := fun c hc => setRow_other w _ c _ (fun e => q6 (by rw [← e]; exact hc))
    refine ⟨hval, q1, q2, by simp [r', q3], hroom, q5, q6, _, el, setRow_heap w _ _ _ _ _ q7, ?_, ?_⟩
    · have := splice_len cells.toList (r.off + r.len * i.size) news (by simpa using hfit)
      simp only [List.size_toArray, this, Array.length_toList, r']; rw [q2]; exact q8
    · intro j y hy
      refine rep_mono (fun _ h => h) hι hF _ _ _ ?_
      rw [List.toList_toArray]
      have hsp := seg_splice cells.toList (r.off + r.len * i.size) news (r.off + j * width z.t) (width z.t) (by simpa using hfit)
      show rep w F ι z.t y (seg (splice cells.toList (r.off + r.len * i.size) news) (r.off + j * width z.t) (width z.t))
      rcases Nat.lt_or_ge j l.length with hj | hj
      · rw [List.getElem?_append_left hj] at hy
        have hle : j * width z.t + width z.t ≤ l.length * width z.t := by rw [← Nat.succ_mul]; exact Nat.mul_le_mul_right _ hj
        rw [hsp.1 (by left; rw [e1, q3]; omega)]
        exact q9 j y hy
      · rw [List.getElem?_append_right hj] at hy
        have hj' : j - l.length < (ys.getD []).length := by
          rcases Nat.lt_or_ge (j - l.length) (ys.getD []).length with q | q
          · exact q
          · rw [List.getElem?_eq_none q] at hy; simp at hy
        have hle : (j - l.length) * width z.t + width z.t ≤ (ys.getD []).length * width z.t := by rw [← Nat.succ_mul]; exact Nat.mul_le_mul_right _ hj'
        have hge : l.length * width z.t ≤ j * width z.t := Nat.mul_le_mul_right _ hj
        have hsub : (j - l.length) * width z.t = j * width z.t - l.length * width z.t := Nat.sub_mul _ _ _
        rw [hsp.2 (by rw [e1, q3]; omega) (by rw [e1, q3, hn2]; omega)]
        have := hnl _ y hy
        rw [Nat.zero_add] at this
        rw [show r.off + j * width z.t - (r.off + r.len * i.size) = (j - l.length) * width z.t by rw [e1, q3]; omega]
        exact this
  · -- a new block
    rw [← q3] at hc
    have hle : r.len + (ys.getD []).length ≤ 140737488355328 := by
      have : (r.len + (ys.getD []).length) * 1 ≤ (r.len + (ys.getD []).length) * bytes := Nat.mul_le_mul_left _ p2
      omega
    have hfit : Builtin.nextslicecap (r.len + (ys.getD []).length) r.cap * i.bytes ≤ 281474976710656 := by
      rw [e2]; exact growslice_fits (by omega) hc
    obtain ⟨_, hfst'⟩ := hn1 w.drew (fun _ => rfl)
    rw [← e1] at hfst'
    have hold : (Builtin.firstCells i.size r.len (.slice (some ⟨r.blk, r.off, none⟩) r.len r.cap)).run P w.drew = .ok (seg cells.toList r.off (l.length * width z.t)).toArray w.drew := by
      refine run_firstCells_some (P := P) w.drew _ _ _ _ _ _ (by rw [s1, e1, q3]) ?_
      intro j v hj
      have hj' : j < l.length * width z.t := by
        rcases Nat.lt_or_ge j (l.length * width z.t) with h | h
        · exact h
        · rw [List.getElem?_eq_none (by omega)] at hj; simp at hj
      rw [addr_add, cell_at (w := w.drew) (show w.drew.heap[r.blk]? = _ from q7), ← seg_get _ _ _ _ hj']; exact hj
    have hrun := app_grow (P := P) (w := w) (ty := ty) ht ht1 (by intro k; simp) hi hz (sLen := r.len) (sCap := r.cap) hlen hold hfst' (by omega) (by omega) hfit
    have hge := grownCap_ge w (r.len + (ys.getD []).length) r.cap e
    have hl2 : (l ++ ys.getD []).length = r.len + (ys.getD []).length := by simp [q3]
    obtain ⟨t1', t2'⟩ := alloc_arr (hs.kill b) (d := d) (e := e) (l := l ++ ys.getD []) (cap := grownCap w (r.len + (ys.getD []).length) r.cap e)
      (cs := (seg cells.toList r.off (l.length * width z.t)).toArray ++ news.toArray ++ Builtin.zeroCells zv.cells (grownCap w (r.len + (ys.getD []).length) r.cap e - (r.len + (ys.getD []).length))) (.inr rfl) hd hval (by omega)
      (by
        simp only [Array.size_append, List.size_toArray, size_zeroCells, e3, hn2, s1]
        rw [← Nat.add_mul, ← Nat.add_mul]; exact Nat.mul_le_mul_right _ (by omega))
      (by
        have := lies_append (c3 := (Builtin.zeroCells zv.cells (grownCap w (r.len + (ys.getD []).length) r.cap e - (r.len + (ys.getD []).length))).toList) s2 s1 hnl hn2 []
        simpa using this)
    rw [hl2] at t1' t2'
    exact ⟨_, _, _, hrun, t1', t2'⟩

end
end Go.VM

namespace Go.VM
open Go Go.RowKit

def vOf (v : Option V) : Option Res :=
  match v with
  | some v => some (.val v)
  | none => none

def gather (g : Operand → Option V) : List (Nat × Operand) → Option (List (Nat × V))
  | [] => some []
  | (i, x) :: r => match g x with
    | some v => match gather g r with
      | some l => some ((i, v) :: l)
      | none => none
    | none => none

def maxI (a b : Int) : Int := if b > a then b else a
def minI (a b : Int) : Int := if b < a then b else a

def strI (op : BinOp) (a b : ByteArray) : Option Res :=
  match op with
  | .add => some (.cond (catC a b) ⟨.str, catS a b⟩)
  | .eql => some (.val ⟨.bool, eqStr a b⟩)
  | .neq => some (.val ⟨.bool, notB (eqStr a b)⟩)
  | _ => none

/-- Equality of what is no integer and no string. -/
def eqW (P : Program) (hp : Nat → Option Blk) (t : TypeId) (v1 v2 : V) : Option Bool :=
  match P.underlying t with
  | some (.slice _) => match v2.t with
    | .cst .nilSl => nilV hp v1
    | _ => match v1.t with
      | .cst .nilSl => nilV hp v2
      | _ => none
  | some .bool => eqV P 1 t v1 v2
  | some (.struct _) => bif P.eqGuardType P.depth t then none else eqV P 8 t v1 v2
  | _ => none

def binV (P : Program) (hp : Nat → Option Blk) (op : BinOp) (t : TypeId) (v1 v2 : V) : Option Res :=
  match v1, v2 with
  | ⟨.int k, a⟩, ⟨.int k', b⟩ => match op with
    | .shl => binI .shl k a b
    | .shr => binI .shr k a b
    | op => bif sameK k k' then binI op k a b else none
  | ⟨.str, a⟩, ⟨.str, b⟩ => strI op a b
  | v1, v2 => match op with
    | .eql => match eqW P hp t v1 v2 with
      | some b => some (.val ⟨.bool, b⟩)
      | none => none
    | .neq => match eqW P hp t v1 v2 with
      | some b => some (.val ⟨.bool, notB b⟩)
      | none => none
    | _ => none

def sliceW (P : Program) (hp : Nat → Option Blk) (t : TypeId) (v : V) (lo hi : Option V) : Option Res :=
  match P.underlying t with
  | some .string => match v with
    | ⟨.str, _⟩ => sliceV lo hi v
    | _ => none
  | some (.slice e) => match tinf P e with
    | some (_, n) => match v with
      | ⟨.sl ty, _⟩ => bif Nat.beq n (width ty) then sliceV lo hi v else none
      | ⟨.own b, _⟩ => match hp b with
        | some (.arr ty x) => bif Nat.beq n (width ty) then match boundV 0 lo, boundV (szSl x) hi with
            | some l, some h => some (.cond (inW x l h) ⟨.vw b, (l, h)⟩)
            | _, _ => none
          else none
        | _ => none
      | _ => none
    | none => none
  | _ => none

def optV (g : Operand → Option V) : Option Operand → Option (Option V)
  | none => some none
  | some x => match g x with
    | some v => some (some v)
    | none => none

def builtinV (P : Program) (g : Operand → Option V) (hp : Nat → Option Blk) (b : Builtin) (args : List Operand) (ts : List TypeId) : Option Res :=
  match b, args, ts with
  | .len, [x], [t] => match g x with
    | some v => vOf (lenV P hp t v)
    | none => none
  | .max, [x, y], _ => match g x, g y with
    | some ⟨.int k, a⟩, some ⟨.int k', b⟩ => bif sameK k k' then some (.val ⟨.int k, maxI a b⟩) else none
    | _, _ => none
  | .min, [x, y], _ => match g x, g y with
    | some ⟨.int k, a⟩, some ⟨.int k', b⟩ => bif sameK k k' then some (.val ⟨.int k, minI a b⟩) else none
    | _, _ => none
  | _, _, _ => none

def okFields (P : Program) (t : TypeId) : Bool :=
  match P.underlying t with
  | some (.struct fs) => fs.toList.all fun f => (tinf P f.type).isSome
  | _ => false

/-- What an operation that writes nothing gives. -/
def evP (P : Program) (g : Operand → Option V) (hp : Nat → Option Blk) : Op → Option Res
  | .move x => vOf (g x)
  | .assign x => vOf (g x)
  | .pick c a b => match g c with
    | some ⟨.bool, t⟩ => match t with
      | true => vOf (g a)
      | false => vOf (g b)
    | _ => none
  | .alloc e => match zeroV P e with
    | some z => some (.new (.box z.t z.x))
    | none => none
  | .box _ x => match g x with
    | some v => bif valT v.t then some (.new (.box v.t v.x)) else none
    | none => none
  | .build t parts => match gather g parts.toList with
    | some l => match P.underlying t with
      | some (.array _ _) => vOf (buildA P t l)
      | _ => bif okFields P t then vOf (buildV P t l) else none
    | none => none
  | .buildSlice t len parts => match gather g parts.toList with
    | some l => litV P t len l
    | none => none
  | .load t x => match tinf P t with
    | some (ag, n) => match g x with
      | some v => vOf (loadV hp ag n v)
      | none => none
    | none => none
  | .binOp op t x y _ => match g x with
    | some v1 => match g y with
      | some v2 => binV P hp op t v1 v2
      | none => none
    | none => none
  | .unOp op _ x => match g x with
    | some v => vOf (unV op v)
    | none => none
  | .convert s d x => match g x with
    | some v => vOf (convV P s d v)
    | none => none
  | .makeSlice t l c => match g l with
    | some v1 => match g c with
      | some v2 => makeV P t v1 v2
      | none => none
    | none => none
  | .slice t x lo hi none => match g x with
    | some v => match optV g lo with
      | some l => match optV g hi with
        | some h => sliceW P hp t v l h
        | none => none
      | none => none
    | none => none
  | .fieldAddr s x f => match g x with
    | some v => vOf (fieldV P s f v)
    | none => none
  | .field s x f => match g x with
    | some v => vOf (partV P s f v)
    | none => none
  | .indexAddr t x i => match P.underlying t with
    | some (.slice e) => match tinf P e with
      | some (_, n) => match g x with
        | some v => match g i with
          | some j => indexV hp n v j
          | none => none
        | none => none
      | none => none
    | _ => none
  | .index t x i => match g x with
    | some v => match g i with
      | some j => charV P t v j
      | none => none
    | none => none
  | .extract x i => match g x with
    | some v => vOf (extractV v i)
    | none => none
  | .call ⟨.builtin b, args, ts⟩ => builtinV P g hp b args.toList ts.toList
  | _ => none

/-- No new block. -/
def Res.plain : Res → Bool
  | .val _ => true
  | .cond _ _ => true
  | _ => false

def tagV (k : Blk) (d : Nat) : V :=
  match k with
  | .box _ _ => ⟨.ref d 0, ()⟩
  | .arr _ _ => ⟨.own d, ()⟩

section
variable {P : Program} {base : Nat} {w0 w : World} {F0 F : Nat → Prop} {ι : Nat → Option Ref} {st : St} {a : Act} {hp : Nat → Option Blk}

/-- What a result means for the machine's operation. -/
def Res.runs (base : Nat) (w0 : World) (F0 F : Nat → Prop) (ι : Nat → Option Ref) (st : St) (a : Act) (w : World) (P : Program) (d : Nat) (o : Oper) : Res → Prop
  | .val v => ∃ val, (execOp a.eval o).run P w = .ok (.value val) w ∧ vrep w F ι v.t v.x val
  | .cond c v => c → ∃ val, (execOp a.eval o).run P w = .ok (.value val) w ∧ vrep w F ι v.t v.x val
  | .new k => ∃ val w' ι', (execOp a.eval o).run P w = .ok (.value val) w' ∧ Sim base w0 F0 F ι' (st.new d k) a w' ∧ vrep w' F ι' (tagV k d).t (tagV k d).x val
  | .newc c k => c → ∃ val w' ι', (execOp a.eval o).run P w = .ok (.value val) w' ∧ Sim base w0 F0 F ι' (st.new d k) a w' ∧ vrep w' F ι' (tagV k d).t (tagV k d).x val

theorem runs_of_ok {r : Res} {d : Nat} {o : Oper} {s : Sem Value} (he : (execOp a.eval o).run P w = (s.run P w).andThen fun v w' => .ok (.value v) w') (hr : r.ok w F ι P s) (hn : r.plain = true) :
    r.runs base w0 F0 F ι st a w P d o := by
  cases r with
  | val v => obtain ⟨val, h1, h2⟩ := hr; exact ⟨val, by rw [he, h1]; rfl, h2⟩
  | cond c v => intro hc; obtain ⟨val, h1, h2⟩ := hr hc; exact ⟨val, by rw [he, h1]; rfl, h2⟩
  | new k => simp [Res.plain] at hn
  | newc c k => simp [Res.plain] at hn

theorem vOf_runs {d : Nat} {o : Oper} {s : Sem Value} {v : Option V} {r : Res} (h : vOf v = some r) (he : (execOp a.eval o).run P w = (s.run P w).andThen fun v w' => .ok (.value v) w')
    (hv : ∀ u, v = some u → ∃ val, s.run P w = .ok val w ∧ vrep w F ι u.t u.x val) : r.runs base w0 F0 F ι st a w P d o := by
  unfold vOf at h
  split at h <;> simp only [Option.some.injEq, reduceCtorEq] at h
  subst h
  obtain ⟨val, h1, h2⟩ := hv _ rfl
  exact ⟨val, by rw [he, h1]; rfl, h2⟩

theorem gather_ok (hs : Sim base w0 F0 F ι st a w) : ∀ (l : List (Nat × Operand)) (r : List (Nat × V)), gather st.val l = some r →
    r.length = (l.map fun (i, x) => (i, a.eval x)).length ∧ ∀ (k : Nat) (p : Nat × V) (q : Nat × Value), r[k]? = some p → (l.map fun (i, x) => (i, a.eval x))[k]? = some q → p.1 = q.1 ∧ vrep w F ι p.2.t p.2.x q.2
  | [], r, h => by simp only [gather, Option.some.injEq] at h; subst h; simp
  | (i, x) :: l, r, h => by
    simp only [gather] at h
    split at h <;> try (simp at h; done)
    rename_i v hv
    split at h <;> try (simp at h; done)
    rename_i l' hl
    simp only [Option.some.injEq] at h; subst h
    obtain ⟨h1, h2⟩ := gather_ok hs l l' hl
    refine ⟨by simp [h1], fun k p q hp hq => ?_⟩
    cases k with
    | zero => simp at hp hq; subst hp; subst hq; exact ⟨rfl, hs.val hv⟩
    | succ k => exact h2 k p q (by simpa using hp) (by simpa using hq)

theorem binI_val {op : BinOp} {k : IntKind} {x y : Int} {r : Res} (h : binI op k x y = some r) : r.plain = true := by
  cases op <;> simp only [binI, Option.some.injEq] at h <;> subst h <;> rfl

theorem strI_ok {op : BinOp} {ty : TypeId} {x y : Operand} {s t : ByteArray} {r : Res} (h : strI op s t = some r) :
    r.ok w F ι P (do eqGuard op ty x y (.string s) (.string t); binOp op ty (.string s) (.string t)) ∧ r.plain = true := by
  have hg : (eqGuard op ty x y (.string s) (.string t)).run P w = .ok () w := by cases op <;> simp [eqGuard]
  unfold strI at h
  split at h <;> simp only [Option.some.injEq, reduceCtorEq] at h <;> subst h <;> refine ⟨?_, rfl⟩
  · intro hc
    refine ⟨_, ?_, vrep_str.2 rfl⟩
    have hn : ¬ (9223372036854775807 < ((s.size : Int) + (t.size : Int))) := by omega
    have hm : IntKind.i64.max = 9223372036854775807 := by decide
    simp [hg, binOp, Op.stringOp, hm, hn]
  · exact ⟨_, by simp [hg, binOp, Op.stringOp]; rfl, vrep_bool.2 rfl⟩
  · exact ⟨_, by simp [hg, binOp, Op.stringOp]; rfl, vrep_bool.2 rfl⟩

theorem eqW_ok (hh : HeapOk w base F ι hp) {t : TypeId} {v1 v2 : V} {x1 x2 : Value} {b : Bool} {x y : Operand} (h1 : vrep w F ι v1.t v1.x x1) (h2 : vrep w F ι v2.t v2.x x2) (h : eqW P hp t v1 v2 = some b) :
    (∀ op, op = .eql ∨ op = .neq → (eqGuard op t x y x1 x2).run P w = .ok () w) ∧ (Op.equal t x1 x2).run P w = .ok b w ∧
    (binOp .eql t x1 x2 = do pure (.bool (← Op.equal t x1 x2))) ∧ (binOp .neq t x1 x2 = do pure (.bool (!(← Op.equal t x1 x2)))) := by
  unfold eqW at h
  split at h <;> try (simp at h; done)
  · rename_i e ht
    have key : ∀ a l c a' l' c', (a = none ∨ a' = none) → (Op.equal t (.slice a l c) (.slice a' l' c')).run P w = .ok (a.isNone && a'.isNone) w := by
      intro a l c a' l' c' hn
      have gen : ∀ d, (Op.equalIn (d + 1) t (.slice a l c) (.slice a' l' c')).run P w = .ok (a.isNone && a'.isNone) w := by
        intro d
        rcases hn with rfl | rfl
        · simp [Op.equalIn, run_underlying ht]
        · cases a <;> simp [Op.equalIn, run_underlying ht]
      exact gen 9999
    split at h
    · rename_i h2t
      obtain ⟨t2, y2⟩ := v2
      simp only at h2t; subst h2t
      rw [vrep_cst] at h2; subst h2
      obtain ⟨a, l, c, rfl, hb⟩ := nilV_ok hh h1 h
      refine ⟨?_, ?_, rfl, rfl⟩
      · rintro op (rfl | rfl) <;> simp [eqGuard, Cst.val]
      · simp only [Cst.val]; rw [key _ _ _ _ _ _ (.inr rfl)]; simp [hb]
    · split at h <;> try (simp at h; done)
      rename_i h1t
      obtain ⟨t1, y1⟩ := v1
      simp only at h1t; subst h1t
      rw [vrep_cst] at h1; subst h1
      obtain ⟨a, l, c, rfl, hb⟩ := nilV_ok hh h2 h
      refine ⟨?_, ?_, rfl, rfl⟩
      · rintro op (rfl | rfl) <;> simp [eqGuard, Cst.val]
      · simp only [Cst.val]; rw [key _ _ _ _ _ _ (.inl rfl)]; simp [hb]
  · rename_i ht
    have he := eqV_ok (P := P) (w := w) (F := F) (ι := ι) 1 Op.maxDepth t v1 v2 x1 x2 b (by decide) h1 h2 h
    simp only [eqV, ht] at h
    split at h <;> try (simp at h; done)
    rw [vrep_bool] at h1 h2; subst h1; subst h2
    exact ⟨by rintro op (rfl | rfl) <;> simp [eqGuard], he, rfl, rfl⟩
  · rename_i fs ht
    cases hg : P.eqGuardType P.depth t <;> rw [hg] at h <;> simp only [cond_true, cond_false, reduceCtorEq] at h
    have he := eqV_ok (P := P) (w := w) (F := F) (ι := ι) 8 Op.maxDepth t v1 v2 x1 x2 b (by decide) h1 h2 h
    have h' := h
    simp only [eqV, ht] at h'
    cases hc : (isAggT v1.t && isAggT v2.t && !P.stoodInHeld t) <;> rw [hc] at h' <;> simp only [cond_true, cond_false, reduceCtorEq] at h'
    simp only [Bool.and_eq_true] at hc
    rw [vrep_agg hc.1.1] at h1; rw [vrep_agg hc.1.2] at h2
    obtain ⟨c1, rfl, _⟩ := h1
    obtain ⟨c2, rfl, _⟩ := h2
    exact ⟨fun op _ => run_eqGuard_agg w op t x y c1 c2 hg, he, rfl, rfl⟩

theorem binV_ok (hh : HeapOk w base F ι hp) {op : BinOp} {t : TypeId} {v1 v2 : V} {x1 x2 : Value} {r : Res} {x y : Operand} (h1 : vrep w F ι v1.t v1.x x1) (h2 : vrep w F ι v2.t v2.x x2) (h : binV P hp op t v1 v2 = some r) :
    r.ok w F ι P (do eqGuard op t x y x1 x2; binOp op t x1 x2) ∧ r.plain = true := by
  unfold binV at h
  split at h
  · rw [vrep_int] at h1 h2; subst h1; subst h2
    split at h
    · exact ⟨binS_ok (.inl rfl) h, binI_val h⟩
    · exact ⟨binS_ok (.inr rfl) h, binI_val h⟩
    · rename_i k a k' b op _ _
      cases hk : sameK k k' <;> rw [hk] at h <;> simp only [cond_true, cond_false, reduceCtorEq] at h
      have hk' := sameK_eq hk; subst hk'
      exact ⟨binI_ok h, binI_val h⟩
  · rw [vrep_str] at h1 h2; subst h1; subst h2
    exact strI_ok h
  · rename_i v1 v2 hni hns
    split at h <;> try (simp at h; done)
    · split at h <;> try (simp at h; done)
      rename_i b hb
      simp only [Option.some.injEq] at h; subst h
      obtain ⟨q1, q2, q3, _⟩ := eqW_ok (x := x) (y := y) hh h1 h2 hb
      exact ⟨⟨_, by simp only [Sem.run_bind, q1 _ (.inl rfl), Result.andThen_ok, q3, q2, Sem.run_pure], vrep_bool.2 rfl⟩, rfl⟩
    · split at h <;> try (simp at h; done)
      rename_i b hb
      simp only [Option.some.injEq] at h; subst h
      obtain ⟨q1, q2, _, q3⟩ := eqW_ok (x := x) (y := y) hh h1 h2 hb
      exact ⟨⟨_, by simp only [Sem.run_bind, q1 _ (.inr rfl), Result.andThen_ok, q3, q2, Sem.run_pure], vrep_bool.2 rfl⟩, rfl⟩

end
end Go.VM

namespace Go.VM
open Go Go.RowKit

section
variable {P : Program} {base : Nat} {w0 w : World} {F0 F : Nat → Prop} {ι : Nat → Option Ref} {st : St} {a : Act}

theorem optV_ok (hs : Sim base w0 F0 F ι st a w) {x : Option Operand} {v : Option V} (h : optV st.val x = some v) :
    (∀ u, v = some u → ∃ y, x.map a.eval = some y ∧ vrep w F ι u.t u.x y) ∧ (v = none → x.map a.eval = none) := by
  unfold optV at h
  split at h
  · simp only [Option.some.injEq] at h; subst h; simp
  · split at h <;> try (simp at h; done)
    rename_i x v hv
    simp only [Option.some.injEq] at h; subst h
    refine ⟨fun u hu => ?_, by simp⟩
    simp only [Option.some.injEq] at hu; subst hu
    exact ⟨_, rfl, hs.val hv⟩

theorem sliceW_ok (hs : Sim base w0 F0 F ι st a w) {t : TypeId} {v : V} {l h : Option V} {lo hi : Option Operand} {x : Value} {r : Res} (hv : vrep w F ι v.t v.x x) (hl : optV st.val lo = some l) (hh : optV st.val hi = some h)
    (he : sliceW P st.heap t v l h = some r) : r.ok w F ι P (Instr.sliceAt t x (lo.map a.eval) (hi.map a.eval) none) ∧ r.plain = true := by
  obtain ⟨l1, l2⟩ := optV_ok hs hl
  obtain ⟨h1, h2⟩ := optV_ok hs hh
  unfold sliceW at he
  split at he <;> try (simp at he; done)
  · rename_i ht
    split at he <;> try (simp at he; done)
    rename_i s
    simp only [sliceV] at he
    split at he <;> try (simp at he; done)
    rename_i i j hi hj
    simp only [Option.some.injEq] at he; subst he
    rw [vrep_str] at hv; subst hv
    exact ⟨slcStr_ok ht (boundV_ok l1 l2 hi) (boundV_ok h1 h2 hj), rfl⟩
  · rename_i e ht
    split at he <;> try (simp at he; done)
    rename_i ag n hn
    split at he <;> try (simp at he; done)
    · rename_i ty y
      cases hc : Nat.beq n (width ty) <;> rw [hc] at he <;> simp only [cond_true, cond_false, reduceCtorEq] at he
      rw [Nat.beq_eq] at hc; subst hc
      simp only [sliceV] at he
      split at he <;> try (simp at he; done)
      rename_i i j hi hj
      simp only [Option.some.injEq] at he; subst he
      exact ⟨slcFr_ok ht hn hv (boundV_ok l1 l2 hi) (boundV_ok h1 h2 hj), rfl⟩
    · rename_i b y
      split at he <;> try (simp at he; done)
      rename_i ty x hb
      cases hc : Nat.beq n (width ty) <;> rw [hc] at he <;> simp only [cond_true, cond_false, reduceCtorEq] at he
      rw [Nat.beq_eq] at hc; subst hc
      split at he <;> try (simp at he; done)
      rename_i i j hi hj
      simp only [Option.some.injEq] at he; subst he
      exact ⟨slcW_ok hs.heap ht hn hb hv (boundV_ok l1 l2 hi) (boundV_ok h1 h2 hj), rfl⟩

theorem litV_form {t : TypeId} {len : Nat} {parts : List (Nat × V)} {r : Res} (h : litV P t len parts = some r) : ∃ ty xs, r = .new (.arr ty xs) := by
  unfold litV at h
  split at h <;> try (simp at h; done)
  rename_i z b he
  cases hb : Nat.ble (len * width z.t) 16777216 <;> rw [hb] at h <;> simp only [cond_true, cond_false, reduceCtorEq] at h
  split at h <;> try (simp at h; done)
  simp only [Option.some.injEq] at h; exact ⟨_, _, h.symm⟩

theorem map_arr {α β : Type} (xs : Array α) (f : α → β) : (xs.toList.map f).toArray = xs.map f := by rw [← Array.toList_map, Array.toArray_toList]

theorem evP_runs (hs : Sim base w0 F0 F ι st a w) {o : Oper} {r : Res} {d : Nat} (h : evP P st.val st.heap o.op = some r) (hd : r.plain = false → st.used d = false) : r.runs base w0 F0 F ι st a w P d o := by
  obtain ⟨dst, op, ty, pos, aft, grd⟩ := o
  simp only at h
  cases op with
  | move x =>
    simp only [evP] at h
    exact vOf_runs (s := pure (a.eval x)) h (by simp [execOp]) fun u hu => ⟨_, rfl, hs.val hu⟩
  | assign x =>
    simp only [evP] at h
    exact vOf_runs (s := pure (a.eval x)) h (by simp [execOp]) fun u hu => ⟨_, rfl, hs.val hu⟩
  | pick c x y =>
    simp only [evP] at h
    split at h <;> try (simp at h; done)
    rename_i t ht
    have hc := hs.val ht
    rw [vrep_bool] at hc
    split at h
    · exact vOf_runs (s := pure (a.eval x)) h (by simp [execOp, hc, asBool]) fun u hu => ⟨_, rfl, hs.val hu⟩
    · exact vOf_runs (s := pure (a.eval y)) h (by simp [execOp, hc, asBool]) fun u hu => ⟨_, rfl, hs.val hu⟩
  | alloc e =>
    simp only [evP] at h
    split at h <;> try (simp at h; done)
    rename_i z hz
    simp only [Option.some.injEq] at h; subst h
    obtain ⟨cs, h1, h2, h3⟩ := run_alloc (w := w) hz
    obtain ⟨q1, q2⟩ := alloc_box hs (e := e) (hd rfl) h2 (h3 F ι)
    exact ⟨_, _, _, by simp [execOp, h1] <;> exact ⟨rfl, rfl⟩, q1, q2⟩
  | box e x =>
    simp only [evP] at h
    split at h <;> try (simp at h; done)
    rename_i v hv
    obtain ⟨hval, rfl⟩ := bif_some h
    obtain ⟨q1, q2⟩ := alloc_box hs (e := e) (hd rfl) hval (vrep_cells (valT_or hval) (hs.val hv))
    exact ⟨_, _, _, by simp [execOp, run_box] <;> exact ⟨rfl, rfl⟩, q1, q2⟩
  | build t parts =>
    simp only [evP] at h
    split at h <;> try (simp at h; done)
    rename_i l hl
    obtain ⟨g1, g2⟩ := gather_ok hs _ _ hl
    split at h
    · refine vOf_runs (s := Instr.build t (parts.map fun (i, x) => (i, a.eval x))) h (by simp [execOp]) fun u hu => ?_
      have := buildA_ok (P := P) (w := w) (F := F) (ι := ι) g1 g2 hu
      rw [map_arr] at this
      exact this
    cases hc : okFields P t <;> rw [hc] at h <;> simp only [cond_true, cond_false, reduceCtorEq] at h
    refine vOf_runs (s := Instr.build t (parts.map fun (i, x) => (i, a.eval x))) h (by simp [execOp]) fun u hu => ?_
    have := buildV_ok (P := P) (w := w) (F := F) (ι := ι) g1 g2 (by
      intro fs hfs f hf
      unfold okFields at hc
      rw [hfs] at hc
      simp only [List.all_eq_true] at hc
      exact hc f hf) hu
    rw [map_arr] at this
    exact this
  | buildSlice t len parts =>
    simp only [evP] at h
    split at h <;> try (simp at h; done)
    rename_i l hl
    obtain ⟨g1, g2⟩ := gather_ok hs _ _ hl
    obtain ⟨ty', xs, rfl⟩ := litV_form h
    obtain ⟨val, w', ι', x, q1, q2, q3⟩ := litV_ok (P := P) hs (hd rfl) g1 g2 h
    rw [map_arr] at q1
    exact ⟨val, w', ι', by simp only [execOp, Sem.run_bind, q1, Result.andThen_ok, Sem.run_pure], q2, q3⟩
  | load t x =>
    simp only [evP] at h
    split at h <;> try (simp at h; done)
    rename_i ag n ht
    split at h <;> try (simp at h; done)
    rename_i v hv
    exact vOf_runs (s := Instr.loadAt t (a.eval x)) h (by simp [execOp]) fun u hu => loadV_ok hs.heap ht (hs.val hv) hu
  | binOp op t x y t' =>
    simp only [evP] at h
    split at h <;> try (simp at h; done)
    rename_i v1 h1
    split at h <;> try (simp at h; done)
    rename_i v2 h2
    obtain ⟨q1, q2⟩ := binV_ok (x := x) (y := y) hs.heap (hs.val h1) (hs.val h2) h
    exact runs_of_ok (by simp [execOp]; cases (eqGuard op t x y (a.eval x) (a.eval y)).run P w <;> rfl) q1 q2
  | unOp op t x =>
    simp only [evP] at h
    split at h <;> try (simp at h; done)
    rename_i v hv
    exact vOf_runs (s := Op.unary op (a.eval x)) h (by simp [execOp]) fun u hu => unV_ok (hs.val hv) hu
  | convert s t x =>
    simp only [evP] at h
    split at h <;> try (simp at h; done)
    rename_i v hv
    exact vOf_runs (s := convert s t (a.eval x)) h (by simp [execOp]) fun u hu => convV_ok (hs.val hv) hu
  | makeSlice t l c =>
    simp only [evP] at h
    split at h <;> try (simp at h; done)
    rename_i v1 h1
    split at h <;> try (simp at h; done)
    rename_i v2 h2
    have hm : ∃ z : V, ∃ b l c, r = mkRes z.t z.x b l c := by
      unfold makeV at h
      split at h <;> try (simp at h; done)
      split at h <;> try (simp at h; done)
      simp only [Option.some.injEq] at h
      exact ⟨_, _, _, _, h.symm⟩
    obtain ⟨z, b, l', c', rfl⟩ := hm
    have := makeV_ok (P := P) hs (hd rfl) (hs.val h1) (hs.val h2) h
    intro hc
    obtain ⟨val, w', ι', x, q1, q2, q3⟩ := this hc
    exact ⟨val, w', ι', by simp [execOp, q1], q2, q3⟩
  | slice t x lo hi mx =>
    cases mx with
    | some m => simp [evP] at h
    | none =>
      simp only [evP] at h
      split at h <;> try (simp at h; done)
      rename_i v hv
      split at h <;> try (simp at h; done)
      rename_i l hl
      split at h <;> try (simp at h; done)
      rename_i u hu
      obtain ⟨q1, q2⟩ := sliceW_ok (P := P) hs (hs.val hv) hl hu h
      exact runs_of_ok (by simp [execOp]) q1 q2
  | fieldAddr s x f =>
    simp only [evP] at h
    split at h <;> try (simp at h; done)
    rename_i v hv
    exact vOf_runs (s := Instr.fieldAt s (a.eval x) f) h (by simp [execOp]) fun u hu => fieldV_ok (hs.val hv) hu
  | field s x f =>
    simp only [evP] at h
    split at h <;> try (simp at h; done)
    rename_i v hv
    exact vOf_runs (s := Instr.field s (a.eval x) f) h (by simp [execOp]) fun u hu => partV_ok (hs.val hv) hu
  | indexAddr t x i =>
    simp only [evP] at h
    split at h <;> try (simp at h; done)
    rename_i e ht
    split at h <;> try (simp at h; done)
    rename_i ag n hn
    split at h <;> try (simp at h; done)
    rename_i v hv
    split at h <;> try (simp at h; done)
    rename_i j hj
    have hp : r.plain = true := by
      unfold indexV at h
      split at h
      · split at h <;> try (simp at h; done)
        obtain ⟨_, rfl⟩ := bif_some h; rfl
      · obtain ⟨_, rfl⟩ := bif_some h; rfl
      · simp at h
    exact runs_of_ok (by simp [execOp]) (indexV_ok hs.heap ht hn (hs.val hv) (hs.val hj) h) hp
  | index t x i =>
    simp only [evP] at h
    split at h <;> try (simp at h; done)
    rename_i v hv
    split at h <;> try (simp at h; done)
    rename_i j hj
    have hp : r.plain = true := by
      unfold charV at h
      split at h <;> try (simp at h; done)
      · split at h <;> try (simp at h; done)
        simp only [Option.some.injEq] at h; subst h; rfl
      · unfold arrV at h
        split at h <;> try (simp at h; done)
        split at h <;> try (simp at h; done)
        obtain ⟨_, rfl⟩ := bif_some h; rfl
    exact runs_of_ok (by simp [execOp]) (charV_ok (hs.val hv) (hs.val hj) h) hp
  | extract x i =>
    simp only [evP] at h
    split at h <;> try (simp at h; done)
    rename_i v hv
    exact vOf_runs (s := Instr.extract (a.eval x) i) h (by simp [execOp]) fun u hu => extractV_ok (hs.val hv) hu
  | call c =>
    obtain ⟨cal, args, ts⟩ := c
    cases cal with
    | value f => simp [evP] at h
    | invoke x m => simp [evP] at h
    | builtin b =>
      simp only [evP] at h
      unfold builtinV at h
      split at h <;> try (simp at h; done)
      · rename_i x t hargs hts
        split at h <;> try (simp at h; done)
        rename_i v hv
        have e1 : args = #[x] := by rw [← Array.toArray_toList (xs := args), hargs]
        have e2 : ts = #[t] := by rw [← Array.toArray_toList (xs := ts), hts]
        subst e1; subst e2
        exact vOf_runs (s := Builtin.len_ #[t] ty #[a.eval x]) h (by simp [execOp, resolve, invoke, builtin]) fun u hu => lenV_ok hs.heap (hs.val hv) hu
      · rename_i x y hargs
        have e1 : args = #[x, y] := by rw [← Array.toArray_toList (xs := args), hargs]
        subst e1
        split at h <;> try (simp at h; done)
        rename_i k n k' m hx hy
        obtain ⟨hk, rfl⟩ := bif_some h
        have hk' := sameK_eq hk; subst hk'
        have h1 := hs.val hx; have h2 := hs.val hy
        rw [vrep_int] at h1 h2
        refine ⟨_, ?_, vrep_int.2 rfl⟩
        simp [execOp, resolve, invoke, builtin, h1, h2, run_max_int2, maxI]
      · rename_i x y hargs
        have e1 : args = #[x, y] := by rw [← Array.toArray_toList (xs := args), hargs]
        subst e1
        split at h <;> try (simp at h; done)
        rename_i k n k' m hx hy
        obtain ⟨hk, rfl⟩ := bif_some h
        have hk' := sameK_eq hk; subst hk'
        have h1 := hs.val hx; have h2 := hs.val hy
        rw [vrep_int] at h1 h2
        refine ⟨_, ?_, vrep_int.2 rfl⟩
        simp [execOp, resolve, invoke, builtin, h1, h2, run_min_int2, minI]
  | _ => simp [evP] at h

end
end Go.VM

namespace Go.VM
open Go Go.RowKit

def noRef : Nat → Option Ref := fun _ => none

def vreps (w : World) (F : Nat → Prop) : List V → List Value → Prop
  | [], [] => True
  | v :: vs, x :: xs => vrep w F noRef v.t v.x x ∧ vreps w F vs xs
  | _, _ => False

/-- Called with data `xs` the function returns data of type `rt` for which `Q` holds; it writes nothing that was there. -/
structure callV (P : Program) (f : FuncId) (xs : List V) (rt : Ty) (Q : den rt → Prop) : Prop where
  call : ∀ args w, (callFunc f args).run P w = .ok (.enter f args) w
  ex : ∃ r, Q r
  run : ∀ (w : World) (F : Nat → Prop) (vals : List Value), (∀ b, F b → b < w.heap.size) → vreps w F xs vals →
    Calls P f vals.toArray w fun e w' => ∃ v r, e = .returned v ∧ vrep w' (fun k => F k ∨ w.heap.size ≤ k) noRef rt r v ∧ Q r ∧ Below w.heap.size w w'

theorem callV.mono {P : Program} {f : FuncId} {xs : List V} {rt : Ty} {Q Q' : den rt → Prop} (h : callV P f xs rt Q) (hq : ∀ r, Q r → Q' r) : callV P f xs rt Q' :=
  ⟨h.call, let ⟨r, hr⟩ := h.ex; ⟨r, hq r hr⟩, fun w F vals hF hv => (h.run w F vals hF hv).mono fun _ _ ⟨v, r, h1, h2, h3, h4⟩ => ⟨v, r, h1, h2, hq r h3, h4⟩⟩

/-- Types of data without addresses. -/
def flat : Ty → Bool
  | .int _ | .bool | .str | .cst _ | .unit => true
  | .pair a b => flat a && flat b
  | .agg c => flat c
  | .tup c => flat c
  | .arr _ t => flat t
  | _ => false

theorem rep_flat {w w' : World} {F F' : Nat → Prop} {ι ι' : Nat → Option Ref} : ∀ (t : Ty) (x : den t) (cs : List Value), flat t = true → rep w F ι t x cs → rep w' F' ι' t x cs
  | .int _, _, _, _, h | .bool, _, _, _, h | .str, _, _, _, h | .cst _, _, _, _, h | .unit, _, _, _, h => by simpa only [rep] using h
  | .pair a b, x, _, hf, h => by
    simp only [flat, Bool.and_eq_true] at hf
    simp only [rep] at h ⊢
    obtain ⟨c1, c2, rfl, h1, h2⟩ := h
    exact ⟨c1, c2, rfl, rep_flat a _ _ hf.1 h1, rep_flat b _ _ hf.2 h2⟩
  | .agg c, x, cs, hf, h => by simp only [rep] at h ⊢; exact rep_flat c x cs hf h
  | .arr _ t, _, _, hf, h => by simp only [rep] at h ⊢; exact ⟨h.1, h.2.1, fun i y hy => rep_flat t y _ hf (h.2.2 i y hy)⟩
  | .tup _, _, _, _, h => by simp only [rep] at h
  | .sl _, _, _, hf, _ | .ref _ _, _, _, hf, _ | .own _, _, _, hf, _ | .eref _ _, _, _, hf, _ | .fref _, _, _, hf, _ | .vw _, _, _, hf, _ => by simp [flat] at hf

theorem rep_lt {w : World} {F : Nat → Prop} {ι : Nat → Option Ref} : ∀ (t : Ty) (x : den t) (cs : List Value), rep w F ι t x cs → rep w (fun k => F k ∧ k < w.heap.size) ι t x cs
  | .int _, _, _, h | .bool, _, _, h | .str, _, _, h | .cst _, _, _, h | .unit, _, _, h => by simpa only [rep] using h
  | .sl _, none, _, h => by simpa only [rep] using h
  | .sl t, some l, _, h => by
    simp only [rep] at h ⊢
    obtain ⟨blk, off, cap, cells, el, fz, rfl, hf', hl, hb, hr⟩ := h
    exact ⟨blk, off, cap, cells, el, fz, rfl, ⟨hf', heap_lt hb⟩, hl, hb, fun i y hy => rep_lt t y _ (hr i y hy)⟩
  | .pair a b, x, _, h => by
    simp only [rep] at h ⊢
    obtain ⟨c1, c2, rfl, h1, h2⟩ := h
    exact ⟨c1, c2, rfl, rep_lt a _ _ h1, rep_lt b _ _ h2⟩
  | .agg c, x, cs, h => by simp only [rep] at h ⊢; exact rep_lt c x cs h
  | .arr _ t, _, _, h => by simp only [rep] at h ⊢; exact ⟨h.1, h.2.1, fun i y hy => rep_lt t y _ (h.2.2 i y hy)⟩
  | .tup _, _, _, h => by simp only [rep] at h
  | .ref _ _, _, _, h | .own _, _, _, h | .eref _ _, _, _, h | .vw _, _, _, h => by simpa only [rep] using h
  | .fref t, _, _, h => by
    simp only [rep] at h ⊢
    obtain ⟨blk, off, cells, el, fz, rfl, hf', hb, hr⟩ := h
    exact ⟨blk, off, cells, el, fz, rfl, ⟨hf', heap_lt hb⟩, hb, rep_lt t _ _ hr⟩

/-- What holds of `rep` holds of values. -/
theorem vrep_lift {w w' : World} {F F' : Nat → Prop} {ι ι' : Nat → Option Ref} {ok : Ty → Bool} (hp : ∀ a b, ok (.pair a b) = true → ok a = true ∧ ok b = true) (ht : ∀ c, ok (.tup c) = true → ok c = true)
    (h : ∀ (t : Ty) (x : den t) (cs : List Value), ok t = true → rep w F ι t x cs → rep w' F' ι' t x cs) : ∀ (t : Ty) (x : den t) (v : Value), ok t = true → vrep w F ι t x v → vrep w' F' ι' t x v := by
  have h1 : ∀ (t : Ty) (x : den t) (v : Value), ok t = true → vrep1 w F ι t x v → vrep1 w' F' ι' t x v := by
    intro t x v ho hv
    unfold vrep1 at hv ⊢
    cases ha : isAggT t <;> rw [ha] at hv
    · exact ⟨hv.1, h _ _ _ ho hv.2⟩
    · obtain ⟨cs, e, hv⟩ := hv; exact ⟨cs, e, h _ _ _ ho hv⟩
  have h2 : ∀ (t : Ty) (x : den t) (vs : List Value), ok t = true → trep w F ι t x vs → trep w' F' ι' t x vs := by
    intro t
    induction t with
    | unit => intro x vs _ hv; simpa only [trep] using hv
    | pair a b _ ihb =>
      intro x vs ho hv
      simp only [trep] at hv ⊢
      obtain ⟨v, vs', rfl, q1, q2⟩ := hv
      exact ⟨v, vs', rfl, h1 _ _ _ (hp _ _ ho).1 q1, ihb _ _ (hp _ _ ho).2 q2⟩
    | _ => intro x vs _ hv; simp only [trep] at hv
  intro t x v ho hv
  cases t <;> simp only [vrep] at hv ⊢ <;> first
    | exact h1 _ _ _ ho hv
    | (obtain ⟨vs, e, hv⟩ := hv; exact ⟨vs, e, h2 _ _ _ (ht _ ho) hv⟩)

/-! Arguments. -/

def argV (hp : Nat → Option Blk) (pt : Ty) (v : V) : Option V :=
  match pt with
  | .cst _ => match v.t with
    | .cst c => some ⟨.cst c, ()⟩
    | _ => none
  | pt => match coe hp pt v.t v.x with
    | some x => bif valT pt && frozen pt then some ⟨pt, x⟩ else none
    | none => none

def argsV (P : Program) (g : Operand → Option V) (hp : Nat → Option Blk) : List Operand → List TypeId → Option (List V)
  | [], [] => some []
  | x :: xs, t :: ts => match tyOf P 12 t with
    | some pt => match g x with
      | some v => match argV hp pt v with
        | some u => match argsV P g hp xs ts with
          | some us => some (u :: us)
          | none => none
        | none => none
      | none => none
    | none => none
  | _, _ => none

/-- The type of the result; its data is nowhere local. -/
def resT (P : Program) (t : TypeId) : Option Ty :=
  match tyOf P 12 t with
  | some rt => bif frozen rt then some rt else none
  | none => none

/-- Called with data `xs` the function returns a list in a block of its own, for which `Q` holds. -/
structure ownV (P : Program) (f : FuncId) (xs : List V) (t : Ty) (Q : Option (List (den t)) → Prop) : Prop where
  call : ∀ args w, (callFunc f args).run P w = .ok (.enter f args) w
  ex : ∃ r, Q r
  run : ∀ (w : World) (F : Nat → Prop) (vals : List Value), (∀ b, F b → b < w.heap.size) → vreps w F xs vals →
    Calls P f vals.toArray w fun e w' => ∃ (r : Ref) (l : Option (List (den t))), e = .returned r.val ∧ brep w' w.heap.size F noRef r (.arr t l) ∧ Q l ∧ Below w.heap.size w w'

theorem ownV.mono {P : Program} {f : FuncId} {xs : List V} {t : Ty} {Q Q' : Option (List (den t)) → Prop} (h : ownV P f xs t Q) (hq : ∀ r, Q r → Q' r) : ownV P f xs t Q' :=
  ⟨h.call, let ⟨r, hr⟩ := h.ex; ⟨r, hq r hr⟩, fun w F vals hF hv => (h.run w F vals hF hv).mono fun _ _ ⟨v, r, h1, h2, h3, h4⟩ => ⟨v, r, h1, h2, hq r h3, h4⟩⟩

/-- The type of a result that is a list of plain data. -/
def ownT (P : Program) (t : TypeId) : Option Ty :=
  match resT P t with
  | some (.sl t) => bif flat t then some t else none
  | _ => none

/-- The local blocks that a type names. -/
def ids : Ty → List Nat
  | .pair a b => ids a ++ ids b
  | .agg c => ids c
  | .tup c => ids c
  | .arr _ t => ids t
  | .sl t => ids t
  | .fref t => ids t
  | .ref b _ => [b]
  | .own b => [b]
  | .eref b _ => [b]
  | .vw b => [b]
  | _ => []

def memN (n : Nat) : List Nat → Bool
  | [] => false
  | m :: l => Nat.beq n m || memN n l

def okIds (bad : List Nat) (g : Operand → Option V) : List Operand → Bool
  | [] => true
  | x :: xs => (match g x with
    | some v => (ids v.t).all fun b => !memN b bad
    | none => true) && okIds bad g xs

/-- A store in a drawn region: it must be known which block it writes. -/
def okSt (bad : List Nat) (g : Operand → Option V) : Op → Bool
  | .store _ (.tmp t) _ => bif memN 4294967295 bad then (match g (.tmp t) with
    | some ⟨.ref b _, _⟩ => Nat.beq b t
    | _ => false) else true
  | _ => true

def okOp (bad : List Nat) (g : Operand → Option V) (op : Op) : Bool := okIds bad g op.operands.toList && okSt bad g op

/-- A local slice becomes frozen data. -/
def frz (b : Nat) (tl : Ty) (l : Option (List (den tl))) : (t : Ty) → den t → V
  | .own c, _ => bif Nat.beq c b then ⟨.sl tl, l⟩ else ⟨.own c, ()⟩
  | .pair x y, p => ⟨.pair (frz b tl l x p.1).t (frz b tl l y p.2).t, ((frz b tl l x p.1).x, (frz b tl l y p.2).x)⟩
  | .agg c, p => ⟨.agg (frz b tl l c p).t, (frz b tl l c p).x⟩
  | .int k, x => ⟨.int k, x⟩
  | .bool, x => ⟨.bool, x⟩
  | .str, x => ⟨.str, x⟩
  | .cst c, x => ⟨.cst c, x⟩
  | .sl t, x => ⟨.sl t, x⟩
  | .unit, x => ⟨.unit, x⟩
  | .arr n t, x => ⟨.arr n t, x⟩
  | .tup c, x => ⟨.tup c, x⟩
  | .ref c o, x => ⟨.ref c o, x⟩
  | .eref c o, x => ⟨.eref c o, x⟩
  | .fref t, x => ⟨.fref t, x⟩
  | .vw c, x => bif Nat.beq c b then ⟨.sl tl, slcS l (x : Int × Int).1 (x : Int × Int).2⟩ else ⟨.vw c, x⟩

def frzE (b : Nat) (t : Ty) (l : Option (List (den t))) : Option V → Option V
  | some v => some (frz b t l v.t v.x)
  | none => none
def frzB (b : Nat) (t : Ty) (l : Option (List (den t))) : Option Blk → Option Blk
  | some (.box u x) => some (.box (frz b t l u x).t (frz b t l u x).x)
  | some (.arr u x) => some (.arr u x)
  | none => none

def St.freeze (st : St) (b : Nat) : Option St :=
  match st.heap b with
  | some (.arr t l) => some ⟨fun s => frzE b t l (st.env s), fun c => bif Nat.beq c b then none else frzB b t l (st.heap c), st.used⟩
  | _ => none

/-- One operation; `bad`: blocks that it must not look at. -/
def opW (P : Program) (N : Nat) (ow : Bool) (o : Oper) (K : St → Prop) (st : St) : Prop :=
  match o.dst with
  | none => match o.op with
    | .store t x v => match tinf P t with
      | some (_, n) => match st.val x with
        | some vx => match st.val v with
          | some vv => match storeV st.heap n vx vv with
            | some (b, k) => K { st with heap := upd st.heap b (some k) }
            | none => False
          | none => False
        | none => False
      | none => False
    | _ => False
  | some d => bif Nat.blt d N then match o.op with
    | .call ⟨.value f, args, ts⟩ => match st.val f with
      | some ⟨.cst (.fn f), _⟩ => bif ow then match ownT P o.type with
        | some t => match argsV P st.val st.heap args.toList ts.toList with
          | some xs => bif st.used d then False else ownV P f xs t fun l => K ((st.new d (.arr t l)).put d (some ⟨.own d, ()⟩))
          | none => False
        | none => False
        else match resT P o.type with
        | some rt => match argsV P st.val (bif flat rt then st.heap else noHeap) args.toList ts.toList with
          | some xs => callV P f xs rt fun r => K (st.put d (some ⟨rt, r⟩))
          | none => False
        | none => False
      | _ => False
    | .call ⟨.builtin .append, args, ts⟩ => match args.toList, ts.toList with
      | [s, x], [t, t1] => match st.val s with
        | some vs => match st.val x with
          | some vx => match appendV P st.heap t t1 vs vx with
            | some (b, c, k) => bif st.used d then False else bif ow
                then match (((st.killO b).new d k).put d (some ⟨.own d, ()⟩)).freeze d with
                  | some st => c ∧ K st
                  | none => False
                else c ∧ K (((st.killO b).new d k).put d (some ⟨.own d, ()⟩))
            | none => False
          | none => False
        | none => False
      | _, _ => False
    | .call ⟨.builtin .copy, args, ts⟩ => match args.toList, ts.toList with
      | [s, x], [t, _] => match st.val s with
        | some vs => match st.val x with
          | some vx => match copyV P st.heap t vs vx with
            | some (b, k, n) => K (St.put { st with heap := upd st.heap b (some k) } d (some ⟨.int .i64, n⟩))
            | none => False
          | none => False
        | none => False
      | _, _ => False
    | op => match evP P st.val st.heap op with
      | some (.val v) => K (st.put d (some v))
      | some (.cond c v) => c ∧ K (st.put d (some v))
      | some (.new k) => bif st.used d then False else K ((st.new d k).put d (some (tagV k d)))
      | some (.newc c k) => bif st.used d then False else c ∧ K ((st.new d k).put d (some (tagV k d)))
      | none => False
    else False

def brV (b : Bool) (A B : Prop) : Prop :=
  match b with
  | true => A
  | false => B

theorem brV_iff {b : Bool} {A B : Prop} : brV b A B ↔ (b = true → A) ∧ (b = false → B) := by cases b <;> simp [brV]

/-- The slot is written to with what is no value. -/
def St.skip (st : St) (d : Option Nat) : St :=
  match d with
  | some d => st.put d (some ⟨.tup .unit, ()⟩)
  | none => st

def dstOf (ops : Array Oper) (j : Nat) : Option Nat :=
  match ops.toList[j]? with
  | some o => o.dst
  | none => none

/-- The operations of a region in the given order. -/
def regW (P : Program) (N : Nat) (ad : Nat → Bool) (ops : Array Oper) (bad : Nat → List Nat) : List Nat → (St → Prop) → St → Prop
  | [], K, st => K st
  | i :: r, K, st => match ops.toList[i]? with
    | none => regW P N ad ops bad r K st
    | some o => bif okOp (bad i) st.val o.op then match o.guard with
      | none => opW P N (ad i) o (regW P N ad ops bad r K) st
      | some (j, want) => match dstOf ops j with
        | some dj => match st.env dj with
          | some ⟨.bool, b⟩ => brV b
              (bif want then opW P N (ad i) o (regW P N ad ops bad r K) (st.put dj (some ⟨.bool, true⟩)) else regW P N ad ops bad r K ((st.put dj (some ⟨.bool, true⟩)).skip o.dst))
              (bif want then regW P N ad ops bad r K ((st.put dj (some ⟨.bool, false⟩)).skip o.dst) else opW P N (ad i) o (regW P N ad ops bad r K) (st.put dj (some ⟨.bool, false⟩)))
          | some ⟨.tup .unit, _⟩ => regW P N ad ops bad r K (st.skip o.dst)
          | _ => False
        | none => False
      else False

end Go.VM

namespace Go.VM
open Go Go.RowKit

section
variable {P : Program} {base : Nat} {w0 w : World} {F0 : Nat → Prop} {N : Nat} {st : St} {a : Act}

/-- The state says what is so. -/
def Ok (base : Nat) (w0 : World) (F0 : Nat → Prop) (N : Nat) (st : St) (a : Act) (w : World) : Prop :=
  a.tmps.size = N ∧ ∃ F ι, Sim base w0 F0 F ι st a w

theorem Sim.called {F : Nat → Prop} {ι : Nat → Option Ref} (h : Sim base w0 F0 F ι st a w) {w' : World} (hb : Below w.heap.size w w') {F' : Nat → Prop} (hF : ∀ b, F b → F' b) (hF' : ∀ b, F' b → b < w'.heap.size ∧ (F b ∨ w.heap.size ≤ b)) :
    Sim base w0 F0 F' ι st a w' := by
  have hblk : ∀ b, b < w.heap.size → w'.heap[b]? = w.heap[b]? := hb.block
  have hFb : ∀ b, F b → w'.heap[b]? = w.heap[b]? := fun b h' => hblk b (h.fsize b h')
  refine ⟨fun s v hv => vrep_mono hF (fun _ _ h => h) hFb (h.env s v hv), ?_, h.used, h.apart, fun b hb' => (hF' b hb').1, ?_, ?_, Nat.le_trans h.size hb.size, h.defers⟩
  · intro b k hk
    obtain ⟨r, hr, q⟩ := h.heap b k hk
    refine ⟨r, hr, ?_⟩
    cases k with
    | box t x =>
      obtain ⟨q1, q2, q3, q4, q5, cells, el, q6, q7⟩ := q
      have hlt := heap_lt q6
      exact ⟨q1, q2, q3, fun hf => by rcases (hF' _ hf).2 with h1 | h1; exact q4 h1; omega, q5, cells, el, (hblk _ hlt).trans q6, rep_mono hF (fun _ _ h => h) hFb _ _ _ q7⟩
    | arr t l =>
      obtain ⟨q0, q⟩ := q
      refine ⟨q0, ?_⟩
      cases l with
      | none => exact q
      | some l =>
        obtain ⟨q1, q2, q3, q4, q5, q6, cells, el, q7, q8, q9⟩ := q
        have hlt := heap_lt q7
        exact ⟨q1, q2, q3, q4, q5, fun hf => by rcases (hF' _ hf).2 with h1 | h1; exact q6 h1; omega, cells, el, (hblk _ hlt).trans q7, q8, fun i y hy => rep_mono hF (fun _ _ h => h) hFb _ _ _ (q9 i y hy)⟩
  · intro b hb'
    rcases (hF' b hb').2 with h1 | h1
    · exact h.fin b h1
    · exact .inr (Nat.le_trans h.size h1)
  · refine h.below.trans ⟨hb.os, hb.tape, hb.output, hb.size, fun k hk => hblk k (Nat.lt_of_lt_of_le hk h.size)⟩

theorem argV_ok {F F' : Nat → Prop} {ι : Nat → Option Ref} {hp : Nat → Option Blk} (hF : ∀ b, F b → F' b) (hh : Holds w F' ι hp) {pt : Ty} {v u : V} {x : Value} (hv : vrep w F ι v.t v.x x) (h : argV hp pt v = some u) : vrep w F' noRef u.t u.x x := by
  have key : ∀ pt, (match coe hp pt v.t v.x with
    | some x => bif valT pt && frozen pt then some (⟨pt, x⟩ : V) else none
    | none => none) = some u → vrep w F' noRef u.t u.x x := by
    intro pt h
    split at h <;> try (simp at h; done)
    rename_i y hy
    obtain ⟨hc, rfl⟩ := bif_some h
    simp only [Bool.and_eq_true] at hc
    obtain ⟨hval, hfr⟩ := hc
    have htags := coe_tags _ _ _ _ hy
    have hval' : valT v.t = true := by simp only [valT, htags.1, htags.2.2]; exact hval
    have hr := coe_rep hF hh _ _ _ _ _ (vrep_cells (valT_or hval') hv) hy
    have hr' := rep_frozen (ι' := noRef) _ _ _ hfr hr
    rcases valT_or hval with ha | hc
    · rw [vrep_agg ha]
      have ha' : isAggT v.t = true := by rw [htags.1]; exact ha
      rw [vrep_agg ha'] at hv
      obtain ⟨cs, rfl, _⟩ := hv
      exact ⟨cs, rfl, hr'⟩
    · rw [vrep_cell hc]
      have hc' : cellT v.t = true := by rw [htags.2.2]; exact hc
      rw [vrep_cell hc'] at hv
      rw [cell_cells hc' hv] at hr'; exact hr'
  unfold argV at h
  split at h
  · split at h <;> try (simp at h; done)
    rename_i c ht
    simp only [Option.some.injEq] at h; subst h
    obtain ⟨t, y⟩ := v
    simp only at ht; subst ht
    rw [vrep_cst] at hv ⊢; exact hv
  · exact key _ h

theorem argsV_ok {F F' : Nat → Prop} {ι : Nat → Option Ref} (hs : Sim base w0 F0 F ι st a w) {hp : Nat → Option Blk} (hF : ∀ b, F b → F' b) (hh : Holds w F' ι hp) :
    ∀ (xs : List Operand) (ts : List TypeId) (us : List V), argsV P st.val hp xs ts = some us → vreps w F' us (xs.map a.eval)
  | [], [], us, h => by simp only [argsV, Option.some.injEq] at h; subst h; trivial
  | x :: xs, t :: ts, us, h => by
    simp only [argsV] at h
    split at h <;> try (simp at h; done)
    split at h <;> try (simp at h; done)
    rename_i v hv
    split at h <;> try (simp at h; done)
    rename_i u hu
    split at h <;> try (simp at h; done)
    rename_i us' hus
    simp only [Option.some.injEq] at h; subst h
    exact ⟨argV_ok hF hh (hs.val hv) hu, argsV_ok hs hF hh xs ts us' hus⟩
  | [], _ :: _, _, h => by simp [argsV] at h
  | _ :: _, [], _, h => by simp [argsV] at h

theorem vrep_flat {w' : World} {F F' : Nat → Prop} {ι ι' : Nat → Option Ref} {t : Ty} {x : den t} {v : Value} (hf : flat t = true) (h : vrep w F ι t x v) : vrep w' F' ι' t x v :=
  vrep_lift (ok := flat) (fun a b h => by simpa [flat] using h) (fun c h => h) (fun t x cs ho h => rep_flat t x cs ho h) t x v hf h

theorem vrep_frozen {F : Nat → Prop} {ι ι' : Nat → Option Ref} {t : Ty} {x : den t} {v : Value} (hf : frozen t = true) (h : vrep w F ι t x v) : vrep w F ι' t x v :=
  vrep_lift (ok := frozen) (fun a b h => by simpa [frozen] using h) (fun c h => h) (fun t x cs ho h => rep_frozen t x cs ho h) t x v hf h

theorem vrep_lt {F : Nat → Prop} {ι : Nat → Option Ref} {t : Ty} {x : den t} {v : Value} (h : vrep w F ι t x v) : vrep w (fun k => F k ∧ k < w.heap.size) ι t x v :=
  vrep_lift (ok := fun _ => true) (fun _ _ _ => ⟨rfl, rfl⟩) (fun _ _ => rfl) (fun t x cs _ h => rep_lt t x cs h) t x v rfl h

theorem put_size {a : Act} {d : Option Nat} {v : Value} : (a.put d v).tmps.size = a.tmps.size := by cases d <;> simp [Act.put]

variable {next : Act → World → Prop} {Q : Exit → Act → World → Prop} {K : St → Prop}

/-- A block that was not there before becomes a local list. -/
theorem Sim.adopt {F : Nat → Prop} {ι : Nat → Option Ref} (h : Sim base w0 F0 F ι st a w) {w' : World} (hb : Below w.heap.size w w') {t : Ty} {l : Option (List (den t))} {r : Ref} {d : Nat} (hd : st.used d = false) (hfl : flat t = true)
    (hr : brep w' w.heap.size (fun k => k < w.heap.size) noRef r (.arr t l)) : Sim base w0 F0 F (upd ι d (some r)) (st.new d (.arr t l)) a w' := by
  have hnone : ι d = none := by
    cases e : ι d with
    | none => rfl
    | some r => have := h.used d r e; rw [hd] at this; simp at this
  have hι : ∀ b r', ι b = some r' → upd ι d (some r) b = some r' := by
    intro b r' e
    by_cases hb : b = d
    · subst hb; rw [hnone] at e; simp at e
    · rw [upd_other _ _ _ _ hb]; exact e
  have hblk : r.nil = false → w.heap.size ≤ r.blk := by
    intro hn
    obtain ⟨_, q⟩ := hr
    cases l with
    | none => simp only at q; rw [q] at hn; simp at hn
    | some l => exact q.2.2.2.2.1
  refine h.change (w' := w') (g := none) (b0 := d) (k0 := .arr t l) (r0 := r) (fun k hk _ => hb.block k hk) hb.os hb.tape hb.output hb.size (by simp) hι ?_ (upd_same _ _ _) ?_ (upd_same _ _ _) ?_
  · intro b r' hb
    rcases upd_some hb with ⟨rfl, _⟩ | ⟨hne, hb⟩
    · exact upd_same _ _ _
    · rw [upd_other _ _ _ _ hne]; exact h.used _ _ hb
  · obtain ⟨q0, q⟩ := hr
    refine ⟨q0, ?_⟩
    cases l with
    | none => exact q
    | some l =>
      obtain ⟨q1, q2, q3, q4, q5, q6, cells, el, q7, q8, q9⟩ := q
      exact ⟨q1, q2, q3, q4, Nat.le_trans h.size q5, fun hf => q6 (h.fsize _ hf), cells, el, q7, q8, fun i y hy => rep_flat _ _ _ hfl (q9 i y hy)⟩
  · intro b k' hne hb'
    rw [upd_other _ _ _ _ hne] at hb'
    refine ⟨hb', fun r' hr' hn => ⟨by simp, fun hn0 => ?_⟩⟩
    obtain ⟨r'', hr'', q⟩ := h.heap b k' hb'
    rw [hr'] at hr''; cases hr''
    have := brep_lt q hn
    have := hblk hn0
    omega

theorem frz_tags (b : Nat) (tl : Ty) (l : Option (List (den tl))) (t : Ty) (x : den t) : isAggT (frz b tl l t x).t = isAggT t ∧ cellT (frz b tl l t x).t = cellT t := by
  cases t with
  | own c => simp only [frz]; cases Nat.beq c b <;> exact ⟨rfl, rfl⟩
  | vw c => simp only [frz]; cases Nat.beq c b <;> exact ⟨rfl, rfl⟩
  | _ => exact ⟨rfl, rfl⟩

theorem frz_rep {w : World} {F F' : Nat → Prop} {ι : Nat → Option Ref} {b : Nat} {tl : Ty} {l : Option (List (den tl))} {r : Ref} (hF : ∀ k, F k → F' k) (hb : ι b = some r) (hr : rep w F' ι (.sl tl) l [r.val]) (hwd : r.nil = false → r.wd = width tl) :
    ∀ (t : Ty) (x : den t) (cs : List Value), rep w F ι t x cs → rep w F' ι (frz b tl l t x).t (frz b tl l t x).x cs := by
  have same : ∀ (t : Ty) (x : den t) (cs : List Value), rep w F ι t x cs → rep w F' ι t x cs := fun t x cs h => rep_mono hF (fun _ _ h => h) (fun _ _ => rfl) t x cs h
  intro t
  induction t with
  | own c =>
    intro x cs h
    cases e : Nat.beq c b
    · have e2 : frz b tl l (.own c) x = ⟨.own c, ()⟩ := by show (bif Nat.beq c b then _ else _) = _; rw [e]; rfl
      rw [e2]; exact same _ _ _ h
    · have e2 : frz b tl l (.own c) x = ⟨.sl tl, l⟩ := by show (bif Nat.beq c b then _ else _) = _; rw [e]; rfl
      rw [Nat.beq_eq] at e; subst e
      rw [e2]
      simp only [rep] at h
      obtain ⟨r', hr', rfl⟩ := h
      rw [hb] at hr'; cases hr'
      exact hr
  | vw c =>
    intro x cs h
    cases e : Nat.beq c b
    · have e2 : frz b tl l (.vw c) x = ⟨.vw c, x⟩ := by show (bif Nat.beq c b then _ else _) = _; rw [e]; rfl
      rw [e2]; exact same _ _ _ h
    · have e2 : frz b tl l (.vw c) x = ⟨.sl tl, slcS l (x : Int × Int).1 (x : Int × Int).2⟩ := by show (bif Nat.beq c b then _ else _) = _; rw [e]; rfl
      rw [Nat.beq_eq] at e; subst e
      rw [e2]
      simp only [rep] at h
      obtain ⟨r', hr', hn, h0, h1, h2, rfl⟩ := h
      rw [hb] at hr'; cases hr'
      exact rep_part hr hn (hwd hn) h0 h1 h2
  | pair a c iha ihb =>
    intro x cs h
    simp only [rep] at h
    obtain ⟨c1, c2, rfl, h1, h2⟩ := h
    simp only [frz, rep]
    exact ⟨c1, c2, rfl, iha _ _ h1, ihb _ _ h2⟩
  | agg c ih =>
    intro x cs h
    simp only [rep] at h
    simp only [frz, rep]
    exact ih _ _ h
  | _ => intro x cs h; exact same _ _ _ h



theorem frz_vrep {F : Nat → Prop} {ι : Nat → Option Ref} {F' : Nat → Prop} {b : Nat} {tl : Ty} {l : Option (List (den tl))} {r : Ref} (hF : ∀ k, F k → F' k) (hb : ι b = some r) (hr : rep w F' ι (.sl tl) l [r.val]) (hwd : r.nil = false → r.wd = width tl) {t : Ty} {x : den t} {v : Value} (h : vrep w F ι t x v) :
    vrep w F' ι (frz b tl l t x).t (frz b tl l t x).x v := by
  have same : vrep w F' ι t x v := vrep_mono hF (fun _ _ h => h) (fun _ _ => rfl) h
  have htag := frz_tags b tl l t x
  by_cases hv : valT t = true
  · rcases valT_or hv with h1 | h1
    · rw [vrep_agg (htag.1.trans h1)]
      rw [vrep_agg h1] at h
      obtain ⟨cs, rfl, h⟩ := h
      exact ⟨cs, rfl, frz_rep hF hb hr hwd _ _ _ h⟩
    · rw [vrep_cell (htag.2.trans h1)]
      rw [vrep_cell h1] at h
      exact frz_rep hF hb hr hwd _ _ _ h
  · cases t <;> first
      | exact same
      | exact absurd rfl hv
      | (simp [vrep, vrep1, isAggT, cellT] at h)

theorem Ok.freeze (h : Ok base w0 F0 N st a w) {b : Nat} {st' : St} (hf : st.freeze b = some st') : Ok base w0 F0 N st' a w := by
  obtain ⟨hN, F, ι, hs⟩ := h
  unfold St.freeze at hf
  split at hf <;> try (simp at hf; done)
  rename_i t l hb
  simp only [Option.some.injEq] at hf; subst hf
  obtain ⟨r, hr, hk⟩ := hs.heap _ _ hb
  have hk' := hk
  obtain ⟨q0, q⟩ := hk
  have hwd : r.nil = false → r.wd = width t := by
    intro hn
    cases l with
    | none => simp only at q; rw [q] at hn; simp at hn
    | some l => exact q.2.1
  let F' : Nat → Prop := fun k => F k ∨ (r.nil = false ∧ k = r.blk)
  have hF : ∀ k, F k → F' k := fun k h => .inl h
  have hrep : rep w F' ι (.sl t) l [r.val] := by
    cases l with
    | none => simp only at q; simp only [rep, Ref.val, q, if_true]
    | some l =>
      obtain ⟨q1, q2, q3, q4, q5, q6, cells, el, q7, q8, q9⟩ := q
      simp only [rep, Ref.val, q1, if_false, Bool.false_eq_true, q3]
      exact ⟨r.blk, r.off, r.cap, cells, el, (0, 0), rfl, .inr ⟨q1, rfl⟩, by omega, q7, fun i y hy => rep_mono hF (fun _ _ h => h) (fun _ _ => rfl) _ _ _ (q9 i y hy)⟩
  refine ⟨hN, F', ι, ⟨?_, ?_, hs.used, ?_, ?_, ?_, hs.below, hs.size, hs.defers⟩⟩
  · intro s v hv
    simp only [frzE] at hv
    split at hv <;> try (simp at hv; done)
    rename_i u hu
    simp only [Option.some.injEq] at hv; subst hv
    exact frz_vrep hF hr hrep hwd (hs.env _ _ hu)
  · intro c k hc
    simp only at hc
    cases e : Nat.beq c b <;> rw [e] at hc <;> simp only [cond_true, cond_false, reduceCtorEq] at hc
    have hne : c ≠ b := by rintro rfl; simp at e
    unfold frzB at hc
    split at hc <;> try (simp at hc; done)
    · rename_i u x hu
      simp only [Option.some.injEq] at hc; subst hc
      obtain ⟨s, hs', p⟩ := hs.heap _ _ hu
      obtain ⟨p1, p2, p3, p4, p5, cells, el, p6, p7⟩ := p
      have htag := frz_tags b t l u x
      refine ⟨s, hs', p1, p2, p3, ?_, by simp only [valT, htag.1, htag.2]; exact p5, cells, el, p6, frz_rep hF hr hrep hwd _ _ _ p7⟩
      rintro (h1 | ⟨hn, h1⟩)
      · exact p4 h1
      · exact hs.apart c b _ _ s r hne hu hb hs' hr p1 hn h1
    · rename_i u x hu
      simp only [Option.some.injEq] at hc; subst hc
      obtain ⟨s, hs', p0, p⟩ := hs.heap _ _ hu
      refine ⟨s, hs', p0, ?_⟩
      cases x with
      | none => exact p
      | some x =>
        obtain ⟨p1, p2, p3, p4, p5, p6, cells, el, p7, p8, p9⟩ := p
        refine ⟨p1, p2, p3, p4, p5, ?_, cells, el, p7, p8, fun i y hy => rep_mono hF (fun _ _ h => h) (fun _ _ => rfl) _ _ _ (p9 i y hy)⟩
        rintro (h1 | ⟨hn, h1⟩)
        · exact p6 h1
        · exact hs.apart c b _ _ s r hne hu hb hs' hr p1 hn h1
  · have aux : ∀ c k, (bif Nat.beq c b then none else frzB b t l (st.heap c)) = some k → ∃ k', st.heap c = some k' := by
      intro c k h
      cases e : Nat.beq c b <;> rw [e] at h <;> simp only [cond_true, cond_false, reduceCtorEq] at h
      cases e2 : st.heap c with
      | none => rw [e2] at h; simp [frzB] at h
      | some k' => exact ⟨k', rfl⟩
    intro c d k k' s s' hcd hc hd
    obtain ⟨k1, h1⟩ := aux c k hc
    obtain ⟨k2, h2⟩ := aux d k' hd
    exact hs.apart c d k1 k2 s s' hcd h1 h2
  · rintro k (h | ⟨hn, rfl⟩)
    · exact hs.fsize _ h
    · exact brep_lt hk' hn
  · rintro k (h | ⟨hn, rfl⟩)
    · exact hs.fin _ h
    · right
      cases l with
      | none => simp only at q; rw [q] at hn; simp at hn
      | some l => exact q.2.2.2.2.1

theorem opW_sound (hn : ∀ st a w, K st → Ok base w0 F0 N st a w → next a w) {ow : Bool} {o : Oper} (h : opW P N ow o K st) (hok : Ok base w0 F0 N st a w) : o.wp P a w next Q := by
  obtain ⟨hN, F, ι, hs⟩ := hok
  obtain ⟨dst, op, ty, pos, aft, grd⟩ := o
  unfold opW at h
  cases dst with
  | none =>
    simp only at h
    split at h <;> try exact h.elim
    rename_i t x v
    split at h <;> try exact h.elim
    rename_i ag n ht
    split at h <;> try exact h.elim
    rename_i vx hx
    split at h <;> try exact h.elim
    rename_i vv hv
    split at h <;> try exact h.elim
    rename_i b k hst
    obtain ⟨w', q1, q2⟩ := storeV_ok hs ht (hs.val hx) (hs.val hv) hst
    have hrun : (execOp a.eval ⟨none, .store t x v, ty, pos, aft, grd⟩).run P w = .ok .skip w' := by simp [execOp, q1]
    simp only [Oper.wp, hrun]
    exact hn _ _ _ h ⟨hN, F, ι, q2⟩
  | some d =>
    simp only at h
    cases hd : Nat.blt d N <;> rw [hd] at h
    · exact h.elim
    simp only [cond_true] at h
    replace hd : d < a.tmps.size := by rw [hN]; exact Nat.le_of_ble_eq_true hd
    have pure : ∀ r, evP P st.val st.heap op = some r → (match r with
      | .val v => K (st.put d (some v))
      | .cond c v => c ∧ K (st.put d (some v))
      | .new k => bif st.used d then False else K ((st.new d k).put d (some (tagV k d)))
      | .newc c k => bif st.used d then False else c ∧ K ((st.new d k).put d (some (tagV k d)))) → Oper.wp P ⟨some d, op, ty, pos, aft, grd⟩ a w next Q := by
      intro r he hK
      have hused : r.plain = false → st.used d = false := by
        intro hp
        cases r with
        | val v => simp [Res.plain] at hp
        | cond c v => simp [Res.plain] at hp
        | new k => cases e : st.used d; rfl; rw [e] at hK; exact hK.elim
        | newc c k => cases e : st.used d; rfl; rw [e] at hK; exact hK.elim
      have hr := evP_runs (o := ⟨some d, op, ty, pos, aft, grd⟩) hs he hused
      cases r with
      | val v =>
        obtain ⟨val, q1, q2⟩ := hr
        simp only [Oper.wp, q1]
        exact hn _ _ _ hK ⟨by rw [put_size]; exact hN, F, ι, hs.put hd q2⟩
      | cond c v =>
        obtain ⟨val, q1, q2⟩ := hr hK.1
        simp only [Oper.wp, q1]
        exact hn _ _ _ hK.2 ⟨by rw [put_size]; exact hN, F, ι, hs.put hd q2⟩
      | new k =>
        obtain ⟨val, w', ι', q1, q2, q3⟩ := hr
        rw [hused rfl] at hK
        simp only [Oper.wp, q1]
        exact hn _ _ _ hK ⟨by rw [put_size]; exact hN, F, ι', q2.put hd q3⟩
      | newc c k =>
        rw [hused rfl] at hK
        obtain ⟨val, w', ι', q1, q2, q3⟩ := hr hK.1
        simp only [Oper.wp, q1]
        exact hn _ _ _ hK.2 ⟨by rw [put_size]; exact hN, F, ι', q2.put hd q3⟩
    split at h
    · rename_i f args ts
      split at h <;> try exact h.elim
      rename_i fn _ hf
      cases ow with
      | true =>
        simp only [cond_true] at h
        split at h <;> try exact h.elim
        rename_i t ht
        split at h <;> try exact h.elim
        rename_i xs hxs
        cases hu : st.used d <;> rw [hu] at h
        case true => exact h.elim
        simp only [cond_false] at h
        have hfl : flat t = true := by
          unfold ownT at ht
          split at ht <;> try (simp at ht; done)
          obtain ⟨h1, rfl⟩ := bif_some ht; exact h1
        have hfv := hs.val hf
        rw [vrep_cst] at hfv
        obtain ⟨hc1, _, hc2⟩ := h
        have hrun : (execOp a.eval ⟨some d, .call ⟨.value f, args, ts⟩, ty, pos, aft, grd⟩).run P w = .ok (.enter fn (args.map a.eval)) w := by
          simp [execOp, resolve, hfv, Cst.val, Deferred.ofValue, invoke, hc1]
        simp only [Oper.wp, hrun]
        rw [Oper.upon_enter]
        have hargs : args.map a.eval = (args.toList.map a.eval).toArray := (map_arr _ _).symm
        rw [hargs]
        have hv := argsV_ok (P := P) hs (F' := fun k => k < w.heap.size) hs.fsize (hs.heap.holds hs.fsize) _ _ _ hxs
        refine (hc2 w _ _ (fun b h => h) hv).mono ?_
        rintro e w' ⟨r, l, rfl, hr, hK, hb⟩
        refine hn _ _ _ hK ⟨by rw [put_size]; exact hN, F, upd ι d (some r), ?_⟩
        refine (hs.adopt hb hu hfl hr).put hd ?_
        rw [vrep_cell rfl]
        exact ⟨r, upd_same _ _ _, rfl⟩
      | false =>
      simp only [cond_false] at h
      split at h <;> try exact h.elim
      rename_i rt hrt
      split at h <;> try exact h.elim
      rename_i xs hxs
      have hfv := hs.val hf
      rw [vrep_cst] at hfv
      have hfro : frozen rt = true := by
        unfold resT at hrt
        split at hrt <;> try (simp at hrt; done)
        obtain ⟨h1, rfl⟩ := bif_some hrt; exact h1
      obtain ⟨hc1, _, hc2⟩ := h
      have hrun : (execOp a.eval ⟨some d, .call ⟨.value f, args, ts⟩, ty, pos, aft, grd⟩).run P w = .ok (.enter fn (args.map a.eval)) w := by
        simp [execOp, resolve, hfv, Cst.val, Deferred.ofValue, invoke, hc1]
      simp only [Oper.wp, hrun]
      rw [Oper.upon_enter]
      have hargs : args.map a.eval = (args.toList.map a.eval).toArray := (map_arr _ _).symm
      rw [hargs]
      cases hfl : flat rt with
      | true =>
        rw [hfl] at hxs
        simp only [cond_true] at hxs
        have hv := argsV_ok (P := P) hs (F' := fun k => k < w.heap.size) hs.fsize (hs.heap.holds hs.fsize) _ _ _ hxs
        refine (hc2 w _ _ (fun b h => h) hv).mono ?_
        rintro e w' ⟨v, r, rfl, hr, hK, hb⟩
        refine hn _ _ _ hK ⟨by rw [put_size]; exact hN, F, ι, ?_⟩
        exact (hs.called hb (fun _ h => h) (fun b h => ⟨Nat.lt_of_lt_of_le (hs.fsize b h) hb.size, .inl h⟩)).put hd (vrep_flat hfl hr)
      | false =>
        rw [hfl] at hxs
        simp only [cond_false] at hxs
        have hv := argsV_ok (P := P) hs (F' := F) (fun _ h => h) noHeap_holds _ _ _ hxs
        refine (hc2 w F _ hs.fsize hv).mono ?_
        rintro e w' ⟨v, r, rfl, hr, hK, hb⟩
        refine hn _ _ _ hK ⟨by rw [put_size]; exact hN, fun k => (F k ∨ w.heap.size ≤ k) ∧ k < w'.heap.size, ι, ?_⟩
        exact (hs.called hb (fun b h => ⟨.inl h, Nat.lt_of_lt_of_le (hs.fsize b h) hb.size⟩) (fun b h => ⟨h.2, h.1⟩)).put hd (vrep_frozen hfro (vrep_lt hr))
    · rename_i args ts
      split at h <;> try exact h.elim
      rename_i s x t t1 hargs hts
      split at h <;> try exact h.elim
      rename_i vs hvs
      split at h <;> try exact h.elim
      rename_i vx hvx
      split at h <;> try exact h.elim
      rename_i b c k happ
      have e1 : args = #[s, x] := by rw [← Array.toArray_toList (xs := args), hargs]
      have e2 : ts = #[t, t1] := by rw [← Array.toArray_toList (xs := ts), hts]
      subst e1; subst e2
      cases hu : st.used d <;> rw [hu] at h
      case true => exact h.elim
      simp only [cond_false] at h
      have hc : c := by
        cases ow with
        | false => exact h.1
        | true =>
          simp only [cond_true] at h
          split at h
          · exact h.1
          · exact h.elim
      have main : ∃ r w' ι', (Builtin.append_ #[t, t1] ty #[a.eval s, a.eval x]).run P w = .ok r w' ∧ Sim base w0 F0 F ι' ((st.killO b).new d k) a w' ∧ vrep w' F ι' (.own d) () r := by
        unfold appendV at happ
        split at happ <;> try (simp at happ; done)
        rename_i z bytes he
        split at happ <;> try (simp at happ; done)
        rename_i ds ht1
        split at happ <;> try (simp at happ; done)
        rename_i ys hys
        obtain ⟨_, _, _, _, _, _, _, _, p1, _⟩ := elemV_ok he
        have hsrc := src_ok (P := P) hs.heap p1 (hs.val hvx) hys
        have hv := hs.val hvs
        split at happ
        · rename_i b' _
          split at happ <;> try (simp at happ; done)
          rename_i t' l0 hb
          split at happ <;> try (simp at happ; done)
          rename_i l hl
          simp only [Option.some.injEq, Prod.mk.injEq] at happ
          obtain ⟨rfl, rfl, rfl⟩ := happ
          obtain ⟨e, hl'⟩ := castT_some hl
          cases e
          cases hl'
          cases l0 with
          | some l => exact own_app hs he ht1 hu hb hv hsrc hc
          | none =>
            obtain ⟨r, hr, _, q⟩ := hs.heap _ _ hb
            rw [vrep_cell rfl] at hv; simp only [rep] at hv
            obtain ⟨r', hr', e⟩ := hv
            rw [hr] at hr'; cases hr'
            simp only [List.cons.injEq, and_true] at e
            simp only at q
            have e' : a.eval s = .slice none 0 0 := by rw [e]; simp [Ref.val, q]
            rw [e']
            exact nil_app (hs.kill b') he ht1 hu hsrc hc
        · simp only [Option.some.injEq, Prod.mk.injEq] at happ
          obtain ⟨rfl, rfl, rfl⟩ := happ
          rw [vrep_cst] at hv
          rw [hv]
          exact nil_app hs he ht1 hu hsrc hc
        · simp only [Option.some.injEq, Prod.mk.injEq] at happ
          obtain ⟨rfl, rfl, rfl⟩ := happ
          rw [vrep_cell rfl] at hv
          simp only [rep, List.cons.injEq, and_true] at hv
          rw [hv]
          exact nil_app hs he ht1 hu hsrc hc
        · simp at happ
      obtain ⟨r, w', ι', q1, q2, q3⟩ := main
      have hrun : (execOp a.eval ⟨some d, .call ⟨.builtin .append, #[s, x], #[t, t1]⟩, ty, pos, aft, grd⟩).run P w = .ok (.value r) w' := by
        simp [execOp, resolve, invoke, builtin, q1]
      simp only [Oper.wp, hrun]
      have hok1 : Ok base w0 F0 N (((st.killO b).new d k).put d (some ⟨.own d, ()⟩)) (a.put (some d) r) w' := ⟨by rw [put_size]; exact hN, F, ι', q2.put hd q3⟩
      cases ow with
      | false => exact hn _ _ _ h.2 hok1
      | true =>
        simp only [cond_true] at h
        split at h <;> try exact h.elim
        rename_i st2 hst2
        exact hn _ _ _ h.2 (hok1.freeze hst2)
    · rename_i args ts
      split at h <;> try exact h.elim
      rename_i s x t t1 ha hts
      split at h <;> try exact h.elim
      rename_i vs hvs
      split at h <;> try exact h.elim
      rename_i vx hvx
      split at h <;> try exact h.elim
      rename_i b k n hcp
      obtain ⟨w', q1, q2⟩ := copyV_ok (t1 := t1) (ty := ty) hs (hs.val hvs) (hs.val hvx) hcp
      have hrun : (execOp a.eval ⟨some d, .call ⟨.builtin .copy, args, ts⟩, ty, pos, aft, grd⟩).run P w = .ok (.value (.int .i64 n)) w' := by
        have e1 : args = #[s, x] := by rw [← Array.toArray_toList (xs := args), ha]
        have e2 : ts = #[t, t1] := by rw [← Array.toArray_toList (xs := ts), hts]
        subst e1 e2
        simp [execOp, resolve, invoke, builtin, q1]
      simp only [Oper.wp, hrun]
      exact hn _ _ _ h ⟨by rw [put_size]; exact hN, F, ι, q2.put hd (vrep_int.2 rfl)⟩
    · split at h
      · rename_i v he; exact pure _ he h
      · rename_i c v he; exact pure _ he h
      · rename_i k he; exact pure _ he h
      · rename_i c k he; exact pure _ he h
      · exact h.elim

end
end Go.VM

namespace Go.VM
open Go Go.RowKit

section
variable {P : Program} {base : Nat} {w0 w : World} {F0 : Nat → Prop} {N : Nat} {st : St} {a : Act}

theorem Sim.relabel {F : Nat → Prop} {ι : Nat → Option Ref} (h : Sim base w0 F0 F ι st a w) {d : Nat} {v : V} (hv : vrep w F ι v.t v.x (a.tmps.getD d undef)) : Sim base w0 F0 F ι (st.put d (some v)) a w := by
  refine { h with env := ?_, defers := h.defers }
  intro s u hu
  rcases upd_some hu with ⟨rfl, e⟩ | ⟨hs, e⟩
  · cases e; exact hv
  · exact h.env _ _ e

theorem Ok.relabel (h : Ok base w0 F0 N st a w) {d : Nat} {v u : V} (hu : st.env d = some u) (hv : ∀ F ι, vrep w F ι u.t u.x (a.tmps.getD d undef) → vrep w F ι v.t v.x (a.tmps.getD d undef)) : Ok base w0 F0 N (st.put d (some v)) a w := by
  obtain ⟨hN, F, ι, hs⟩ := h
  exact ⟨hN, F, ι, hs.relabel (hv F ι (hs.env d u hu))⟩

theorem Ok.skip (h : Ok base w0 F0 N st a w) (d : Option Nat) : Ok base w0 F0 N (st.skip d) (a.put d undef) w := by
  obtain ⟨hN, F, ι, hs⟩ := h
  refine ⟨by rw [put_size]; exact hN, F, ι, ?_⟩
  cases d with
  | none => exact hs
  | some d =>
    have hu : ∀ t, vrep t F ι (.tup .unit) () undef := fun t => ⟨#[], rfl, rfl⟩
    rcases Nat.lt_or_ge d a.tmps.size with hd | hd
    · exact hs.put hd (hu w)
    · have e : a.put (some d) undef = a := by
        simp only [Act.put]
        rw [Array.setIfInBounds, dif_neg (by omega)]
      rw [e]
      refine hs.relabel (d := d) (v := ⟨.tup .unit, ()⟩) ?_
      rw [Array.getD, dif_neg (by omega)]; exact hu w

variable {Q : Exit → Act → World → Prop}

theorem step_sound {ad : Nat → Bool} {ops : Array Oper} {bad : Nat → List Nat} {i : Nat} {r : List Nat} {K : St → Prop} {st : St} {a : Act} {w : World} (ih : ∀ st a w, K st → Ok base w0 F0 N st a w → wpOps P ops Q r a w)
    (h : regW P N ad ops bad [i] K st) (hok : Ok base w0 F0 N st a w) : wpOps P ops Q (i :: r) a w := by
    simp only [regW] at h
    simp only [wpOps]
    rw [Array.getElem?_toList] at h
    cases ho : ops[i]? with
    | none => rw [ho] at h; exact ih _ _ _ h hok
    | some o =>
      rw [ho] at h
      simp only at h ⊢
      cases hids : okOp (bad i) st.val o.op <;> rw [hids] at h
      · exact h.elim
      simp only [cond_true] at h
      have run : ∀ st a w, opW P N (ad i) o K st → Ok base w0 F0 N st a w → o.wp P a w (wpOps P ops Q r) Q := fun st a w h hok => opW_sound (fun st a w h hok => ih st a w h hok) h hok
      cases hg : o.guard with
      | none =>
        rw [hg] at h
        rw [if_pos (by simp [Region.wanted, hg])]
        exact .inl (run _ _ _ h hok)
      | some jw =>
        obtain ⟨j, want⟩ := jw
        rw [hg] at h
        simp only at h
        split at h <;> try exact h.elim
        rename_i dj hdj
        have hd : ((ops[j]?).bind (·.dst)) = some dj := by
          unfold dstOf at hdj
          rw [Array.getElem?_toList] at hdj
          cases e : ops[j]? with
          | none => rw [e] at hdj; simp at hdj
          | some o' => rw [e] at hdj; simpa using hdj
        have hy : ∀ b, a.tmps.getD dj undef = .bool b → yielded ops a.tmps j = some b := by
          intro b hb
          unfold yielded
          rw [hd]
          simp only [Option.bind_some]
          rw [Array.getD_eq_getD_getElem?] at hb
          cases e : a.tmps[dj]? with
          | none => rw [e] at hb; simp [undef] at hb
          | some v => rw [e] at hb; simp at hb; rw [hb]
        have hyu : a.tmps.getD dj undef = undef → yielded ops a.tmps j = none := by
          intro hb
          unfold yielded
          rw [hd]
          simp only [Option.bind_some]
          rw [Array.getD_eq_getD_getElem?] at hb
          cases e : a.tmps[dj]? with
          | none => rfl
          | some v => rw [e] at hb; simp at hb; rw [hb]; rfl
        split at h
        · rename_i b hb
          obtain ⟨hN, F, ι, hs⟩ := hok
          have hv := hs.env _ _ hb
          rw [vrep_bool] at hv
          have hyb := hy _ hv
          have hok' : Ok base w0 F0 N (st.put dj (some ⟨.bool, b⟩)) a w := ⟨hN, F, ι, hs.relabel (vrep_bool.2 hv)⟩
          cases b with
          | true =>
            simp only [brV] at h
            cases want with
            | true =>
              rw [if_pos (by simp [Region.wanted, hg, hyb])]
              exact .inl (run _ _ _ h hok')
            | false =>
              rw [if_neg (by simp [Region.wanted, hg, hyb])]
              exact ih _ _ _ h (hok'.skip _)
          | false =>
            simp only [brV] at h
            cases want with
            | true =>
              rw [if_neg (by simp [Region.wanted, hg, hyb])]
              exact ih _ _ _ h (hok'.skip _)
            | false =>
              rw [if_pos (by simp [Region.wanted, hg, hyb])]
              exact .inl (run _ _ _ h hok')
        · rename_i x hb
          have hok' := hok
          obtain ⟨hN, F, ι, hs⟩ := hok
          have hv := hs.env _ _ hb
          simp only [vrep] at hv
          obtain ⟨vs, hv, ht⟩ := hv
          simp only [trep] at ht
          have hvs : vs = #[] := by apply Array.ext'; simpa using ht
          subst hvs
          rw [if_neg (by simp [Region.wanted, hg, hyu hv])]
          exact ih _ _ _ h (hok'.skip _)
        · exact h.elim

theorem regW_sound {ad : Nat → Bool} {ops : Array Oper} {bad : Nat → List Nat} : ∀ (l : List Nat) (K : St → Prop) (st : St) (a : Act) (w : World), (∀ st a w, K st → Ok base w0 F0 N st a w → Q .normal a w) → regW P N ad ops bad l K st → Ok base w0 F0 N st a w →
    wpOps P ops Q l a w
  | [], K, st, a, w, hn, h, hok => hn _ _ _ h hok
  | i :: r, K, st, a, w, hn, h, hok => step_sound (bad := bad) (fun st a w h hok => regW_sound r K st a w hn h hok) h hok

end
end Go.VM

namespace Go.VM
open Go Go.RowKit

/-! What an operation gives hangs on its operands, and on the blocks that these name. -/

theorem coe_congr {hp hp' : Nat → Option Blk} : ∀ (t u : Ty) (x : den u), (∀ b, b ∈ ids u → hp b = hp' b) → coe hp t u x = coe hp' t u x := by
  intro t
  induction t with
  | pair a b iha ihb =>
    intro u x h
    rw [coe_pair, coe_pair]
    cases u with
    | pair a' b' =>
      simp only [coeP]
      rw [iha a' x.1 (fun b hb => h b (by simp [ids, hb])), ihb b' x.2 (fun b hb => h b (by simp [ids, hb]))]
    | _ => rfl
  | agg c ih =>
    intro u x h
    rw [coe_agg, coe_agg]
    cases u with
    | agg c' => exact ih c' x (fun b hb => h b (by simpa [ids] using hb))
    | _ => rfl
  | tup c ih =>
    intro u x h
    rw [coe_tup, coe_tup]
    cases u with
    | tup c' => exact ih c' x (fun b hb => h b (by simpa [ids] using hb))
    | _ => rfl
  | sl t _ =>
    intro u x h
    rw [coe_sl, coe_sl]
    cases u with
    | own b =>
      show coeB t (hp b) = coeB t (hp' b)
      rw [h b (by simp [ids])]
    | vw b =>
      show coeW t (hp b) _ _ = coeW t (hp' b) _ _
      rw [h b (by simp [ids])]
    | _ => rfl
  | _ => intro u x h; rfl

section
variable {P : Program} {g g' : Operand → Option V} {hp hp' : Nat → Option Blk}

def Agree (g : Operand → Option V) (hp hp' : Nat → Option Blk) (xs : List Operand) : Prop := ∀ x, x ∈ xs → ∀ v, g x = some v → ∀ b, b ∈ ids v.t → hp b = hp' b

theorem gather_congr : ∀ (l : List (Nat × Operand)), (∀ x, x ∈ l.map (·.2) → g x = g' x) → gather g l = gather g' l
  | [], _ => rfl
  | (i, x) :: l, h => by
    simp only [gather]
    rw [h x (by simp), gather_congr l (fun x hx => h x (by simp at hx ⊢; exact .inr hx))]

theorem sliceW_congr {t : TypeId} {v : V} {l h : Option V} (hv : ∀ b, b ∈ ids v.t → hp b = hp' b) : sliceW P hp t v l h = sliceW P hp' t v l h := by
  obtain ⟨u, x⟩ := v
  unfold sliceW
  cases P.underlying t with
  | none => rfl
  | some d =>
    cases d with
    | slice e =>
      simp only
      cases tinf P e with
      | none => rfl
      | some p =>
        obtain ⟨_, n⟩ := p
        cases u with
        | own b => simp only; rw [hv _ (by simp [ids])]
        | _ => rfl
    | _ => rfl

theorem optV_congr {x : Option Operand} (h : ∀ y, y ∈ x.toArray.toList → g y = g' y) : optV g x = optV g' x := by
  cases x with
  | none => rfl
  | some x => simp only [optV]; rw [h x (by simp)]

theorem loadV_congr {ag : Bool} {n : Nat} {v : V} (h : ∀ b, b ∈ ids v.t → hp b = hp' b) : loadV hp ag n v = loadV hp' ag n v := by
  obtain ⟨t, x⟩ := v
  cases t <;> first | rfl | (simp only [loadV]; rw [h _ (by simp [ids])])

theorem lenV_congr {t : TypeId} {v : V} (h : ∀ b, b ∈ ids v.t → hp b = hp' b) : lenV P hp t v = lenV P hp' t v := by
  obtain ⟨u, x⟩ := v
  unfold lenV
  cases P.underlying t with
  | none => rfl
  | some d =>
    cases d with
    | slice e =>
      cases u with
      | own b => simp only; rw [h _ (by simp [ids])]
      | cst c => cases c <;> rfl
      | _ => rfl
    | _ => rfl

theorem nilV_congr {v : V} (h : ∀ b, b ∈ ids v.t → hp b = hp' b) : nilV hp v = nilV hp' v := by
  obtain ⟨u, x⟩ := v
  cases u with
  | own b => simp only [nilV]; rw [h _ (by simp [ids])]
  | cst c => cases c <;> rfl
  | _ => rfl

theorem eqW_congr {t : TypeId} {v1 v2 : V} (h1 : ∀ b, b ∈ ids v1.t → hp b = hp' b) (h2 : ∀ b, b ∈ ids v2.t → hp b = hp' b) : eqW P hp t v1 v2 = eqW P hp' t v1 v2 := by
  unfold eqW
  rw [nilV_congr h1, nilV_congr h2]

theorem binV_congr {op : BinOp} {t : TypeId} {v1 v2 : V} (h1 : ∀ b, b ∈ ids v1.t → hp b = hp' b) (h2 : ∀ b, b ∈ ids v2.t → hp b = hp' b) : binV P hp op t v1 v2 = binV P hp' op t v1 v2 := by
  unfold binV
  split
  · rfl
  · rfl
  · split
    · rw [eqW_congr h1 h2]
    · rw [eqW_congr h1 h2]
    · rfl

theorem indexV_congr {n : Nat} {v1 v2 : V} (h : ∀ b, b ∈ ids v1.t → hp b = hp' b) : indexV hp n v1 v2 = indexV hp' n v1 v2 := by
  obtain ⟨t, x⟩ := v1
  obtain ⟨u, y⟩ := v2
  cases t <;> first | rfl | (cases u <;> first | rfl | (simp only [indexV]; rw [h _ (by simp [ids])]))

theorem evP_congr {op : Op} (hg : ∀ x, x ∈ op.operands.toList → g x = g' x) (hh : Agree g hp hp' op.operands.toList) : evP P g hp op = evP P g' hp' op := by
  cases op with
  | move x => simp only [evP]; rw [hg x (by simp [Op.operands])]
  | assign x => simp only [evP]; rw [hg x (by simp [Op.operands])]
  | pick c a b => simp only [evP]; rw [hg c (by simp [Op.operands]), hg a (by simp [Op.operands]), hg b (by simp [Op.operands])]
  | alloc e => rfl
  | box e x => simp only [evP]; rw [hg x (by simp [Op.operands])]
  | build t ps => simp only [evP]; rw [gather_congr ps.toList (fun x hx => hg x (by simpa [Op.operands] using hx))]
  | buildSlice t n ps => simp only [evP]; rw [gather_congr ps.toList (fun x hx => hg x (by simpa [Op.operands] using hx))]
  | load t x =>
    have hx : x ∈ (Op.load t x).operands.toList := by simp [Op.operands]
    simp only [evP]; rw [← hg x hx]
    cases e : g x with
    | none => rfl
    | some v =>
      have e2 : ∀ ag n, loadV hp ag n v = loadV hp' ag n v := fun ag n => loadV_congr (hh x hx v e)
      simp only [e2]
  | binOp o t x y t' =>
    have hx : x ∈ (Op.binOp o t x y t').operands.toList := by simp [Op.operands]
    have hy : y ∈ (Op.binOp o t x y t').operands.toList := by simp [Op.operands]
    simp only [evP]; rw [← hg x hx, ← hg y hy]
    cases e : g x with
    | none => rfl
    | some v =>
      cases e' : g y with
      | none => rfl
      | some u => exact binV_congr (hh x hx v e) (hh y hy u e')
  | unOp o t x => simp only [evP]; rw [hg x (by simp [Op.operands])]
  | convert s d x => simp only [evP]; rw [hg x (by simp [Op.operands])]
  | makeSlice t l c => simp only [evP]; rw [hg l (by simp [Op.operands]), hg c (by simp [Op.operands])]
  | slice t x lo hi mx =>
    cases mx with
    | some m => rfl
    | none =>
      simp only [evP]
      have hs : ∀ v, g' x = some v → ∀ l h, sliceW P hp t v l h = sliceW P hp' t v l h := fun v hv l h => sliceW_congr (hh x (by simp [Op.operands]) v (by rw [hg x (by simp [Op.operands])]; exact hv))
      rw [hg x (by simp [Op.operands]), optV_congr (x := lo) (fun y hy => hg y (by simp only [Op.operands]; simp at hy ⊢; exact .inr (.inl hy))), optV_congr (x := hi) (fun y hy => hg y (by simp only [Op.operands]; simp at hy ⊢; exact .inr (.inr hy)))]
      cases e : g' x with
      | none => rfl
      | some v => simp only [hs v e]
  | fieldAddr s x f => simp only [evP]; rw [hg x (by simp [Op.operands])]
  | field s x f => simp only [evP]; rw [hg x (by simp [Op.operands])]
  | indexAddr t x i =>
    have hx : x ∈ (Op.indexAddr t x i).operands.toList := by simp [Op.operands]
    have hi : i ∈ (Op.indexAddr t x i).operands.toList := by simp [Op.operands]
    simp only [evP]; rw [← hg x hx, ← hg i hi]
    cases e : g x with
    | none => rfl
    | some v =>
      cases e' : g i with
      | none => rfl
      | some u =>
        have e2 : ∀ n, indexV hp n v u = indexV hp' n v u := fun n => indexV_congr (hh x hx v e)
        simp only [e2]
  | index t x i => simp only [evP]; rw [hg x (by simp [Op.operands]), hg i (by simp [Op.operands])]
  | extract x i => simp only [evP]; rw [hg x (by simp [Op.operands])]
  | call c =>
    obtain ⟨cal, args, ts⟩ := c
    cases cal with
    | value f => rfl
    | invoke x m => rfl
    | builtin b =>
      have ho : (Op.call ⟨.builtin b, args, ts⟩).operands.toList = args.toList := by simp [Op.operands, Call.operands]
      rw [ho] at hg
      unfold Agree at hh
      rw [ho] at hh
      simp only [evP]
      generalize args.toList = l at hg hh
      generalize ts.toList = m
      unfold builtinV
      split
      · rename_i x t
        rw [← hg x (by simp)]
        cases e : g x with
        | none => rfl
        | some v => simp only; rw [lenV_congr (hh x (by simp) v e)]
      · rename_i x y
        rw [hg x (by simp), hg y (by simp)]
      · rename_i x y
        rw [hg x (by simp), hg y (by simp)]
      · rfl
  | _ => rfl

theorem argV_congr {pt : Ty} {v : V} (h : ∀ b, b ∈ ids v.t → hp b = hp' b) : argV hp pt v = argV hp' pt v := by
  unfold argV
  split
  · rfl
  · rw [coe_congr _ _ _ h]

theorem argsV_congr : ∀ (xs : List Operand) (ts : List TypeId), (∀ x, x ∈ xs → g x = g' x) → Agree g hp hp' xs → argsV P g hp xs ts = argsV P g' hp' xs ts
  | [], [], _, _ => rfl
  | [], _ :: _, _, _ => rfl
  | _ :: _, [], _, _ => rfl
  | x :: xs, t :: ts, hg, hh => by
    simp only [argsV]
    rw [← hg x (by simp)]
    cases e : g x with
    | none => rfl
    | some v =>
      have e2 : ∀ pt, argV hp pt v = argV hp' pt v := fun pt => argV_congr (hh x (by simp) v e)
      have e3 := argsV_congr xs ts (fun y hy => hg y (by simp [hy])) (fun y hy => hh y (by simp [hy]))
      simp only [e2, e3]

/-! One operation as an act on the state: a change with a condition, or a call. -/

inductive CallK where
  | val (f : FuncId) (xs : List V) (rt : Ty)
  | own (f : FuncId) (xs : List V) (t : Ty)

def CallK.wp (P : Program) (d : Nat) (Q : V → Option Blk → Prop) : CallK → Prop
  | .val f xs rt => callV P f xs rt fun r => Q ⟨rt, r⟩ none
  | .own f xs t => ownV P f xs t fun l => Q ⟨.own d, ()⟩ (some (.arr t l))

theorem CallK.mono {P : Program} {d : Nat} {Q Q' : V → Option Blk → Prop} {c : CallK} (h : c.wp P d Q) (hq : ∀ v k, Q v k → Q' v k) : c.wp P d Q' := by
  cases c with
  | val f xs rt => exact callV.mono h fun r hr => hq _ _ hr
  | own f xs t => exact ownV.mono h fun r hr => hq _ _ hr

theorem CallK.ex {P : Program} {d : Nat} {Q : V → Option Blk → Prop} {c : CallK} (h : c.wp P d Q) : ∃ v k, Q v k := by
  cases c with
  | val f xs rt =>
    have h : callV P f xs rt fun r => Q ⟨rt, r⟩ none := h
    obtain ⟨r, hr⟩ := h.ex
    exact ⟨_, _, hr⟩
  | own f xs t =>
    have h : ownV P f xs t fun l => Q ⟨.own d, ()⟩ (some (.arr t l)) := h
    obtain ⟨r, hr⟩ := h.ex
    exact ⟨_, _, hr⟩

inductive Deed where
  | put (c : Prop) (d : Option Nat) (v : V) (k : Option Blk)
  | call (c : CallK) (d : Nat)

def St.does (st : St) (d : Option Nat) (v : V) (k : Option Blk) : St :=
  match d with
  | none => st
  | some d => match k with
    | none => st.put d (some v)
    | some k => (st.new d k).put d (some v)

def Deed.wp (P : Program) (K : St → Prop) (st : St) : Deed → Prop
  | .put c d v k => c ∧ K (st.does d v k)
  | .call c d => c.wp P d fun v k => K (st.does (some d) v k)

def deedR (st : St) (d : Nat) : Res → Option Deed
  | .val v => some (.put True (some d) v none)
  | .cond c v => some (.put c (some d) v none)
  | .new k => bif st.used d then none else some (.put True (some d) (tagV k d) (some k))
  | .newc c k => bif st.used d then none else some (.put c (some d) (tagV k d) (some k))

/-- Operations that write nothing that is there. -/
def quiet : Op → Bool
  | .store _ _ _ => false
  | .call ⟨.builtin .append, _, _⟩ => false
  | .call ⟨.builtin .copy, _, _⟩ => false
  | _ => true
def isCall : Op → Bool
  | .call ⟨.value _, _, _⟩ => true
  | _ => false

def deed (P : Program) (N : Nat) (ow : Bool) (o : Oper) (st : St) : Option Deed :=
  match o.dst with
  | none => none
  | some d => bif Nat.blt d N then match o.op with
    | .call ⟨.value f, args, ts⟩ => match st.val f with
      | some ⟨.cst (.fn f), _⟩ => bif ow then match ownT P o.type with
        | some t => match argsV P st.val st.heap args.toList ts.toList with
          | some xs => bif st.used d then none else some (.call (.own f xs t) d)
          | none => none
        | none => none
        else match resT P o.type with
        | some rt => match argsV P st.val (bif flat rt then st.heap else noHeap) args.toList ts.toList with
          | some xs => some (.call (.val f xs rt) d)
          | none => none
        | none => none
      | _ => none
    | op => match evP P st.val st.heap op with
      | some r => deedR st d r
      | none => none
    else none

def Deed.wpO (P : Program) (K : St → Prop) (st : St) : Option Deed → Prop
  | some x => x.wp P K st
  | none => False

theorem opW_deed {N : Nat} {ow : Bool} {o : Oper} (hq : quiet o.op = true) (K : St → Prop) (st : St) : opW P N ow o K st ↔ Deed.wpO P K st (deed P N ow o st) := by
  obtain ⟨dst, op, ty, pos, aft, grd⟩ := o
  unfold opW deed
  cases dst with
  | none =>
    simp only
    cases op <;> first | exact Iff.rfl | (simp [quiet] at hq)
  | some d =>
    simp only
    cases Nat.blt d N with
    | false => exact Iff.rfl
    | true =>
      simp only [cond_true]
      have pure : (match evP P st.val st.heap op with
          | some (.val v) => K (st.put d (some v))
          | some (.cond c v) => c ∧ K (st.put d (some v))
          | some (.new k) => bif st.used d then False else K ((st.new d k).put d (some (tagV k d)))
          | some (.newc c k) => bif st.used d then False else c ∧ K ((st.new d k).put d (some (tagV k d)))
          | none => False) ↔ Deed.wpO P K st (match evP P st.val st.heap op with
          | some r => deedR st d r
          | none => none) := by
        cases evP P st.val st.heap op with
        | none => exact Iff.rfl
        | some r =>
          cases r with
          | val v => simp [deedR, Deed.wpO, Deed.wp, St.does]
          | cond c v => simp [deedR, Deed.wpO, Deed.wp, St.does]
          | new k => simp only [deedR]; cases st.used d <;> simp [Deed.wpO, Deed.wp, St.does]
          | newc c k => simp only [deedR]; cases st.used d <;> simp [Deed.wpO, Deed.wp, St.does]
      cases op with
      | call c =>
        obtain ⟨cal, args, ts⟩ := c
        cases cal with
        | value f =>
          simp only
          cases st.val f with
          | none => exact Iff.rfl
          | some v =>
            obtain ⟨t, x⟩ := v
            cases t with
            | cst c =>
              cases c with
              | fn f =>
                simp only
                cases ow with
                | true =>
                  simp only [cond_true]
                  cases ownT P ty with
                  | none => exact Iff.rfl
                  | some t =>
                    simp only
                    cases argsV P st.val st.heap args.toList ts.toList with
                    | none => exact Iff.rfl
                    | some xs =>
                      simp only
                      cases st.used d <;> exact Iff.rfl
                | false =>
                simp only [cond_false]
                cases resT P ty with
                | none => exact Iff.rfl
                | some rt =>
                  simp only
                  cases argsV P st.val (bif flat rt then st.heap else noHeap) args.toList ts.toList <;> exact Iff.rfl
              | _ => exact Iff.rfl
            | _ => exact Iff.rfl
        | invoke x m => exact pure
        | builtin b => cases b <;> first | exact pure | (simp [quiet] at hq)
      | _ => exact pure

end
end Go.VM

