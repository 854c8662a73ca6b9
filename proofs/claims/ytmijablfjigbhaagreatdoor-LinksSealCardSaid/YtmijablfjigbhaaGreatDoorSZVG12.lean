/- The soundness of Seq's walk -/
import Derived.Test.YtmijablfjigbhaaGreatDoorSZVG10
import Derived.Test.YtmijablfjigbhaaGreatDoorSZVG11
import Derived.Tactics
import Derived.Tactics2
import Derived.KernelRfl
namespace Go.Proofs.YtmijablfjigbhaaGreatDoor
open Go.RowKit
section
variable {P : Program} {ops : Array Oper} {md : Region.Mode}
def qi (ops : Array Oper) (i : Nat) : Option Tmp := (ops[i]?).bind (·.dst)
def qA (ops : Array Oper) (a : Act) (f : Nat → Option Value) : Nat → Act
 | 0 => a
 | k + 1 => match f k with
  | some v => (qA ops a f k).put (qi ops k) v
  | none => qA ops a f k
theorem qh {a : Act} {f g : Nat → Option Value} : ∀ {m : Nat}, (∀ j, j < m → f j = g j) → qA ops a f m = qA ops a g m
 | 0, _ => rfl
 | m + 1, h => by
  simp only [qA]; rw [h m (by omega), qh (m := m) fun j hj => h j (by omega)]
theorem nH {a : Act} {f : Nat → Option Value} {i : Nat} {v : Value} (hd : ∀ j k t, qi ops j = some t → qi ops k = some t → j = k) (hf : f i = none) :
  ∀ {m : Nat}, i < m → (qA ops a f m).put (qi ops i) v = qA ops a (fun j => if j = i then some v else f j) m
 | 0, h => absurd h (by omega)
 | m + 1, h => by
  by_cases hi : i = m
  ·subst hi; simp only [qA, hf, if_pos]; rw [qh (f := f) (g := fun j => if j = i then some v else f j) (m := i) fun j hj => by simp [Nat.ne_of_lt hj]]
  ·have ih := nH (a := a) (v := v) hd hf (m := m) (by omega); simp only [qA, if_neg (Ne.symm hi)]
   cases f m with
   | none => exact ih
   | some u =>
    simp only; rw [Act.put_comm _ u v, ih]; intro d h1 h2; exact hi (hd _ _ _ h2 h1)
theorem put_size (a : Act) (d : Option Tmp) (v : Value) : (a.put d v).tmps.size = a.tmps.size := by
 cases d <;> simp [Act.put]
theorem lay_size (a : Act) (f : Nat → Option Value) : ∀ m, (qA ops a f m).tmps.size = a.tmps.size
 | 0 => rfl
 | m + 1 => by
  simp only [qA]
  cases f m with
  | none => exact lay_size a f m
  | some u => exact (put_size _ _ _).trans (lay_size a f m)
theorem NI {a : Act} {f g : Nat → Option Value} {t : Tmp} : ∀ {m : Nat}, (∀ j, j < m → f j = g j ∨ qi ops j ≠ some t) → (qA ops a f m).tmps[t]? = (qA ops a g m).tmps[t]?
 | 0, _ => rfl
 | m + 1, h => by
  have ih := NI (a := a) (f := f) (g := g) (t := t) (m := m) fun j hj => h j (by omega)
  have hs := (lay_size (ops := ops) a f m).trans (lay_size (ops := ops) a g m).symm
  have key : ∀ (x : Act) (u : Value), qi ops m ≠ some t → (x.put (qi ops m) u).tmps[t]? = x.tmps[t]? := by
   intro x u hne
   cases hd : qi ops m with
   | none => rfl
   | some d => simp [Act.put, Array.getElem?_setIfInBounds_ne (show d ≠ t by intro e; subst e; exact hne hd)]
  simp only [qA]
  rcases h m (by omega) with he | hne
  ·rw [he]
   cases g m with
   | none => exact ih
   | some u =>
    simp only
    by_cases hdt : qi ops m = some t
    ·rw [hdt]
     simp [Act.put, Array.getElem?_setIfInBounds, hs]
    ·rw [key _ _ hdt, key _ _ hdt, ih]
  ·have e1 : (match f m with | some v => (qA ops a f m).put (qi ops m) v | none => qA ops a f m).tmps[t]? = (qA ops a f m).tmps[t]? := by cases f m with | none => rfl | some u => exact key _ _ hne
   have e2 : (match g m with | some v => (qA ops a g m).put (qi ops m) v | none => qA ops a g m).tmps[t]? = (qA ops a g m).tmps[t]? := by cases g m with | none => rfl | some u => exact key _ _ hne
   exact e1.trans (ih.trans e2.symm)
theorem VL (o : Oper) (hs : ∀ cs b, o.op ≠ .select cs b) {x y : Act}
  (h : ∀ t, t ∈ o.looksAt ops → x.tmps[t]? = y.tmps[t]?) : execOp x.eval o = execOp y.eval o ∧ Region.wanted o (yielded ops x.tmps) = Region.wanted o (yielded ops y.tmps) := by
 constructor
 ·refine execOp_congr o hs fun z hz => ?_
  cases z with
  | tmp t =>
   have ht : t ∈ o.looksAt ops := List.mem_append_left _ (List.mem_filterMap.2 ⟨.tmp t, by simpa using hz, rfl⟩); have := h t ht; simp only [Act.eval, Array.getD_eq_getD_getElem?, this]
  | _ => rfl
 ·unfold Region.wanted
  cases hg : o.guard with
  | none => rfl
  | some gw =>
   obtain ⟨k, want⟩ := gw
   have : yielded ops x.tmps k = yielded ops y.tmps k := by
    unfold yielded
    cases ht : (ops[k]?).bind (·.dst) with
    | none => rfl
    | some t =>
     have e := h t (by simp [Oper.looksAt, hg, ht])
     simp [e]
   simp only [this]
theorem ZJ {a : Act} {f : Nat → Option Value} {i : Nat} : ∀ {m : Nat}, i ≤ m → qA ops a (fun j => if j < i then f j else none) m = qA ops a f i
 | 0, h => by obtain rfl : i = 0 := by omega
              rfl
 | m + 1, h => by
  by_cases hi : i = m + 1
  ·subst hi; exact qh fun j hj => by simp [hj]
  ·simp only [qA, if_neg (show ¬ m < i by omega)]; exact ZJ (m := m) (by omega)
def pG (P : Program) (w : World) (v : Value) : Result Next → Prop
 | .ok (.value u) w' => w' = w ∧ u = v
 | .ok .skip w' => w' = w ∧ v = undef
 | .ok (.enter f args) w' => w' = w ∧ Calls P f args w (fun e w'' => e = .returned v ∧ Below w.heap.size w w'')
 | _ => False
def XY (U : World → Value → Result Next → Prop) (P : Program) (ops : Array Oper) (C : World → Prop) (al : Nat → Option Obj) (K : Act → Prop) : Nat → List Oper → Act → Prop
 | _, [], a => K a
 | i, o :: rest, a => match al i with
  | some obj => (∀ w, (execOp a.eval o).run P w = .ok (.value (.pointer (some ⟨w.heap.size, 0, none⟩))) (w.alloc obj)) ∧ XY U P ops C al K (i + 1) rest a
  | none => if Region.wanted o (yielded ops a.tmps) = true then ∃ v, (∀ w, C w → U w v ((execOp a.eval o).run P w)) ∧ XY U P ops C al K (i + 1) rest (a.put o.dst v) else XY U P ops C al K (i + 1) rest (a.put o.dst undef)
def iI (U : World → Value → Result Next → Prop) (P : Program) (ops : Array Oper) (C : World → Prop) (al : Nat → Option Obj) (j : Nat) (o : Oper) (a : Act) (x : Option Value) : Prop :=
 (∃ obj, al j = some obj ∧ x = none ∧ ∀ w, (execOp a.eval o).run P w = .ok (.value (.pointer (some ⟨w.heap.size, 0, none⟩))) (w.alloc obj)) ∨
 (al j = none ∧ ∃ v, x = some v ∧ ((Region.wanted o (yielded ops a.tmps) = true ∧ ∀ w, C w → U w v ((execOp a.eval o).run P w)) ∨ (Region.wanted o (yielded ops a.tmps) = false ∧ v = undef)))
theorem BH {U : World → Value → Result Next → Prop} {C : World → Prop} {al : Nat → Option Obj} {K : Act → Prop} {a : Act} : ∀ (l : List Oper) (i : Nat) (KC : Nat → Option Value), (∀ j, j < l.length → l[j]? = ops[i + j]?) → XY U P ops C al K i l (qA ops a KC i) →
  ∃ lv : Nat → Option Value, (∀ j, j < i → lv j = KC j) ∧ (∀ j, i ≤ j → j < i + l.length → ∀ o, ops[j]? = some o → iI U P ops C al j o (qA ops a lv j) (lv j)) ∧ K (qA ops a lv (i + l.length))
 | [], i, KC, _, h => ⟨KC, fun _ _ => rfl, fun j h1 h2 => absurd h2 (by simp; omega), h⟩
 | o :: rest, i, KC, hl, h => by
  have h0 : ops[i]? = some o := by simpa using (hl 0 (by simp)).symm
  have hd : qi ops i = o.dst := by simp [qi, h0]
  have hl' : ∀ j, j < rest.length → rest[j]? = ops[i + 1 + j]? := fun j hj => by
   have := hl (j + 1) (by simpa using hj)
   simpa [Nat.add_assoc, Nat.add_comm 1 j] using this
  have go : ∀ (x : Option Value), iI U P ops C al i o (qA ops a KC i) x → XY U P ops C al K (i + 1) rest (qA ops a (fun j => if j = i then x else KC j) (i + 1)) →
    ∃ lv : Nat → Option Value, (∀ j, j < i → lv j = KC j) ∧ (∀ j, i ≤ j → j < i + (o :: rest).length → ∀ o', ops[j]? = some o' → iI U P ops C al j o' (qA ops a lv j) (lv j)) ∧ K (qA ops a lv (i + (o :: rest).length)) := by
   intro x hx hr; obtain ⟨lv, h1, h2, h3⟩ := BH rest (i + 1) _ hl' hr; have hi : lv i = x := by rw [h1 i (by omega)]; simp
   have hlt : ∀ j, j < i → lv j = KC j := fun j hj => by rw [h1 j (by omega)]; simp [Nat.ne_of_lt hj]
   refine ⟨lv, hlt, ?_, ?_⟩
   ·intro j hj1 hj2 o' ho'
    by_cases hji : j = i
    ·subst hji; rw [h0] at ho'; injection ho' with ho'
     subst ho'; rw [qh (f := lv) (g := KC) (m := j) hlt, hi]; exact hx
    ·exact h2 j (by omega) (by simp at hj2; omega) o' ho'
   ·rw [show i + (o :: rest).length = i + 1 + rest.length by simp; omega]; exact h3
  have hpre : qA ops a (fun j => if j = i then (none : Option Value) else KC j) i = qA ops a KC i := qh fun j hj => by simp [Nat.ne_of_lt hj]
  have hpre' : ∀ v, qA ops a (fun j => if j = i then some v else KC j) (i + 1) = (qA ops a KC i).put o.dst v := fun v => by
   simp only [qA, if_pos, hd]; rw [qh (f := fun j => if j = i then some v else KC j) (g := KC) (m := i) fun j hj => by simp [Nat.ne_of_lt hj]]
  unfold XY at h
  cases ha : al i with
  | some obj =>
   rw [ha] at h; refine go none (.inl ⟨obj, ha, rfl, h.1⟩) ?_; simp only [qA, if_pos]; rw [hpre]; exact h.2
  | none =>
   rw [ha] at h
   by_cases hw : Region.wanted o (yielded ops (qA ops a KC i).tmps) = true
   ·simp only [hw, if_true] at h; obtain ⟨v, h1, h2⟩ := h; exact go (some v) (.inr ⟨ha, v, rfl, .inl ⟨hw, h1⟩⟩) (by rw [hpre']; exact h2)
   ·simp only [hw] at h; exact go (some undef) (.inr ⟨ha, undef, rfl, .inr ⟨by simpa using hw, rfl⟩⟩) (by rw [hpre']; exact h)
def left (L : Array Bool) : Nat → Nat
 | 0 => 0
 | k + 1 => left L k + if L.getD k true = true then 0 else 1
theorem QT {L : Array Bool} {i : Nat} (h : L.getD i true = false) : ∀ {k : Nat}, i < k → left (L.setIfInBounds i true) k + 1 = left L k
 | 0, hk => absurd hk (by omega)
 | k + 1, hk => by
  have hi : i < L.size := by
   rcases Nat.lt_or_ge i L.size with h' | h'
   ·exact h'
   ·simp [Array.getElem?_eq_none h'] at h
  by_cases hik : i = k
  ·subst hik
   have e : ∀ n, n ≤ i → left (L.setIfInBounds i true) n = left L n := by
    intro n
    induction n with
    | zero => intro _; rfl
    | succ n ih => intro hn; simp only [left]; rw [ih (by omega), getD_set_ne true (by omega)]
   simp only [left]; rw [e i (Nat.le_refl _), h]
   simp [hi]
  ·have ih := QT (L := L) h (k := k) (by omega); simp only [left]; rw [getD_set_ne true hik]; omega
theorem PL {L : Array Bool} : ∀ {k : Nat}, (∀ j, j < k → L.getD j true = true) → left L k = 0
 | 0, _ => rfl
 | k + 1, h => by simp only [left]; rw [PL (k := k) fun j hj => h j (by omega), h k (by omega)]; simp
theorem Qq {L : Array Bool} {m : Nat} (h1 : ∀ j, j < m → L.getD j true = true) : ∀ {k : Nat}, (∀ j, m ≤ j → j < m + k → L.getD j true = false) → left L (m + k) = k
 | 0, _ => PL h1
 | k + 1, h => by
  show left L (m + k) + (if L.getD (m + k) true = true then 0 else 1) = _
  rw [Qq h1 (k := k) fun j hj hk => h j hj (by omega), h (m + k) (by omega) (by omega)]
  simp
theorem yP {L : Array Bool} {i : Nat} (h : L.getD i true = false) {k : Nat} (hk : i < k) : 0 < left L k := by
 have := QT h hk; omega
def zN (o : Oper) : Bool := o.guard.isNone && match o.op with
 | .move _ | .extract _ _ => true
 | _ => false
theorem VH {o : Oper} (h : zN o = true) {e : Operand → Value} {w0 w : World} {v : Value} (hr : (execOp e o).run P w0 = .ok (.value v) w0) : (execOp e o).run P w = .ok (.value v) w := by
 unfold zN at h; simp only [Bool.and_eq_true] at h; obtain ⟨_, h⟩ := h; unfold execOp at *
 split at h
 ·rename_i x hx
  simp only [hx] at *
  simpa using hr
 ·rename_i t i hx
  simp only [hx] at *; unfold Instr.extract at *
  cases he : e t with
  | tuple vs =>
   simp only [he] at *
   cases hi : vs[i]? with
   | none => simp [hi] at hr
   | some u => simp only [hi] at *; simpa using hr
  | _ => simp [he] at hr
 ·cases h
def xN (md : Region.Mode) (ops : Array Oper) (m : Nat) (al : Nat → Option Obj) : Bool :=
 Region.noSelect ops && decide (m ≤ ops.size) &&
 ((List.range ops.size).all fun i => match ops[i]? with
   | none => false
   | some o => (o.after.all fun e => !Region.binds md e || decide (e.on < i)) &&
     (if i < m then ((List.range ops.size).all fun j => match qi ops j with
         | none => true
         | some t => !(o.looksAt ops).contains t || (decide (j < i) && (al j).isNone && o.after.any fun e => Region.binds md e && e.on == j)) && ((al i).isNone || o.guard.isNone)
       else (al i).isNone && !zN o && (List.range i).all fun j => (o.after.any fun e => Region.binds md e && e.on == j) || (((ops[j]?).map zN).getD false && match qi ops j with | none => true | some t => !(o.looksAt ops).contains t))) &&
 ((List.range ops.size).all fun i => (List.range ops.size).all fun j => i == j || match qi ops i, qi ops j with
   | some x, some y => x != y
   | _, _ => true)
structure TE (md : Region.Mode) (ops : Array Oper) (m : Nat) (al : Nat → Option Obj) : Prop where
 sel : ∀ (i : Nat) (o : Oper) cs b, ops[i]? = some o → o.op ≠ .select cs b
 le : m ≤ ops.size
 back : ∀ (i : Nat) (o : Oper), ops[i]? = some o → ∀ e ∈ o.after, Region.binds md e = true → e.on < i
 reads : ∀ (i : Nat) (o : Oper), ops[i]? = some o → i < m → ∀ j t, qi ops j = some t → t ∈ o.looksAt ops → j < i ∧ al j = none ∧ ∃ e ∈ o.after, Region.binds md e = true ∧ e.on = j
 plain : ∀ (i : Nat) (o : Oper), ops[i]? = some o → i < m → al i ≠ none → o.guard = none
 late : ∀ (i : Nat) (o : Oper), ops[i]? = some o → m ≤ i → al i = none ∧ zN o = false ∧ ∀ j, j < i → (∃ e ∈ o.after, Region.binds md e = true ∧ e.on = j) ∨ (∃ oj, ops[j]? = some oj ∧ zN oj = true) ∧ ∀ t, qi ops j = some t → t ∉ o.looksAt ops
 apart : ∀ j k t, qi ops j = some t → qi ops k = some t → j = k
theorem kJ {j : Nat} {t : Tmp} (h : qi ops j = some t) : j < ops.size := by
 rcases Nat.lt_or_ge j ops.size with h' | h'
 ·exact h'
 ·simp [qi, Array.getElem?_eq_none h'] at h
theorem mG {m : Nat} {al : Nat → Option Obj} (h : xN md ops m al = true) : TE md ops m al := by
 unfold xN at h; simp only [Bool.and_eq_true, decide_eq_true_eq, List.all_eq_true, List.mem_range] at h; obtain ⟨⟨⟨h1, h2⟩, h3⟩, h4⟩ := h; have lt : ∀ i o, ops[i]? = some o → i < ops.size := fun i o ho => (Array.getElem?_eq_some_iff.1 ho).1
 refine ⟨fun i o cs b ho => Region.noSelect_spec h1 i o cs b ho, h2, ?_, ?_, ?_, ?_, ?_⟩
 ·intro i o ho e he hb; have := h3 i (lt i o ho); simp only [ho, Bool.and_eq_true] at this; have := Array.all_eq_true_iff_forall_mem.1 this.1 e he
  simpa [hb] using this
 ·intro i o ho hi j t hd ht; have := h3 i (lt i o ho); simp only [ho, Bool.and_eq_true, if_pos hi] at this; have := (List.all_eq_true.1 this.2.1) j (List.mem_range.2 (kJ hd)); simp only [hd] at this; have hc : (o.looksAt ops).contains t = true := by simpa using ht
  simp only [hc, Bool.not_true, Bool.false_or, Bool.and_eq_true, decide_eq_true_eq, Option.isNone_iff_eq_none] at this; obtain ⟨⟨a1, a2⟩, a3⟩ := this; rw [Array.any_eq_true'] at a3; obtain ⟨e, he, hb⟩ := a3; simp only [Bool.and_eq_true, beq_iff_eq] at hb; exact ⟨a1, a2, e, he, hb.1, hb.2⟩
 ·intro i o ho hi ha; have := h3 i (lt i o ho); simp only [ho, Bool.and_eq_true, if_pos hi, Bool.or_eq_true, Option.isNone_iff_eq_none] at this; exact this.2.2.resolve_left ha
 ·intro i o ho hi; have := h3 i (lt i o ho); simp only [ho, Bool.and_eq_true, if_neg (show ¬ i < m by omega), Option.isNone_iff_eq_none, List.all_eq_true, List.mem_range] at this; refine ⟨this.2.1.1, by simpa using this.2.1.2, fun j hj => ?_⟩; have := this.2.2 j hj; simp only [Bool.or_eq_true, Bool.and_eq_true] at this
  rcases this with this | ⟨hp, hl⟩
  ·rw [Array.any_eq_true'] at this; obtain ⟨e, he, hb⟩ := this; simp only [Bool.and_eq_true, beq_iff_eq] at hb; exact .inl ⟨e, he, hb.1, hb.2⟩
  ·right
   constructor
   ·cases hj' : ops[j]? with
    | none => simp [hj'] at hp
    | some oj => exact ⟨oj, rfl, by simpa [hj'] using hp⟩
   ·intro t ht; simp only [ht] at hl
    simpa using hl
 ·intro j k t hj hk; have := h4 j (kJ hj) k (kJ hk); simp only [hj, hk, Bool.or_eq_true, beq_iff_eq] at this
  rcases this with h | h
  ·exact h
  ·simp at h
theorem jQ {L : Array Bool} {j : Nat} (h : L.getD j false = true) : L.getD j true = true := by
 rcases Nat.lt_or_ge j L.size with h' | h'
 ·simpa [h'] using h
 ·simp [Array.getElem?_eq_none h'] at h
theorem zo {L : Array Bool} {j : Nat} (hj : j < L.size) (h : L.getD j true = true) : L.getD j false = true := by simpa [hj] using h
theorem Zz {L : Array Bool} {i : Nat} (h : i < L.size) : (L.setIfInBounds i true).getD i true = true := by simp [h]
theorem dS {Q : Exit → Act → World → Prop} {m : Nat} {al : Nat → Option Obj} (hF : TE md ops m al) : ∀ (l : List Oper) (k : Nat) (L : Array Bool) (a : Act) (w : World), (∀ j, j < l.length → l[j]? = ops[k + j]?) →
  k + l.length = ops.size → m ≤ k → (∀ j, j < k → L.getD j false = true) → (∀ j, k ≤ j → j < ops.size → L.getD j true = false) → wpList P ops Q l a w → wpAny P md ops Q l.length L a w
 | [], k, L, a, w, _, hk, _, h1, _, h => by
  refine ⟨?_, h⟩; rw [List.eq_nil_iff_forall_not_mem]; intro i hi; obtain ⟨hu, o, ho, _⟩ := mem_ready.1 hi; have := (Array.getElem?_eq_some_iff.1 ho).1
  simp at hk
  rw [jQ (h1 i (by omega))] at hu
  cases hu
 | o :: rest, k, L, a, w, hl, hk, hm, h1, h2, h => by
  have h0 : ops[k]? = some o := by simpa using (hl 0 (by simp)).symm
  have hkn : k < ops.size := by simp at hk; omega
  have fC : k ∈ Region.ready md ops L := mem_ready.2 ⟨h2 k (Nat.le_refl _) hkn, o, h0, fun e he hb => h1 _ (hF.back k o h0 e he hb)⟩; refine ⟨fun h' => (by rw [h'] at fC; cases fC), fun i hi => ?_⟩; obtain ⟨hu, oi, hoi, hall⟩ := mem_ready.1 hi; have hin := (Array.getElem?_eq_some_iff.1 hoi).1
  have hik : k ≤ i := by
   rcases Nat.lt_or_ge i k with h' | h'
   ·rw [jQ (h1 i h')] at hu; cases hu
   ·exact h'
  have hki : i = k := by
   rcases Nat.lt_or_ge k i with h' | h'
   ·rcases (hF.late i oi hoi (by omega)).2.2 k h' with ⟨e, he, hb, hon⟩ | ⟨⟨ok, hok, hp⟩, _⟩
    ·have := hall e he hb; rw [hon] at this; have := jQ this; rw [h2 k (Nat.le_refl _) hkn] at this
     cases this
    ·rw [h0] at hok
     cases hok
     rw [(hF.late k o h0 hm).2.1] at hp
     cases hp
   ·omega
  subst hki
  have hL : i < L.size := by
   rcases Nat.lt_or_ge i L.size with h' | h'
   ·exact h'
   ·simp [Array.getElem?_eq_none h'] at hu
  have go : ∀ a' w', wpList P ops Q rest a' w' → wpAny P md ops Q rest.length (L.setIfInBounds i true) a' w' := fun a' w' h' =>
   dS hF rest (i + 1) _ a' w' (fun j hj => by
    have := hl (j + 1) (by simpa using hj)
    simpa [Nat.add_assoc, Nat.add_comm 1 j] using this) (by simp at hk; omega) (by omega)
    (fun j hj => by
     by_cases hji : j = i
     ·subst hji; simp [hL]
     ·exact getD_set_true (h1 j (by omega)))
    (fun j hj hj2 => by rw [getD_set_ne true (by omega)]; exact h2 j (by omega) hj2) h'
  have hw : wpOp P ops Q i (wpList P ops Q rest) a w := by
   unfold wpOp; simp only [h0]; exact h
  exact wpOp_mono (fun a' w' h' => go a' w' h') hw
def Zo (al : Nat → Option Obj) (lv : Nat → Option Value) (L : Array Bool) (bs : Nat → Nat) (j : Nat) : Option Value :=
 if L.getD j true = true then (if (al j).isSome then some (.pointer (some ⟨bs j, 0, none⟩)) else lv j) else none
structure Born (al : Nat → Option Obj) (m N : Nat) (L : Array Bool) (bs : Nat → Nat) (w : World) : Prop where
 at_ : ∀ j obj, j < m → L.getD j true = true → al j = some obj → N ≤ bs j ∧ w.heap[bs j]? = some obj
 apart : ∀ j k, j < m → k < m → L.getD j true = true → L.getD k true = true → al j ≠ none → al k ≠ none → j ≠ k → bs j ≠ bs k
def over (ops : Array Oper) (al : Nat → Option Obj) (bs : Nat → Nat) (a : Act) : Nat → Act
 | 0 => a
 | k + 1 => match al k with
  | some _ => (over ops al bs a k).put (qi ops k) (.pointer (some ⟨bs k, 0, none⟩))
  | none => over ops al bs a k
theorem kP {al : Nat → Option Obj} {lv : Nat → Option Value} {bs : Nat → Nat} {a : Act} {m : Nat} (hd : ∀ j k t, qi ops j = some t → qi ops k = some t → j = k) (hn : ∀ j, al j ≠ none → j < m → lv j = none) :
  ∀ {k : Nat}, k ≤ m → over ops al bs (qA ops a lv m) k = qA ops a (fun j => if j < k ∧ (al j).isSome = true then some (.pointer (some ⟨bs j, 0, none⟩)) else lv j) m
 | 0, _ => qh fun j _ => by simp
 | k + 1, hk => by
  have ih := kP (lv := lv) (bs := bs) (a := a) hd hn (k := k) (by omega)
  cases ha : al k with
  | none =>
   simp only [over, ha]; rw [ih]; refine qh fun j _ => ?_
   by_cases hjk : j = k
   ·subst hjk; simp [ha]
   ·simp only [show (j < k + 1 ↔ j < k) from by omega]
  | some obj =>
   simp only [over, ha]; rw [ih, nH hd (by simp [hn k (by simp [ha]) (by omega)]) (by omega)]; refine qh fun j _ => ?_
   by_cases hjk : j = k
   ·subst hjk; simp [ha]
   ·simp only [if_neg hjk, show (j < k + 1 ↔ j < k) from by omega]
theorem JP {L : Array Bool} : ∀ {m : Nat}, (¬ ∀ j, j < m → L.getD j true = true) → ∃ i, i < m ∧ L.getD i true = false ∧ ∀ j, j < i → L.getD j true = true
 | 0, h => absurd (fun j hj => absurd hj (by omega)) h
 | m + 1, h => by
  by_cases hm : ∀ j, j < m → L.getD j true = true
  ·refine ⟨m, by omega, ?_, hm⟩
   cases hv : L.getD m true with
   | false => rfl
   | true => exact absurd (fun j hj => by
     by_cases hjm : j = m
     ·subst hjm; exact hv
     ·exact hm j (by omega)) h
  ·obtain ⟨i, h1, h2, h3⟩ := JP hm; exact ⟨i, by omega, h2, h3⟩
theorem finish {Q : Exit → Act → World → Prop} {m : Nat} {al : Nat → Option Obj} (hF : TE md ops m al) {lv : Nat → Option Value} {a : Act} {w0 : World} (hlvn : ∀ j, al j ≠ none → j < m → lv j = none)
  (hend : ∀ bs w', Below w0.heap.size w0 w' → (∀ j obj, j < m → al j = some obj → w0.heap.size ≤ bs j ∧ w'.heap[bs j]? = some obj) → (∀ j k, j < m → k < m → al j ≠ none → al k ≠ none → j ≠ k → bs j ≠ bs k) →
   wpList P ops Q (ops.toList.drop m) (over ops al bs (qA ops a lv m) m) w') {fuel : Nat} {L : Array Bool} {bs : Nat → Nat} {w' : World} (hs : L.size = ops.size) (hf : left L ops.size = fuel) (gG : ∀ j, m ≤ j → j < ops.size → L.getD j true = false)
  (hB : Below w0.heap.size w0 w') (hborn : Born al m w0.heap.size L bs w') (hall : ∀ j, j < m → L.getD j true = true) : wpAny P md ops Q fuel L (qA ops a (Zo al lv L bs) m) w' := by
 have hm := hF.le; have hlen : (ops.toList.drop m).length = ops.size - m := by simp
 have hfu : fuel = (ops.toList.drop m).length := by
  have := Qq (L := L) (m := m) hall (k := ops.size - m) fun j h1 h2 => gG j h1 (by omega)
  rw [show m + (ops.size - m) = ops.size by omega] at this; omega
 have hst : qA ops a (Zo al lv L bs) m = over ops al bs (qA ops a lv m) m := by
  rw [kP hF.apart hlvn (Nat.le_refl _)]; refine qh fun j hj => ?_
  simp [Zo, hall j hj, hj]
 rw [hfu, hst]; refine dS hF (ops.toList.drop m) m L _ w' ?_ (by omega) (Nat.le_refl _) (fun j hj => zo (by omega) (hall j hj)) (fun j h1 h2 => gG j h1 h2) ?_
 ·intro j hj
  simp
 ·exact hend bs w' hB (fun j obj hj ha => hborn.at_ j obj hj (hall j hj) ha) (fun j k hj hk haj hak hjk => hborn.apart j k hj hk (hall j hj) (hall k hk) haj hak hjk)
theorem eQ {al : Nat → Option Obj} {lv : Nat → Option Value} {L : Array Bool} {bs bs' : Nat → Nat} {i m : Nat} {a : Act} {v : Value} (hd : ∀ j k t, qi ops j = some t → qi ops k = some t → j = k) (hL : L.getD i true = false) (hi : i < m)
  (hv : (if (al i).isSome then some (.pointer (some ⟨bs' i, 0, none⟩)) else lv i) = some v) (hb : ∀ j, j ≠ i → bs' j = bs j) :
  (qA ops a (Zo al lv L bs) m).put (qi ops i) v = qA ops a (Zo al lv (L.setIfInBounds i true) bs') m := by
 rw [nH hd (by simp [Zo, hL]) hi]; refine qh fun j _ => ?_
 have hs : i < L.size := by
  rcases Nat.lt_or_ge i L.size with h' | h'
  ·exact h'
  ·simp [Array.getElem?_eq_none h'] at hL
 by_cases hji : j = i
 ·subst hji; simp only [if_pos, Zo, Zz hs]; exact hv.symm
 ·simp only [if_neg hji, Zo, getD_set_ne true (Ne.symm hji), hb j hji]
theorem phase1 {Q : Exit → Act → World → Prop} {m : Nat} {al : Nat → Option Obj} (hF : TE md ops m al) (hQ : ∀ (d : Tmp) v c a w, Q (.panic c) (a.put (some d) v) w → Q (.panic c) a w) {lv : Nat → Option Value} {a : Act} {w0 : World}
  (hok : ∀ j, j < m → ∀ o, ops[j]? = some o → iI (pG P) P ops (fun w => Below w0.heap.size w0 w) al j o (qA ops a lv j) (lv j))
  (hend : ∀ bs w', Below w0.heap.size w0 w' → (∀ j obj, j < m → al j = some obj → w0.heap.size ≤ bs j ∧ w'.heap[bs j]? = some obj) → (∀ j k, j < m → k < m → al j ≠ none → al k ≠ none → j ≠ k → bs j ≠ bs k) →
   wpList P ops Q (ops.toList.drop m) (over ops al bs (qA ops a lv m) m) w') :
  ∀ (fuel : Nat) (L : Array Bool) (bs : Nat → Nat) (w' : World), L.size = ops.size → left L ops.size = fuel → (∀ j, m ≤ j → j < ops.size → L.getD j true = false) → Below w0.heap.size w0 w' → Born al m w0.heap.size L bs w' →
   wpAny P md ops Q fuel L (qA ops a (Zo al lv L bs) m) w' := by
 have hlvn : ∀ j, al j ≠ none → j < m → lv j = none := by
  intro j hj hjm; have hjo : j < ops.size := by have := hF.le; omega
  rcases hok j hjm ops[j] (by simp [hjo]) with ⟨_, _, h, _⟩ | ⟨h, _⟩
  ·exact h
  ·exact absurd h hj
 intro fuel
 induction fuel with
 | zero =>
  intro L bs w' hs hf gG hB hborn
  have hall : ∀ j, j < m → L.getD j true = true := by
   intro j hj
   cases hv : L.getD j true with
   | true => rfl
   | false => have := yP hv (k := ops.size) (by have := hF.le; omega); omega
  exact finish hF hlvn hend hs hf gG hB hborn hall
 | succ fuel ih =>
  intro L bs w' hs hf gG hB hborn
  by_cases hall : ∀ j, j < m → L.getD j true = true
  ·exact finish hF hlvn hend hs hf gG hB hborn hall
  ·have hm := hF.le
   have next : ∀ i o v, ops[i]? = some o → i < m → L.getD i true = false → al i = none → lv i = some v → ∀ w'', Below w'.heap.size w' w'' → wpAny P md ops Q fuel (L.setIfInBounds i true) ((qA ops a (Zo al lv L bs) m).put o.dst v) w'' := by
    intro i o v ho him hu ha hx w'' hb; have hin := (Array.getElem?_eq_some_iff.1 ho).1; have hd : qi ops i = o.dst := by simp [qi, ho]
    have hleft : left (L.setIfInBounds i true) ops.size = fuel := by
     have := QT hu (k := ops.size) hin; omega
    have nT : ∀ j, m ≤ j → j < ops.size → (L.setIfInBounds i true).getD j true = false := fun j h1 h2 => by rw [getD_set_ne true (by omega)]; exact gG j h1 h2
    rw [← hd, eQ (bs' := bs) hF.apart hu him (by simp [ha, hx]) fun _ _ => rfl]; refine ih _ _ _ (by simp [hs]) hleft nT (hB.trans (hb.mono hB.size)) ⟨?_, ?_⟩
    ·intro j UW hj hl haj; have hji : j ≠ i := fun h => by subst h; rw [ha] at haj; cases haj
     rw [getD_set_ne true (Ne.symm hji)] at hl; have := hborn.at_ j UW hj hl haj; exact ⟨this.1, (hb.block _ (Array.getElem?_eq_some_iff.1 this.2).1).trans this.2⟩
    ·intro j k hj hk hlj hlk haj hak hjk; have hji : j ≠ i := fun h => by subst h; exact haj ha
     have hki : k ≠ i := fun h => by subst h; exact hak ha
     rw [getD_set_ne true (Ne.symm hji)] at hlj; rw [getD_set_ne true (Ne.symm hki)] at hlk; exact hborn.apart j k hj hk hlj hlk haj hak hjk
   have same : ∀ i o, ops[i]? = some o → i < m → i ∈ Region.ready md ops L → execOp (qA ops a (Zo al lv L bs) m).eval o = execOp (qA ops a lv i).eval o ∧ Region.wanted o (yielded ops (qA ops a (Zo al lv L bs) m).tmps) = Region.wanted o (yielded ops (qA ops a lv i).tmps) := by
    intro i o ho him hi; obtain ⟨hu, o', ho', hall'⟩ := mem_ready.1 hi; rw [ho] at ho'
    cases ho'
    refine VL (ops := ops) o (hF.sel i o · · ho) (x := qA ops a (Zo al lv L bs) m) (y := qA ops a lv i) (fun t ht => ?_); rw [← ZJ (a := a) (f := lv) (Nat.le_of_lt him)]; refine NI fun j hj => ?_
    by_cases hdt : qi ops j = some t
    ·obtain ⟨h1, h2, e, he, hb, hon⟩ := hF.reads i o ho him j t hdt ht; have := jQ (hall' e he hb); rw [hon] at this
     left
     simp [Zo, this, h2, h1]
    ·exact .inr hdt
   by_cases hp : ∃ i o, i < m ∧ i ∈ Region.ready md ops L ∧ ops[i]? = some o ∧ zN o = true
   ·-- an operation that looks at no world: it is taken first
    obtain ⟨i, o, him, hi, ho, hpo⟩ := hp; obtain ⟨hu, o', ho', hall'⟩ := mem_ready.1 hi; rw [ho] at ho'
    cases ho'
    have hg : o.guard = none := by unfold zN at hpo; simp at hpo; exact hpo.1
    have hw : Region.wanted o (yielded ops (qA ops a lv i).tmps) = true := by simp [Region.wanted, hg]
    have hsame := same i o ho him hi
    rcases hok i him o ho with ⟨obj, ha, hx, hrun⟩ | ⟨ha, v, hx, hcase⟩
    ·have h1 := VH hpo (w := w0) (v := .pointer (some ⟨w0.heap.size, 0, none⟩)) (e := (qA ops a lv i).eval) (w0 := w0) (P := P); have h2 := hrun w0
     exfalso
     have hal : ∀ e w, (execOp e o).run P w = .ok (.value (.pointer (some ⟨w.heap.size, 0, none⟩))) (w.alloc obj) → False := by
      intro e w h; unfold zN at hpo; simp only [Bool.and_eq_true] at hpo; have hpo := hpo.2
      have hne : w ≠ w.alloc obj := fun h => by
       have := congrArg (fun x => x.heap.size) h
       simp at this
      unfold execOp at h
      split at hpo
      ·rename_i x hx
       simp only [hx] at h
       simp at h
       exact hne h.2
      ·rename_i t i hx
       simp only [hx] at h; unfold Instr.extract at h
       cases he : e t with
       | tuple vs =>
        simp only [he] at h
        cases hi : vs[i]? with
        | none => simp [hi] at h
        | some u => simp only [hi] at h; simp at h; exact hne h.2
       | _ => simp [he] at h
      ·cases hpo
     exact hal _ _ h2
    ·have hyield : ∀ w, (execOp (qA ops a (Zo al lv L bs) m).eval o).run P w = .ok (.value v) w := by
      intro w; rw [hsame.1]
      rcases hcase with ⟨_, hup⟩ | ⟨hw', _⟩
      ·have := hup w0 (Below.refl _ _)
       have hval : (execOp (qA ops a lv i).eval o).run P w0 = .ok (.value v) w0 := by
        revert this
        have hkind : ∀ e, (∃ u, (execOp e o).run P w0 = .ok (.value u) w0) ∨ ∃ x ww, (execOp e o).run P w0 = .halt x ww := by
         intro e; unfold zN at hpo; simp only [Bool.and_eq_true] at hpo; have hpo := hpo.2; unfold execOp
         split at hpo
         ·rename_i x hx
          simp only [hx]; exact .inl ⟨_, rfl⟩
         ·rename_i t i hx
          simp only [hx]; unfold Instr.extract
          cases he : e t with
          | tuple vs =>
           cases hi : vs[i]? with
           | none => right; simp [hi]
           | some u => left; simp [hi]
          | _ => right; exact ⟨_, _, rfl⟩
         ·cases hpo
        rcases hkind (qA ops a lv i).eval with ⟨u, hu⟩ | ⟨x, ww, hu⟩
        ·rw [hu]; rintro ⟨_, rfl⟩; rfl
        ·rw [hu]; intro h; exact h.elim
       exact VH hpo hval
      ·rw [hw] at hw'; cases hw'
     refine wpAny_first (v := v) ho hF.sel (fun c a1 w1 h => ?_) fuel L _ w' ?_ hi (.inl ⟨by rw [hsame.2]; exact hw, hyield⟩) (next i o v ho him hu ha hx w' (Below.refl _ _))
     ·cases hdo : o.dst with
      | none => rw [hdo] at h; exact h
      | some d => rw [hdo] at h; exact hQ d v c a1 w1 h
     ·intro j oj hoj hji huj hno; have hjn := (Array.getElem?_eq_some_iff.1 hoj).1; have dj : qi ops j = oj.dst := by simp [qi, hoj]
      have di : qi ops i = o.dst := by simp [qi, ho]
      have p1 : ∀ d, o.dst = some d → d ∉ oj.looksAt ops := by
       intro d hd ht
       rcases Nat.lt_or_ge j m with hjm | hjm
       ·obtain ⟨_, _, e, he, hb, hon⟩ := hF.reads j oj hoj hjm i d (di.trans hd) ht; exact hno e he hb hon
       ·rcases (hF.late j oj hoj hjm).2.2 i (by omega) with ⟨e, he, hb, hon⟩ | ⟨_, hl⟩
        ·exact hno e he hb hon
        ·exact hl d (di.trans hd) ht
      have p2 : ∀ d, o.dst = some d → oj.dst ≠ some d := fun d hd h => hji (hF.apart j i d (dj.trans h) (di.trans hd))
      have p3 : ∀ d, oj.dst = some d → d ∉ o.looksAt ops := by
       intro d hd ht; obtain ⟨_, _, e, he, hb, hon⟩ := hF.reads i o ho him j d (dj.trans hd) ht; have := jQ (hall' e he hb); rw [hon, huj] at this
       cases this
      unfold Oper.apart
      cases hdo : o.dst with
      | none =>
       cases hdj : oj.dst with
       | none => rfl
       | some d => simpa using p3 d hdj
      | some d =>
       have a1 := p1 d hdo; have a2 := p2 d hdo
       cases hdj : oj.dst with
       | none => simpa [hdj] using a1
       | some d' =>
        have a3 := p3 d' hdj; rw [hdj] at a2; have a2' : d' ≠ d := fun h => a2 (by rw [h])
        simp [a1, a3, a2']
   obtain ⟨i0, hi0, hu0, hb0⟩ := JP hall
   have fC : i0 ∈ Region.ready md ops L := mem_ready.2 ⟨hu0, ops[i0], by simp, fun e he hb => by
    have := hF.back i0 ops[i0] (by simp) e he hb
    exact zo (by omega) (hb0 _ this)⟩
   refine ⟨fun h' => (by rw [h'] at fC; cases fC), fun i hi => ?_⟩; obtain ⟨hu, o, ho, hall'⟩ := mem_ready.1 hi; have hin := (Array.getElem?_eq_some_iff.1 ho).1; have hd : qi ops i = o.dst := by simp [qi, ho]
   have him : i < m := by
    rcases Nat.lt_or_ge i m with h' | h'
    ·exact h'
    ·rcases (hF.late i o ho h').2.2 i0 (by omega) with ⟨e, he, hb, hon⟩ | ⟨⟨oj, hoj, hpj⟩, _⟩
     ·have := jQ (hall' e he hb); rw [hon, hu0] at this
      cases this
     ·exact absurd ⟨i0, oj, hi0, fC, hoj, hpj⟩ hp
   have hlt : i < L.size := by omega
   have hleft : left (L.setIfInBounds i true) ops.size = fuel := by
    have := QT hu (k := ops.size) hin; omega
   have nT : ∀ j, m ≤ j → j < ops.size → (L.setIfInBounds i true).getD j true = false := fun j h1 h2 => by rw [getD_set_ne true (by omega)]; exact gG j h1 h2
   have hsame := same i o ho him hi; unfold wpOp; simp only [ho, hsame.2]
   rcases hok i him o ho with ⟨obj, ha, hx, hrun⟩ | ⟨ha, v, hx, hcase⟩
   ·have hg := hF.plain i o ho him (by simp [ha]); have hw : Region.wanted o (yielded ops (qA ops a lv i).tmps) = true := by simp [Region.wanted, hg]
    simp only [hw, if_true]
    left
    unfold Oper.wp; rw [hsame.1, hrun w']
    show wpAny P md ops Q fuel _ _ _
    have hbs : ∀ j, j ≠ i → (fun j => if j = i then w'.heap.size else bs j) j = bs j := fun j hj => by simp [hj]
    rw [← hd, eQ (bs' := fun j => if j = i then w'.heap.size else bs j) hF.apart hu him (by simp [ha]) hbs]; refine ih _ _ _ (by simp [hs]) hleft nT (hB.alloc hB.size obj) ⟨?_, ?_⟩
    ·intro j UW hj hl haj
     by_cases hji : j = i
     ·subst hji; rw [ha] at haj; injection haj with haj
      subst haj; simp only [if_true]; exact ⟨hB.size, show (w'.heap.push _)[w'.heap.size]? = some _ by simp⟩
     ·rw [getD_set_ne true (Ne.symm hji)] at hl; have := hborn.at_ j UW hj hl haj; simp only [if_neg hji]; refine ⟨this.1, ?_⟩; rw [Below.heap_alloc]
      ·exact this.2
      ·exact (Array.getElem?_eq_some_iff.1 this.2).1
    ·intro j k hj hk hlj hlk haj hak hjk
     by_cases hji : j = i
     ·subst hji; rw [getD_set_ne true hjk] at hlk; obtain ⟨ok, hok'⟩ := Option.ne_none_iff_exists'.1 hak; have := (Array.getElem?_eq_some_iff.1 (hborn.at_ k ok hk hlk hok').2).1; simp only [if_true, if_neg (Ne.symm hjk)]; omega
     ·rw [getD_set_ne true (Ne.symm hji)] at hlj
      by_cases hki : k = i
      ·subst hki; obtain ⟨oj, hoj'⟩ := Option.ne_none_iff_exists'.1 haj; have := (Array.getElem?_eq_some_iff.1 (hborn.at_ j oj hj hlj hoj').2).1; simp only [if_true, if_neg hji]; omega
      ·rw [getD_set_ne true (Ne.symm hki)] at hlk; simp only [if_neg hji, if_neg hki]; exact hborn.apart j k hj hk hlj hlk haj hak hjk
   ·have next := next i o v ho him hu ha hx
    rcases hcase with ⟨hw, hup⟩ | ⟨hw, hv⟩
    ·simp only [hw, if_true]
     left
     unfold Oper.wp; rw [hsame.1]; have := hup w' hB
     revert this
     cases (execOp (qA ops a lv i).eval o).run P w' with
     | halt x ww => intro h; exact h.elim
     | ok n ww =>
      cases n with
      | value u =>
       rintro ⟨rfl, rfl⟩; exact next _ (Below.refl _ _)
      | skip =>
       rintro ⟨rfl, rfl⟩; exact next _ (Below.refl _ _)
      | enter f args =>
       rintro ⟨rfl, h⟩; refine Calls.mono h ?_; rintro e w'' ⟨rfl, hb⟩; exact next _ hb
      | _ => intro h; exact h.elim
    ·subst hv; simp only [hw]; exact next _ (Below.refl _ _)
theorem jN {C : World → Prop} {al : Nat → Option Obj} {K : Act → Prop} : ∀ (n i : Nat) (l : List Oper) (a : Act), (∀ j, i ≤ j → j < i + n → al j = none) → n ≤ l.length →
  wpQuiet P ops C (fun a' => XY (Oper.quietUpon P C) P ops C al K (i + n) (l.drop n) a') (l.take n) a → XY (Oper.quietUpon P C) P ops C al K i l a
 | 0, i, l, a, _, _, h => h
 | n + 1, i, [], a, _, hn, h => absurd hn (by simp)
 | n + 1, i, o :: l, a, hal, hn, h => by
  have hi := hal i (Nat.le_refl _) (by omega); have ih := fun a' => jN (C := C) (al := al) (K := K) n (i + 1) l a' (fun j h1 h2 => hal j (by omega) (by omega)) (by simpa using hn)
  have e : i + 1 + n = i + (n + 1) := by omega
  rw [e] at ih; unfold XY; rw [hi]; simp only; rw [List.take_succ_cons] at h; unfold wpQuiet at h
  split
  ·rename_i hw
   rw [if_pos hw] at h; obtain ⟨v, h1, h2⟩ := h; exact ⟨v, h1, ih _ h2⟩
  ·rename_i hw
   rw [if_neg hw] at h; exact ih _ h
theorem jR {U : World → Value → Result Next → Prop} {C : World → Prop} {al : Nat → Option Obj} {K : Act → Prop} {i : Nat} {a : Act} (h : K a) : XY U P ops C al K i [] a := h
theorem Zw {C1 C2 : World → Prop} {w : World} {v1 v2 : Value} {r : Result Next} (h1 : Oper.quietUpon P C1 w v1 r) (h2 : Oper.quietUpon P C2 w v2 r) : v1 = v2 := by
 cases r with
 | halt x ww => exact h1.elim
 | ok n ww =>
  cases n with
  | value u => exact h1.2.symm.trans h2.2
  | skip => exact h1.2.trans h2.2.symm
  | enter f args => exact dM h1.2 h2.2
  | _ => exact h1.elim
theorem dZ {C1 C2 : World → Prop} {al : Nat → Option Obj} {wS TJ : Nat → Option Value} {a : Act} {m : Nat} (hm : m ≤ ops.size) {u : World} (hu1 : C1 u) (hu2 : C2 u)
  (h1 : ∀ j, j < m → ∀ o, ops[j]? = some o → iI (Oper.quietUpon P C1) P ops C1 al j o (qA ops a wS j) (wS j)) (h2 : ∀ j, j < m → ∀ o, ops[j]? = some o → iI (Oper.quietUpon P C2) P ops C2 al j o (qA ops a TJ j) (TJ j)) :
  ∀ k, k ≤ m → ∀ j, j < k → wS j = TJ j := by
 intro k
 induction k with
 | zero => intro _ j hj; omega
 | succ k ih =>
  intro hk j hj; have ih := ih (by omega)
  by_cases hjk : j = k
  ·subst hjk; have ho : ops[j]? = some ops[j] := by simp
   have a1 := h1 j (by omega) _ ho; have a2 := h2 j (by omega) _ ho; rw [qh (f := wS) (g := TJ) ih] at a1
   rcases a1 with ⟨obj, ha, hx, hr⟩ | ⟨ha, v, hx, hc⟩
   ·rcases a2 with ⟨UW, ha', hx', hr'⟩ | ⟨ha', _⟩
    ·rw [hx, hx']
    ·rw [ha] at ha'; cases ha'
   ·rcases a2 with ⟨UW, ha', hx', hr'⟩ | ⟨ha', v', hx', hc'⟩
    ·rw [ha] at ha'; cases ha'
    ·rw [hx, hx']
     rcases hc with ⟨hw, hc⟩ | ⟨hw, hc⟩
     ·rcases hc' with ⟨hw', hc'⟩ | ⟨hw', hc'⟩
      ·rw [Zw (hc u hu1) (hc' u hu2)]
      ·rw [hw] at hw'; cases hw'
     ·rcases hc' with ⟨hw', hc'⟩ | ⟨hw', hc'⟩
      ·rw [hw] at hw'; cases hw'
      ·rw [hc, hc']
  ·exact ih j (by omega)
theorem js {id : Nat} {Q : Exit → Act → World → Prop} {a : Act} {w : World} {l : List Oper} (m : Nat) (al : Nat → Option Obj) (hm : P.follows .mixedOrders = true) (hB : xN .any l.toArray m al = true) (hQ : ∀ (d : Tmp) v c a w, Q (.panic c) (a.put (some d) v) w → Q (.panic c) a w)
  (h : ∀ F : World → Prop, Nonempty (Wd F) → (∀ w1 w2, F w1 → Below w1.heap.size w1 w2 → F w2) → (∀ w1, F w1 → Below w.heap.size w w1) →
   XY (Oper.quietUpon P fun w' => ∃ x : Wd F, w' = x.world) P l.toArray (fun w' => ∃ x : Wd F, w' = x.world) al (fun a' => ∀ bs w', Below w.heap.size w w' → (∀ j obj, j < m → al j = some obj → w.heap.size ≤ bs j ∧ w'.heap[bs j]? = some obj) → (∀ j k, j < m → k < m → al j ≠ none → al k ≠ none → j ≠ k → bs j ≠ bs k) →
    wpList P l.toArray Q (l.drop m) (over l.toArray al bs a' m) w') 0 (l.take m) a) : (Code.region id l.toArray true).wp P Q a w := by
 have hF := mG hB; have hle : m ≤ l.length := by simpa using hF.le
 refine wp_region_any hm ?_
 have walk : ∀ u, Below w.heap.size w u → ∃ lv : Nat → Option Value, (∀ j, j < m → ∀ o, l.toArray[j]? = some o → iI (Oper.quietUpon P fun w' => ∃ x : Wd fun w1 => Below u.heap.size u w1, w' = x.world) P l.toArray (fun w' => ∃ x : Wd fun w1 => Below u.heap.size u w1, w' = x.world) al j o (qA l.toArray a lv j) (lv j)) ∧
   (∀ bs w', Below w.heap.size w w' → (∀ j obj, j < m → al j = some obj → w.heap.size ≤ bs j ∧ w'.heap[bs j]? = some obj) → (∀ j k, j < m → k < m → al j ≠ none → al k ≠ none → j ≠ k → bs j ≠ bs k) →
    wpList P l.toArray Q (l.drop m) (over l.toArray al bs (qA l.toArray a lv m) m) w') := by
  intro u hu
  obtain ⟨lv, _, h2, h3⟩ := BH (KC := fun _ => none) (l.take m) 0 (fun j hj => by
   simp at hj
   simp [hj]) (h (fun w1 => Below u.heap.size u w1) ⟨⟨u, Below.refl _ _⟩⟩ (fun w1 w2 h1 h2 => jk h1 h2) (fun w1 h1 => jk hu h1))
  simp only [List.length_take, Nat.min_eq_left hle, Nat.zero_add] at h2 h3; exact ⟨lv, fun j hj o ho => h2 j (Nat.zero_le _) hj o ho, h3⟩
 obtain ⟨lv, h2, h3⟩ := walk w (Below.refl _ _)
 have hok : ∀ j, j < m → ∀ o, l.toArray[j]? = some o → iI (pG P) P l.toArray (fun w' => Below w.heap.size w w') al j o (qA l.toArray a lv j) (lv j) := by
  intro j hj o ho
  rcases h2 j hj o ho with ⟨obj, ha, hx, hr⟩ | ⟨ha, v, hx, hc⟩
  ·exact .inl ⟨obj, ha, hx, hr⟩
  ·refine .inr ⟨ha, v, hx, ?_⟩
   rcases hc with ⟨hw, hc⟩ | hc
   ·refine .inl ⟨hw, fun u hu => ?_⟩; obtain ⟨lvu, h2u, _⟩ := walk u hu; have hone := dZ (P := P) (ops := l.toArray) (al := al) (a := a) (m := m) hF.le (u := u) ⟨⟨u, hu⟩, rfl⟩ ⟨⟨u, Below.refl _ _⟩, rfl⟩ h2 h2u m (Nat.le_refl _); have hju := h2u j hj o ho; rw [← qh (ops := l.toArray) (a := a) (f := lv) (g := lvu) fun k hk => hone k (by omega), ← hone j hj] at hju
    rcases hju with ⟨_, ha', _⟩ | ⟨_, v', hx', hc'⟩
    ·rw [ha] at ha'; cases ha'
    ·rw [hx] at hx'; injection hx' with hx'
     subst hx'
     rcases hc' with ⟨_, hc'⟩ | ⟨hw', _⟩
     ·have := hc' u ⟨⟨u, Below.refl _ _⟩, rfl⟩
      revert this
      generalize (execOp (qA l.toArray a lv j).eval o).run P u = r
      intro this
      cases r with
      | halt x ww => exact this.elim
      | ok n ww =>
       cases n with
       | value y => exact this
       | skip => exact this
       | enter f args => exact ⟨this.1, this.2.mono fun e w'' ⟨he, x, hx⟩ => ⟨he, by rw [hx]; exact x.fact⟩⟩
       | _ => exact this.elim
     ·rw [hw] at hw'; cases hw'
   ·exact .inr hc
 have key := phase1 (Q := Q) (a := a) (w0 := w) (lv := lv) hF hQ hok (fun bs w' hb h4 h5 => by
  rw [List.toList_toArray]
  exact h3 bs w' hb h4 h5) l.toArray.size (Array.replicate l.toArray.size false) (fun _ => 0) { w with drawn := w.drawn + 1 } (by simp) (by
   have := Qq (L := Array.replicate l.toArray.size false) (m := 0) (fun j hj => absurd hj (by omega)) (k := l.toArray.size) (fun j _ hj => by simp at hj; simp [hj])
   simpa using this) (fun j _ hj => by simp at hj; simp [hj]) (Below.refl _ _).drew ⟨fun j obj hj hl => by
    have : j < l.length := by omega
    simp [this] at hl, fun j k hj hk hl => by
    have : j < l.length := by omega
    simp [this] at hl⟩
 rw [qh (g := fun _ => none) (fun j hj => by
  have : j < l.length := by omega
  simp [Zo, this])] at key
 have hnone : ∀ k, qA l.toArray a (fun _ => none) k = a := fun k => by
  induction k with
  | zero => rfl
  | succ k ih => simp only [qA]; exact ih
 rw [hnone] at key; exact key
end
structure Lt where
 a : Option Addr
 n : Nat
 c : Nat
 lo : Nat
 hi : Nat
structure iU where
 val : Lt → Value
 post : Lt → World → Prop
 mono : ∀ x w w', Below w.heap.size w w' → post x w → post x w'
def zR (R : Nat → Option iU) (xs : Nat → Lt) (j : Nat) (w : World) : Prop := ∀ r, R j = some r → r.post (xs j) w
theorem VP {R : Nat → Option iU} {xs : Nat → Lt} {j : Nat} {w w' : World} (hb : Below w.heap.size w w') (h : zR R xs j w) : zR R xs j w' := fun r hr => r.mono _ _ _ hb (h r hr)
def does (P : Program) (w : World) (post : Value → World → Prop) : Result Next → Prop
 | .ok (.value v) w' => Below w.heap.size w w' ∧ post v w'
 | .ok (.enter f args) w' => w' = w ∧ Calls P f args w (fun e w'' => ∃ v, e = .returned v ∧ Below w.heap.size w w'' ∧ post v w'')
 | _ => False
inductive Item where
 | seg (n : Nat) (D : List Nat)
 | one (D : List Nat)
section
variable {P : Program} {ops : Array Oper} {md : Region.Mode}
def wpS (P : Program) (ops : Array Oper) (C : World → Prop) (R : Nat → Option iU) (xs : Nat → Lt) (K : Act → Prop) : List Item → Nat → Act → Prop
 | [], _, a => K a
 | .seg n D :: p, i, a => ∀ F : World → Prop, Nonempty (Wd F) → (∀ w1 w2, F w1 → Below w1.heap.size w1 w2 → F w2) → (∀ w1, F w1 → C w1 ∧ ∀ j ∈ D, zR R xs j w1) →
   wpQuiet P ops (fun w' => ∃ x : Wd F, w' = x.world) (fun a' => wpS P ops C R xs K p (i + n) a') ((ops.toList.drop i).take n) a
 | .one D :: p, i, a => ∃ o r, ops[i]? = some o ∧ R i = some r ∧ Region.wanted o (yielded ops a.tmps) = true ∧
   (∀ w, C w → (∀ j ∈ D, zR R xs j w) → does P w (fun v w' => ∃ x : Lt, v = r.val x ∧ x.lo = w.heap.size ∧ x.hi = w'.heap.size ∧ r.post x w') ((execOp a.eval o).run P w)) ∧
   wpS P ops C R xs K p (i + 1) (a.put o.dst (r.val (xs i)))
def okS (P : Program) (ops : Array Oper) (C : World → Prop) (R : Nat → Option iU) (T : List (List Nat)) (xs : Nat → Lt) (w9 : World) (a : Act) (lv : Nat → Option Value) (j : Nat) : Prop :=
 ∃ (o : Oper) (D : List Nat), ops[j]? = some o ∧ (∀ d ∈ D, d ∈ T.getD j []) ∧
  ((∃ r, R j = some r ∧ Region.wanted o (yielded ops (qA ops a lv j).tmps) = true ∧ lv j = some (r.val (xs j)) ∧
    ∀ w, C w → (∀ d ∈ D, zR R xs d w) → does P w (fun v w' => ∃ x : Lt, v = r.val x ∧ x.lo = w.heap.size ∧ x.hi = w'.heap.size ∧ r.post x w') ((execOp (qA ops a lv j).eval o).run P w)) ∨
   (R j = none ∧ ∃ v, lv j = some v ∧ ((Region.wanted o (yielded ops (qA ops a lv j).tmps) = true ∧ ∀ w, C w → Below w.heap.size w w9 → (∀ d ∈ D, zR R xs d w) → pG P w v ((execOp (qA ops a lv j).eval o).run P w)) ∨
      (Region.wanted o (yielded ops (qA ops a lv j).tmps) = false ∧ v = undef))))
def Jp (m : Nat) (rel : Nat → Bool) (T : List (List Nat)) : List Item → Nat → Bool
 | [], i => i == m
 | .seg n D :: p, i => ((List.range n).all fun k => !rel (i + k) && D.all fun d => (T.getD (i + k) []).contains d) && (D.all fun d => decide (d < i)) && Jp m rel T p (i + n)
 | .one D :: p, i => rel i && (D.all fun d => (T.getD i []).contains d && decide (d < i)) && Jp m rel T p (i + 1)
def ZM (md : Region.Mode) (ops : Array Oper) (T : List (List Nat)) : Bool :=
 (List.range ops.size).all fun i => (T.getD i []).all fun d => match ops[i]? with
  | some o => o.after.any fun e => Region.binds md e && (e.on == d || (T.getD e.on []).contains d)
  | none => false
theorem UV {C1 C2 : World → Prop} {wS TJ : Nat → Option Value} {a : Act} {i : Nat} {u : World} (hu1 : C1 u) (hu2 : C2 u) (h0 : ∀ j, j < i → wS j = TJ j) :
  ∀ n, (∀ j, i ≤ j → j < i + n → ∀ o, ops[j]? = some o → iI (Oper.quietUpon P C1) P ops C1 (fun _ => none) j o (qA ops a wS j) (wS j)) → (∀ j, i ≤ j → j < i + n → ∀ o, ops[j]? = some o → iI (Oper.quietUpon P C2) P ops C2 (fun _ => none) j o (qA ops a TJ j) (TJ j)) →
   i + n ≤ ops.size → ∀ j, j < i + n → wS j = TJ j := by
 intro n
 induction n with
 | zero => intro _ _ _ j hj; exact h0 j hj
 | succ n ih =>
  intro h1 h2 hs j hj; have ih := ih (fun j a b => h1 j a (by omega)) (fun j a b => h2 j a (by omega)) (by omega)
  by_cases hjk : j = i + n
  ·subst hjk; have ho : ops[i + n]? = some ops[i + n] := by simp
   have a1 := h1 (i + n) (by omega) (by omega) _ ho; have a2 := h2 (i + n) (by omega) (by omega) _ ho; rw [qh (f := wS) (g := TJ) ih] at a1
   rcases a1 with ⟨obj, ha, _⟩ | ⟨_, v, hx, hc⟩
   ·cases ha
   ·rcases a2 with ⟨UW, ha', _⟩ | ⟨_, v', hx', hc'⟩
    ·cases ha'
    ·rw [hx, hx']
     rcases hc with ⟨hw, hc⟩ | ⟨hw, hc⟩
     ·rcases hc' with ⟨hw', hc'⟩ | ⟨hw', hc'⟩
      ·rw [Zw (hc u hu1) (hc' u hu2)]
      ·rw [hw] at hw'; cases hw'
     ·rcases hc' with ⟨hw', hc'⟩ | ⟨hw', hc'⟩
      ·rw [hw] at hw'; cases hw'
      ·rw [hc, hc']
  ·exact ih j (by omega)
theorem TT {u : World} {v : Value} {r : Result Next} (h : Oper.quietUpon P (fun w' => ∃ x : Wd (fun w1 => Below u.heap.size u w1), w' = x.world) u v r) : pG P u v r := by
 cases r with
 | halt x ww => exact h.elim
 | ok n ww =>
  cases n with
  | value y => exact h
  | skip => exact h
  | enter f args => exact ⟨h.1, h.2.mono fun e w'' ⟨he, x, hx⟩ => ⟨he, by rw [hx]; exact x.fact⟩⟩
  | _ => exact h.elim
theorem QK {w0 : World} {R : Nat → Option iU} {T : List (List Nat)} {xs : Nat → Lt} {K : Act → Prop} {m : Nat} {a : Act} (hm : m ≤ ops.size) {w9 : World} (h9 : Below w0.heap.size w0 w9) :
  ∀ (p : List Item) (i : Nat) (KC : Nat → Option Value), Jp m (fun j => (R j).isSome) T p i = true → wpS P ops (fun w => Below w0.heap.size w0 w) R xs K p i (qA ops a KC i) →
   ∃ lv : Nat → Option Value, (∀ j, j < i → lv j = KC j) ∧ (∀ j, i ≤ j → j < m → (∀ d, d < j → zR R xs d w9) → okS P ops (fun w => Below w0.heap.size w0 w) R T xs w9 a lv j) ∧ ((∀ d, d < m → zR R xs d w9) → K (qA ops a lv m))
 | [], i, KC, hp, h => by
  obtain rfl : i = m := by simpa [Jp] using hp
  exact ⟨KC, fun _ _ => rfl, fun j h1 h2 => by omega, fun _ => h⟩
 | .one D :: p, i, KC, hp, h => by
  simp only [Jp, Bool.and_eq_true, List.all_eq_true, decide_eq_true_eq] at hp; obtain ⟨⟨hr, hD⟩, hp⟩ := hp; obtain ⟨o, r, ho, hri, hw, hdo, hk⟩ := h; have hd : qi ops i = o.dst := by simp [qi, ho]
  have e : (qA ops a KC i).put o.dst (r.val (xs i)) = qA ops a (fun j => if j = i then some (r.val (xs i)) else KC j) (i + 1) := by
   simp only [qA, if_pos, hd]; rw [qh (f := fun j => if j = i then some (r.val (xs i)) else KC j) (g := KC) (m := i) fun j hj => by simp [Nat.ne_of_lt hj]]
  rw [e] at hk; obtain ⟨lv, h1, h2, h3⟩ := QK hm h9 p (i + 1) _ hp hk; have hlt : ∀ j, j < i → lv j = KC j := fun j hj => by rw [h1 j (by omega)]; simp [Nat.ne_of_lt hj]
  refine ⟨lv, hlt, ?_, h3⟩; intro j hj1 hj2 hf
  by_cases hji : j = i
  ·subst hji; refine ⟨o, D, ho, fun d hd => by simpa using (hD d hd).1, .inl ⟨r, hri, ?_, by rw [h1 j (by omega)]; simp, ?_⟩⟩
   ·rw [qh (g := KC) hlt]; exact hw
   ·rw [qh (g := KC) hlt]; exact hdo
  ·exact h2 j (by omega) hj2 hf
 | .seg n D :: p, i, KC, hp, h => by
  simp only [Jp, Bool.and_eq_true, List.all_eq_true, decide_eq_true_eq, List.mem_range] at hp; obtain ⟨⟨hr, hD⟩, hp⟩ := hp
  by_cases hf : ∀ d, d < i → zR R xs d w9
  ·have hend : ∀ p i, Jp m (fun j => (R j).isSome) T p i = true → i ≤ m := by
    intro p
    induction p with
    | nil => intro i h; have : i = m := by simpa [Jp] using h
             omega
    | cons x p ih =>
     intro i h
     cases x with
     | seg n D => simp only [Jp, Bool.and_eq_true] at h; have := ih _ h.2; omega
     | one D => simp only [Jp, Bool.and_eq_true] at h; have := ih _ h.2; omega
   have him := hend p (i + n) hp; have hlen : ((ops.toList.drop i).take n).length = n := by simp; omega
   have hseg : ∀ u, Below w0.heap.size w0 u → (∀ d ∈ D, zR R xs d u) → ∃ lv : Nat → Option Value, (∀ j, j < i → lv j = KC j) ∧
     (∀ j, i ≤ j → j < i + n → ∀ o, ops[j]? = some o → iI (Oper.quietUpon P fun w' => ∃ x : Wd (fun w1 => Below u.heap.size u w1), w' = x.world) P ops (fun w' => ∃ x : Wd (fun w1 => Below u.heap.size u w1), w' = x.world) (fun _ => none) j o (qA ops a lv j) (lv j)) ∧
     wpS P ops (fun w => Below w0.heap.size w0 w) R xs K p (i + n) (qA ops a lv (i + n)) := by
    intro u hu hdu; have hq := h (fun w1 => Below u.heap.size u w1) ⟨⟨u, Below.refl _ _⟩⟩ (fun w1 w2 h1 h2 => jk h1 h2) (fun w1 h1 => ⟨jk hu h1, fun d hd => VP h1 (hdu d hd)⟩)
    have hF := jN (P := P) (ops := ops) (C := fun w' => ∃ x : Wd (fun w1 => Below u.heap.size u w1), w' = x.world) (al := fun _ => none) (K := fun a' => wpS P ops (fun w => Below w0.heap.size w0 w) R xs K p (i + n) a') n i ((ops.toList.drop i).take n) (qA ops a KC i) (fun _ _ _ => rfl) (by rw [hlen]; exact Nat.le_refl _)
     (by rw [List.take_of_length_le (l := (ops.toList.drop i).take n) (Nat.le_of_eq hlen), show ((ops.toList.drop i).take n).drop n = [] from List.drop_eq_nil_of_le (Nat.le_of_eq hlen)]; exact hq)
    obtain ⟨lv, h1, h2, h3⟩ := BH (KC := KC) ((ops.toList.drop i).take n) i (fun j hj => by
     rw [hlen] at hj; rw [List.getElem?_take, if_pos hj, List.getElem?_drop]
     simp) hF
    rw [hlen] at h2 h3; exact ⟨lv, h1, h2, h3⟩
   obtain ⟨wS, g1, g2, g3⟩ := hseg w9 h9 (fun d hd => hf d (hD d hd)); obtain ⟨lv, h1, h2, h3⟩ := QK hm h9 p (i + n) wS hp g3; refine ⟨lv, fun j hj => (h1 j (by omega)).trans (g1 j hj), ?_, h3⟩; intro j hj1 hj2 hfj
   by_cases hjn : j < i + n
   ·have ho : ops[j]? = some ops[j] := by simp
    have hj : lv j = wS j := h1 j hjn; have hlay : qA ops a lv j = qA ops a wS j := qh fun k hk => h1 k (by omega)
    obtain ⟨hrj, hDj⟩ := hr (j - i) (by omega); rw [show i + (j - i) = j by omega] at hrj hDj; have hrn : R j = none := by simpa using hrj
    refine ⟨_, D, ho, fun d hd => by simpa using hDj d hd, .inr ⟨hrn, ?_⟩⟩
    rcases g2 j hj1 hjn _ ho with ⟨_, ha, _⟩ | ⟨_, v, hv, hc⟩
    ·cases ha
    ·refine ⟨v, hj.trans hv, ?_⟩; rw [hlay]
     rcases hc with ⟨hw, hc⟩ | hc
     ·refine .inl ⟨hw, fun u hu hu9 hdu => ?_⟩; obtain ⟨lvu, k1, k2, _⟩ := hseg u hu hdu; have hone := UV (P := P) (ops := ops) (a := a) (i := i) (u := w9) (C1 := fun w' => ∃ x : Wd (fun w1 => Below w9.heap.size w9 w1), w' = x.world) (C2 := fun w' => ∃ x : Wd (fun w1 => Below u.heap.size u w1), w' = x.world) ⟨⟨w9, Below.refl _ _⟩, rfl⟩ ⟨⟨w9, hu9⟩, rfl⟩ (fun j hj => (g1 j hj).trans (k1 j hj).symm) n g2 k2 (by omega)
      rcases k2 j hj1 hjn _ ho with ⟨_, ha, _⟩ | ⟨_, v', hv', hc'⟩
      ·cases ha
      ·have hvv : v = v' := by
        have := hone j hjn; rw [hv, hv'] at this; exact Option.some.inj this
       subst hvv; rw [← qh (ops := ops) (a := a) (f := wS) (g := lvu) fun k hk => hone k (by omega)] at hc'
       rcases hc' with ⟨_, hc'⟩ | ⟨hw', _⟩
       ·exact TT (hc' u ⟨⟨u, Below.refl _ _⟩, rfl⟩)
       ·rw [hw] at hw'; cases hw'
     ·exact .inr hc
   ·exact h2 j (by omega) hj2 hfj
  ·refine ⟨KC, fun _ _ => rfl, fun j h1 _ h3 => absurd (fun d hd => h3 d (by omega)) hf, fun h3 => ?_⟩
   have hend : ∀ p i, Jp m (fun j => (R j).isSome) T p i = true → i ≤ m := by
    intro p
    induction p with
    | nil => intro i h; have : i = m := by simpa [Jp] using h
             omega
    | cons x p ih =>
     intro i h
     cases x with
     | seg n D => simp only [Jp, Bool.and_eq_true] at h; have := ih _ h.2; omega
     | one D => simp only [Jp, Bool.and_eq_true] at h; have := ih _ h.2; omega
   have := hend p (i + n) hp; exact absurd (fun d hd => h3 d (by omega)) hf
theorem sG {T : List (List Nat)} (h : ZM md ops T = true) {i d : Nat} (hi : i < ops.size) (hd : d ∈ T.getD i []) : ∃ o, ops[i]? = some o ∧ ∃ e ∈ o.after, Region.binds md e = true ∧ (e.on = d ∨ d ∈ T.getD e.on []) := by
 unfold ZM at h; simp only [List.all_eq_true, List.mem_range] at h; have := h i hi d hd
 cases ho : ops[i]? with
 | none => simp [ho] at this
 | some o =>
  simp only [ho] at this; rw [Array.any_eq_true'] at this; obtain ⟨e, he, hb⟩ := this; simp only [Bool.and_eq_true, Bool.or_eq_true, beq_iff_eq, List.contains_iff_mem] at hb; exact ⟨o, rfl, e, he, hb.1, hb.2⟩
theorem dep_lt {T : List (List Nat)} {m : Nat} {al : Nat → Option Obj} (hF : TE md ops m al) (h : ZM md ops T = true) : ∀ (i : Nat), i < ops.size → ∀ d ∈ T.getD i [], d < i := by
 intro i
 induction i using Nat.strongRecOn with
 | _ i ih =>
  intro hi d hd; obtain ⟨o, ho, e, he, hb, hon⟩ := sG h hi hd; have hlt := hF.back i o ho e he hb
  rcases hon with rfl | hon
  ·exact hlt
  ·exact Nat.lt_trans (ih e.on hlt (by omega) d hon) hlt
theorem VT {T : List (List Nat)} {m : Nat} {al : Nat → Option Obj} (hF : TE md ops m al) (h : ZM md ops T = true) {L : Array Bool} (hcl : ∀ j o, ops[j]? = some o → L.getD j true = true → ∀ e ∈ o.after, Region.binds md e = true → L.getD e.on true = true) :
  ∀ (i : Nat) (o : Oper), ops[i]? = some o → (∀ e ∈ o.after, Region.binds md e = true → L.getD e.on true = true) → ∀ d ∈ T.getD i [], L.getD d true = true := by
 intro i
 induction i using Nat.strongRecOn with
 | _ i ih =>
  intro o ho hall d hd; have hi := (Array.getElem?_eq_some_iff.1 ho).1; obtain ⟨o', ho', e, he, hb, hon⟩ := sG h hi hd; rw [ho] at ho'
  cases ho'
  have hl := hall e he hb
  rcases hon with rfl | hon
  ·exact hl
  ·have hlt := hF.back i o ho e he hb; have hoe : ops[e.on]? = some ops[e.on] := by simp
   exact ih e.on hlt _ hoe (hcl _ _ hoe hl) d hon
def xM (xs : Nat → Lt) (i : Nat) (x : Lt) : Nat → Lt := fun j => if j = i then x else xs j
theorem completes {w0 : World} {R : Nat → Option iU} {T : List (List Nat)} {K : (Nat → Lt) → Act → Prop} {m : Nat} {a : Act} {plan : List Item} {al : Nat → Option Obj} (hF : TE md ops m al) (hc : ZM md ops T = true)
  (hp : Jp m (fun j => (R j).isSome) T plan 0 = true) (hq : ∀ xs, wpS P ops (fun w => Below w0.heap.size w0 w) R xs (K xs) plan 0 a) {L : Array Bool} {xs0 : Nat → Lt} {w' : World} (hB : Below w0.heap.size w0 w') (hf : ∀ j, j < m → L.getD j true = true → zR R xs0 j w') :
  ∀ k, k ≤ m → ∃ xs w, (∀ j, j < m → L.getD j true = true → xs j = xs0 j) ∧ Below w'.heap.size w' w ∧ ∀ d, d < k → zR R xs d w := by
 intro k
 induction k with
 | zero => intro _; exact ⟨xs0, w', fun _ _ _ => rfl, Below.refl _ _, fun d hd => by omega⟩
 | succ k ih =>
  intro hk; obtain ⟨xs, w, h1, h2, h3⟩ := ih (by omega)
  by_cases hl : L.getD k true = true
  ·refine ⟨xs, w, h1, h2, fun d hd => ?_⟩
   by_cases hdk : d = k
   ·subst hdk; intro r hr; have := hf d (by omega) hl r hr; rw [h1 d (by omega) hl]; exact r.mono _ _ _ h2 this
   ·exact h3 d (by omega)
  ·cases hR : R k with
   | none =>
    refine ⟨xs, w, h1, h2, fun d hd => ?_⟩
    by_cases hdk : d = k
    ·subst hdk; intro r hr; rw [hR] at hr
     cases hr
    ·exact h3 d (by omega)
   | some r =>
    have hBw := jk hB h2; obtain ⟨lv, _, hok, _⟩ := QK (P := P) (a := a) hF.le hBw plan 0 (fun _ => none) hp (hq xs); obtain ⟨o, D, ho, hD, hcase⟩ := hok k (Nat.zero_le _) (by omega) h3; have hks := (Array.getElem?_eq_some_iff.1 ho).1
    rcases hcase with ⟨r', hr', _, _, hdo⟩ | ⟨hn, _⟩
    ·rw [hR] at hr'
     cases hr'
     have hd := hdo w hBw (fun d hd => h3 d (dep_lt hF hc k hks d (hD d hd)))
     have fin : ∀ w1, Below w.heap.size w w1 → ∀ x : Lt, r.post x w1 → ∃ xs w, (∀ j, j < m → L.getD j true = true → xs j = xs0 j) ∧ Below w'.heap.size w' w ∧ ∀ d, d < k + 1 → zR R xs d w := by
      intro w1 hb x hx; refine ⟨xM xs k x, w1, fun j hj hlj => ?_, jk h2 hb, fun d hd => ?_⟩
      ·have : j ≠ k := fun h => by subst h; exact hl hlj
       simp only [xM, if_neg this]; exact h1 j hj hlj
      ·intro r' hr'
       by_cases hdk : d = k
       ·subst hdk; rw [hR] at hr'
        cases hr'
        simpa [xM] using hx
       ·have := r'.mono _ _ _ hb (h3 d (by omega) r' hr')
        simpa [xM, hdk] using this
     revert hd
     generalize (execOp (qA ops a lv k).eval o).run P w = res
     intro hd
     cases res with
     | halt x ww => exact hd.elim
     | ok n ww =>
      cases n with
      | value v =>
       obtain ⟨hb, x, _, _, _, hx⟩ := hd; exact fin ww hb x hx
      | enter f args =>
       obtain ⟨rfl, hcall⟩ := hd; obtain ⟨e, w1, fr, ⟨v, _, hb, x, _, _, _, hx⟩, _⟩ := hcall []; exact fin w1 hb x hx
      | _ => exact hd.elim
    ·rw [hR] at hn; cases hn
def Apart (R : Nat → Option iU) (m N M : Nat) (L : Array Bool) (xs : Nat → Lt) : Prop :=
 (∀ j, j < m → L.getD j true = true → R j ≠ none → N ≤ (xs j).lo ∧ (xs j).lo ≤ (xs j).hi ∧ (xs j).hi ≤ M) ∧
 ∀ j k, j < m → k < m → L.getD j true = true → L.getD k true = true → R j ≠ none → R k ≠ none → j ≠ k → (xs j).hi ≤ (xs k).lo ∨ (xs k).hi ≤ (xs j).lo
theorem DX {w : World} {v1 v2 : Value} {r : Result Next} (h1 : pG P w v1 r) (h2 : pG P w v2 r) : v1 = v2 := by
 cases r with
 | halt x ww => exact h1.elim
 | ok n ww =>
  cases n with
  | value u => exact h1.2.symm.trans h2.2
  | skip => exact h1.2.trans h2.2.symm
  | enter f args => exact dM h1.2 h2.2
  | _ => exact h1.elim
end
section
variable {P : Program} {ops : Array Oper} {md : Region.Mode}
structure Inv (P : Program) (md : Region.Mode) (ops : Array Oper) (w0 : World) (R : Nat → Option iU) (T : List (List Nat)) (m : Nat) (a : Act) (L : Array Bool) (cur : Nat → Option Value) (xs : Nat → Lt) (w' : World) : Prop where
 size : L.size = ops.size
 late : ∀ j, m ≤ j → j < ops.size → L.getD j true = false
 below : Below w0.heap.size w0 w'
 closed : ∀ j o, ops[j]? = some o → L.getD j true = true → ∀ e ∈ o.after, Region.binds md e = true → L.getD e.on true = true
 facts : ∀ j, j < m → L.getD j true = true → zR R xs j w'
 free : ∀ j, L.getD j true = false → cur j = none
 apart : Apart R m w0.heap.size w'.heap.size L xs
 vals : ∀ BO w2 TJ, (∀ j, j < m → L.getD j true = true → BO j = xs j) → Below w'.heap.size w' w2 → (∀ d, d < m → zR R BO d w2) → (∀ j, j < m → okS P ops (fun w => Below w0.heap.size w0 w) R T BO w2 a TJ j) → ∀ j, j < m → L.getD j true = true → TJ j = cur j
theorem cur_put {cur : Nat → Option Value} {i m : Nat} {a : Act} {v : Value} (hd : ∀ j k t, qi ops j = some t → qi ops k = some t → j = k) (hf : cur i = none) (hi : i < m) :
  (qA ops a cur m).put (qi ops i) v = qA ops a (fun j => if j = i then some v else cur j) m := nH hd hf hi
theorem LW {o : Oper} (hpo : zN o = true) (e : Operand → Value) (w0 : World) : (∃ u, (execOp e o).run P w0 = .ok (.value u) w0) ∨ ∃ x ww, (execOp e o).run P w0 = .halt x ww := by
 unfold zN at hpo; simp only [Bool.and_eq_true] at hpo; have hpo := hpo.2; unfold execOp
 split at hpo
 ·rename_i x hx
  simp only [hx]; exact .inl ⟨_, rfl⟩
 ·rename_i t i hx
  simp only [hx]; unfold Instr.extract
  cases he : e t with
  | tuple vs =>
   cases hi : vs[i]? with
   | none => right; simp [hi]
   | some u => left; simp [hi]
  | _ => right; exact ⟨_, _, rfl⟩
 ·cases hpo
theorem apart_of {m : Nat} {al : Nat → Option Obj} (hF : TE md ops m al) {i j : Nat} {o oj : Oper} {L : Array Bool} (ho : ops[i]? = some o) (hoj : ops[j]? = some oj) (him : i < m) (hji : j ≠ i) (hno : ∀ e ∈ oj.after, Region.binds md e = true → e.on ≠ i)
  (hall : ∀ e ∈ o.after, Region.binds md e = true → L.getD e.on true = true) (huj : L.getD j true = false) : o.apart ops oj = true := by
 have hjn := (Array.getElem?_eq_some_iff.1 hoj).1; have dj : qi ops j = oj.dst := by simp [qi, hoj]
 have di : qi ops i = o.dst := by simp [qi, ho]
 have p1 : ∀ d, o.dst = some d → d ∉ oj.looksAt ops := by
  intro d hd ht
  rcases Nat.lt_or_ge j m with hjm | hjm
  ·obtain ⟨_, _, e, he, hb, hon⟩ := hF.reads j oj hoj hjm i d (di.trans hd) ht; exact hno e he hb hon
  ·rcases (hF.late j oj hoj hjm).2.2 i (by omega) with ⟨e, he, hb, hon⟩ | ⟨_, hl⟩
   ·exact hno e he hb hon
   ·exact hl d (di.trans hd) ht
 have p2 : ∀ d, o.dst = some d → oj.dst ≠ some d := fun d hd h => hji (hF.apart j i d (dj.trans h) (di.trans hd))
 have p3 : ∀ d, oj.dst = some d → d ∉ o.looksAt ops := by
  intro d hd ht; obtain ⟨_, _, e, he, hb, hon⟩ := hF.reads i o ho him j d (dj.trans hd) ht; have := hall e he hb; rw [hon, huj] at this
  cases this
 unfold Oper.apart
 cases hdo : o.dst with
 | none =>
  cases hdj : oj.dst with
  | none => rfl
  | some d => simpa using p3 d hdj
 | some d =>
  have a1 := p1 d hdo; have a2 := p2 d hdo
  cases hdj : oj.dst with
  | none => simpa [hdj] using a1
  | some d' =>
   have a3 := p3 d' hdj; rw [hdj] at a2; have a2' : d' ≠ d := fun h => a2 (by rw [h])
   simp [a1, a3, a2']
theorem phaseS {w0 : World} {R : Nat → Option iU} {T : List (List Nat)} {Q : Exit → Act → World → Prop} {m : Nat} {a : Act} {plan : List Item} (hF : TE md ops m (fun _ => none)) (hc : ZM md ops T = true) (hQ : ∀ (d : Tmp) v c a w, Q (.panic c) (a.put (some d) v) w → Q (.panic c) a w)
  (hp : Jp m (fun j => (R j).isSome) T plan 0 = true) (hRel : ∀ i o r, ops[i]? = some o → R i = some r → zN o = false)
  (hq : ∀ xs, wpS P ops (fun w => Below w0.heap.size w0 w) R xs (fun a' => ∀ w', Below w0.heap.size w0 w' → (∀ d, d < m → zR R xs d w') → Apart R m w0.heap.size w'.heap.size (Array.replicate m true) xs → wpList P ops Q (ops.toList.drop m) a' w') plan 0 a) :
  ∀ (fuel : Nat) (L : Array Bool) (cur : Nat → Option Value) (xs : Nat → Lt) (w' : World), left L ops.size = fuel → Inv P md ops w0 R T m a L cur xs w' → wpAny P md ops Q fuel L (qA ops a cur m) w' := by
 have hm := hF.le
 have fin : ∀ (fuel : Nat) (L : Array Bool) (cur : Nat → Option Value) (xs : Nat → Lt) (w' : World), left L ops.size = fuel → Inv P md ops w0 R T m a L cur xs w' → (∀ j, j < m → L.getD j true = true) → wpAny P md ops Q fuel L (qA ops a cur m) w' := by
  intro fuel L cur xs w' hf hI hall; have lN : ∀ d, d < m → zR R xs d w' := fun d hd => hI.facts d hd (hall d hd)
  obtain ⟨lv, _, hok, hK⟩ := QK (P := P) (a := a) hm hI.below plan 0 (fun _ => none) hp (hq xs); have hlv := hI.vals xs w' lv (fun _ _ _ => rfl) (Below.refl _ _) lN (fun j hj => hok j (Nat.zero_le _) hj (fun d hd => lN d (by omega))); have hK := hK lN; have hst : qA ops a cur m = qA ops a lv m := qh fun j hj => (hlv j hj (hall j hj)).symm
  have hrep : ∀ j, j < m → (Array.replicate m true).getD j true = true := fun j hj => by simp [hj]
  have hap : Apart R m w0.heap.size w'.heap.size (Array.replicate m true) xs :=
   ⟨fun j hj _ hr => hI.apart.1 j hj (hall j hj) hr, fun j k hj hk _ _ hr hr' hne => hI.apart.2 j k hj hk (hall j hj) (hall k hk) hr hr' hne⟩
  have hlen : (ops.toList.drop m).length = ops.size - m := by simp
  have hs := hI.size
  have hfu : fuel = (ops.toList.drop m).length := by
   have := Qq (L := L) (m := m) hall (k := ops.size - m) fun j h1 h2 => hI.late j h1 (by omega)
   rw [show m + (ops.size - m) = ops.size by omega] at this; omega
  rw [hfu, hst]; refine dS hF (ops.toList.drop m) m L _ w' ?_ (by omega) (Nat.le_refl _) (fun j hj => zo (by omega) (hall j hj)) (fun j h1 h2 => hI.late j h1 h2) ?_
  ·intro j hj
   simp
  ·exact hK w' hI.below lN hap
 intro fuel
 induction fuel with
 | zero =>
  intro L cur xs w' hf hI; refine fin 0 L cur xs w' hf hI fun j hj => ?_
  cases hv : L.getD j true with
  | true => rfl
  | false => have := yP hv (k := ops.size) (by omega); omega
 | succ fuel ih =>
  intro L cur xs w' hf hI
  by_cases hall : ∀ j, j < m → L.getD j true = true
  ·exact fin _ L cur xs w' hf hI hall
  ·have hs := hI.size; obtain ⟨BO, w2, hx1, hx2, hx3⟩ := completes (P := P) hF hc hp hq (L := L) (xs0 := xs) hI.below hI.facts m (Nat.le_refl _); obtain ⟨lv, _, hok, _⟩ := QK (P := P) (a := a) hm (jk hI.below hx2) plan 0 (fun _ => none) hp (hq BO); have hok : ∀ j, j < m → okS P ops (fun w => Below w0.heap.size w0 w) R T BO w2 a lv j := fun j hj => hok j (Nat.zero_le _) hj (fun d hd => hx3 d (by omega))
   have hlv := hI.vals BO w2 lv hx1 hx2 hx3 hok
   have same : ∀ lv : Nat → Option Value, (∀ j, j < m → L.getD j true = true → lv j = cur j) → ∀ i o, ops[i]? = some o → i < m → i ∈ Region.ready md ops L →
     execOp (qA ops a cur m).eval o = execOp (qA ops a lv i).eval o ∧ Region.wanted o (yielded ops (qA ops a cur m).tmps) = Region.wanted o (yielded ops (qA ops a lv i).tmps) := by
    intro lv hlv i o ho him hi; obtain ⟨hu, o', ho', hall'⟩ := mem_ready.1 hi; rw [ho] at ho'
    cases ho'
    refine VL (ops := ops) o (hF.sel i o · · ho) (x := qA ops a cur m) (y := qA ops a lv i) (fun t ht => ?_); rw [← ZJ (a := a) (f := lv) (Nat.le_of_lt him)]; refine NI fun j hj => ?_
    by_cases hdt : qi ops j = some t
    ·obtain ⟨h1, _, e, he, hb, hon⟩ := hF.reads i o ho him j t hdt ht; have := jQ (hall' e he hb); rw [hon] at this
     left
     simp [hlv j hj this, h1]
    ·exact .inr hdt
   have listed : ∀ i o, ops[i]? = some o → i ∈ Region.ready md ops L → ∀ d ∈ T.getD i [], d < m ∧ L.getD d true = true := by
    intro i o ho hi d hd; obtain ⟨hu, o', ho', hall'⟩ := mem_ready.1 hi; rw [ho] at ho'
    cases ho'
    have hl := VT hF hc hI.closed i o ho (fun e he hb => jQ (hall' e he hb)) d hd; have hin := (Array.getElem?_eq_some_iff.1 ho).1; have hlt := dep_lt hF hc i hin d hd; refine ⟨?_, hl⟩
    rcases Nat.lt_or_ge d m with h | h
    ·exact h
    ·have := hI.late d h (by omega); rw [hl] at this
     cases this
   have step : ∀ i o, ops[i]? = some o → i < m → i ∈ Region.ready md ops L → ∀ v (xs' : Nat → Lt) w'', Below w'.heap.size w' w'' → (∀ j, j < m → L.getD j true = true → xs' j = xs j) → zR R xs' i w'' →
     (R i ≠ none → (xs' i).lo = w'.heap.size ∧ (xs' i).hi = w''.heap.size) →
     (∀ BO w2 TJ, (∀ j, j < m → L.getD j true = true → BO j = xs j) → BO i = xs' i → Below w'.heap.size w' w2 → (∀ d, d < m → zR R BO d w2) → (∀ j, j < m → okS P ops (fun w => Below w0.heap.size w0 w) R T BO w2 a TJ j) → (∀ j, j < m → L.getD j true = true → TJ j = cur j) → TJ i = some v) →
     wpAny P md ops Q fuel (L.setIfInBounds i true) ((qA ops a cur m).put o.dst v) w'' := by
    intro i o ho him hi v xs' w'' hb hag hpost hlohi hval; obtain ⟨hu, o', ho', hall'⟩ := mem_ready.1 hi; rw [ho] at ho'
    cases ho'
    have hin := (Array.getElem?_eq_some_iff.1 ho).1; have hd : qi ops i = o.dst := by simp [qi, ho]
    have hlt : i < L.size := by omega
    have hset : ∀ j, j ≠ i → (L.setIfInBounds i true).getD j true = L.getD j true := fun j hj => getD_set_ne true (Ne.symm hj)
    have hsi : (L.setIfInBounds i true).getD i true = true := Zz hlt; rw [← hd, cur_put hF.apart (hI.free i hu) him]; refine ih _ _ xs' w'' ?_ ⟨by simp [hs], ?_, jk hI.below hb, ?_, ?_, ?_, ?_, ?_⟩
    ·have := QT hu (k := ops.size) hin; omega
    ·intro j h1 h2; rw [hset j (by omega)]; exact hI.late j h1 h2
    ·intro j oj hoj hl e he hbe
     by_cases hji : j = i
     ·subst hji; rw [ho] at hoj
      cases hoj
      have h1 := jQ (hall' e he hbe)
      by_cases hei : e.on = j
      ·rw [hei]; exact hsi
      ·rw [hset _ hei]; exact h1
     ·rw [hset j hji] at hl; have h1 := hI.closed j oj hoj hl e he hbe
      by_cases hei : e.on = i
      ·rw [hei]; exact hsi
      ·rw [hset _ hei]; exact h1
    ·intro j hj hl
     by_cases hji : j = i
     ·subst hji; exact hpost
     ·rw [hset j hji] at hl; intro r hr; have := r.mono _ _ _ hb (hI.facts j hj hl r hr); rw [hag j hj hl]; exact this
    ·intro j hl; have hji : j ≠ i := fun h => by rw [h, hsi] at hl; cases hl
     rw [hset j hji] at hl; simp only [if_neg hji]; exact hI.free j hl
    ·have hsz := hb.size
     constructor
     ·intro j hj hl hr
      by_cases hji : j = i
      ·subst hji; have := hlohi hr; have := hI.below.size; omega
      ·rw [hset j hji] at hl; rw [hag j hj hl]; have := hI.apart.1 j hj hl hr; omega
     ·intro j k hj hk hlj hlk hrj hrk hne
      by_cases hji : j = i
      ·subst hji; have hkj : k ≠ j := Ne.symm hne; rw [hset k hkj] at hlk; rw [hag k hk hlk]; have h1 := hlohi hrj; have h2 := hI.apart.1 k hk hlk hrk; omega
      ·rw [hset j hji] at hlj; rw [hag j hj hlj]
       by_cases hki : k = i
       ·subst hki; have h1 := hlohi hrk; have h2 := hI.apart.1 j hj hlj hrj; omega
       ·rw [hset k hki] at hlk; rw [hag k hk hlk]; exact hI.apart.2 j k hj hk hlj hlk hrj hrk hne
    ·intro BO w2 TJ h1 h2 h3 h4 j hj hl
     have g1 : ∀ j, j < m → L.getD j true = true → BO j = xs j := fun j hj hl => by
      have hji : j ≠ i := fun h => by rw [h, hu] at hl; cases hl
      exact (h1 j hj (by rw [hset j hji]; exact hl)).trans (hag j hj hl)
     have g2 := hI.vals BO w2 TJ g1 (jk hb h2) h3 h4
     by_cases hji : j = i
     ·subst hji; simp only [if_true]; exact hval BO w2 TJ g1 (h1 j hj hsi) (jk hb h2) h3 h4 g2
     ·rw [hset j hji] at hl; simp only [if_neg hji]; exact g2 j hj hl
   have float : ∀ i o, ops[i]? = some o → i < m → i ∈ Region.ready md ops L → R i = none → ∃ v, ((Region.wanted o (yielded ops (qA ops a cur m).tmps) = true ∧ pG P w' v ((execOp (qA ops a cur m).eval o).run P w')) ∨ (Region.wanted o (yielded ops (qA ops a cur m).tmps) = false ∧ v = undef)) ∧
     ∀ w'', Below w'.heap.size w' w'' → wpAny P md ops Q fuel (L.setIfInBounds i true) ((qA ops a cur m).put o.dst v) w'' := by
    intro i o ho him hi hRi; have hli := listed i o ho hi; obtain ⟨o', D, ho', hD, hcase⟩ := hok i him; rw [ho] at ho'
    cases ho'
    have hsame := same lv hlv i o ho him hi
    rcases hcase with ⟨r, hr, _⟩ | ⟨_, v, hv, hcc⟩
    ·rw [hRi] at hr; cases hr
    ·have hv1 : (Region.wanted o (yielded ops (qA ops a cur m).tmps) = true ∧ pG P w' v ((execOp (qA ops a cur m).eval o).run P w')) ∨ (Region.wanted o (yielded ops (qA ops a cur m).tmps) = false ∧ v = undef) := by
      rw [hsame.1, hsame.2]
      rcases hcc with ⟨hw, hcc⟩ | hcc
      ·exact .inl ⟨hw, hcc w' hI.below hx2 (fun d hd r hr => by
        have hdl := hli d (hD d hd); rw [hx1 d hdl.1 hdl.2]
        exact hI.facts d hdl.1 hdl.2 r hr)⟩
      ·exact .inr hcc
     refine ⟨v, hv1, fun w'' hb => step i o ho him hi v xs w'' hb (fun _ _ _ => rfl) (fun r hr => by rw [hRi] at hr; cases hr) (fun h => absurd hRi h) ?_⟩; intro xs3 w3 lv3 h1 _ h2 h3 h4 h5; obtain ⟨o', D', ho', hD', ET⟩ := h4 i him; rw [ho] at ho'
     cases ho'
     have hsame' := same lv3 h5 i o ho him hi
     rcases ET with ⟨r, hr, _⟩ | ⟨_, v', hv', vX⟩
     ·rw [hRi] at hr; cases hr
     ·rw [hv']; rw [← hsame'.1, ← hsame'.2] at vX
      rcases vX with ⟨hw', vX⟩ | ⟨hw', vX⟩
      ·rcases hv1 with ⟨_, hv1⟩ | ⟨hw, _⟩
       ·have := vX w' hI.below h2 (fun d hd r hr => by
         have hdl := hli d (hD' d hd); rw [h1 d hdl.1 hdl.2]
         exact hI.facts d hdl.1 hdl.2 r hr)
        rw [DX this hv1]
       ·rw [hw] at hw'; cases hw'
      ·rcases hv1 with ⟨hw, _⟩ | ⟨_, hv1⟩
       ·rw [hw] at hw'; cases hw'
       ·rw [vX, hv1]
   by_cases hpu : ∃ i o, i < m ∧ i ∈ Region.ready md ops L ∧ ops[i]? = some o ∧ zN o = true ∧ R i = none
   ·obtain ⟨i, o, him, hi, ho, hpo, hRi⟩ := hpu; obtain ⟨hu, o', ho', hall'⟩ := mem_ready.1 hi; rw [ho] at ho'
    cases ho'
    obtain ⟨v, hv, hnext⟩ := float i o ho him hi hRi; have hg : o.guard = none := by unfold zN at hpo; simp at hpo; exact hpo.1
    rcases hv with ⟨hw, hup⟩ | ⟨hw, _⟩
    ·have hval : (execOp (qA ops a cur m).eval o).run P w' = .ok (.value v) w' := by
      revert hup
      rcases LW (P := P) hpo (qA ops a cur m).eval w' with ⟨u, hu⟩ | ⟨x, ww, hu⟩
      ·rw [hu]; rintro ⟨_, rfl⟩; rfl
      ·rw [hu]; intro h; exact h.elim
     refine wpAny_first (v := v) ho hF.sel (fun c a1 w1 h => ?_) fuel L _ w' ?_ hi (.inl ⟨hw, fun w => VH hpo hval⟩) (hnext w' (Below.refl _ _))
     ·cases hdo : o.dst with
      | none => rw [hdo] at h; exact h
      | some d => rw [hdo] at h; exact hQ d v c a1 w1 h
     ·intro j oj hoj hji huj hno; exact apart_of hF ho hoj him hji hno (fun e he hb => jQ (hall' e he hb)) huj
    ·simp [Region.wanted, hg] at hw
   obtain ⟨i0, hi0, hu0, hb0⟩ := JP hall
   have fC : i0 ∈ Region.ready md ops L := mem_ready.2 ⟨hu0, ops[i0], by simp, fun e he hb => by
    have := hF.back i0 ops[i0] (by simp) e he hb
    exact zo (by omega) (hb0 _ this)⟩
   refine ⟨fun h' => (by rw [h'] at fC; cases fC), fun i hi => ?_⟩; obtain ⟨hu, o, ho, hall'⟩ := mem_ready.1 hi; have hin := (Array.getElem?_eq_some_iff.1 ho).1
   have him : i < m := by
    rcases Nat.lt_or_ge i m with h' | h'
    ·exact h'
    ·rcases (hF.late i o ho h').2.2 i0 (by omega) with ⟨e, he, hb, hon⟩ | ⟨⟨oj, hoj, hpj⟩, _⟩
     ·have := jQ (hall' e he hb); rw [hon, hu0] at this
      cases this
     ·have hRn : R i0 = none := by
       cases hR : R i0 with
       | none => rfl
       | some r =>
        rw [hRel i0 oj r hoj hR] at hpj
        cases hpj
      exact absurd ⟨i0, oj, hi0, fC, hoj, hpj, hRn⟩ hpu
   unfold wpOp; simp only [ho]
   cases hRi : R i with
   | none =>
    obtain ⟨v, hv, hnext⟩ := float i o ho him hi hRi
    rcases hv with ⟨hw, hup⟩ | ⟨hw, rfl⟩
    ·simp only [hw, if_true]
     left
     unfold Oper.wp
     revert hup
     cases (execOp (qA ops a cur m).eval o).run P w' with
     | halt x ww => intro h; exact h.elim
     | ok n ww =>
      cases n with
      | value u =>
       rintro ⟨rfl, rfl⟩; exact hnext _ (Below.refl _ _)
      | skip =>
       rintro ⟨rfl, rfl⟩; exact hnext _ (Below.refl _ _)
      | enter f args =>
       rintro ⟨rfl, h⟩; refine Calls.mono h ?_; rintro e w'' ⟨rfl, hb⟩; exact hnext _ hb
      | _ => intro h; exact h.elim
    ·simp only [hw]; exact hnext _ (Below.refl _ _)
   | some r =>
    have hli := listed i o ho hi; obtain ⟨o', D, ho', hD, hcase⟩ := hok i him; rw [ho] at ho'
    cases ho'
    have hsame := same lv hlv i o ho him hi
    rcases hcase with ⟨r', hr', hw, _, hdo⟩ | ⟨hn, _⟩
    ·rw [hRi] at hr'
     cases hr'
     rw [← hsame.2] at hw; simp only [hw, if_true]
     left
     have hdd := hdo w' hI.below (fun d hd r hr => by
      have hdl := hli d (hD d hd); rw [hx1 d hdl.1 hdl.2]
      exact hI.facts d hdl.1 hdl.2 r hr)
     rw [← hsame.1] at hdd
     have go : ∀ (v : Value) w'' (x : Lt), Below w'.heap.size w' w'' → v = r.val x → x.lo = w'.heap.size → x.hi = w''.heap.size → r.post x w'' → wpAny P md ops Q fuel (L.setIfInBounds i true) ((qA ops a cur m).put o.dst v) w'' := by
      intro v w'' x hb hvx hlo hhi hpx; refine step i o ho him hi v (xM xs i x) w'' hb (fun j hj hl => ?_) (fun r' hr' => ?_) (fun _ => by simp [xM, hlo, hhi]) ?_
      ·have hji : j ≠ i := fun h => by subst h; rw [hl] at hu; cases hu
       simp [xM, hji]
      ·rw [hRi] at hr'
       cases hr'
       simpa [xM] using hpx
      ·intro xs3 w3 lv3 _ hxi _ _ h4 _; obtain ⟨o', D', ho', hD', ET⟩ := h4 i him
       rcases ET with ⟨r', hr', _, hlvi, _⟩ | ⟨hn, _⟩
       ·rw [hRi] at hr'
        cases hr'
        rw [hlvi, hxi, hvx]
        simp [xM]
       ·rw [hRi] at hn; cases hn
     unfold Oper.wp
     revert hdd
     cases (execOp (qA ops a cur m).eval o).run P w' with
     | halt x ww => intro h; exact h.elim
     | ok n ww =>
      cases n with
      | value u =>
       rintro ⟨hb, x, hvx, hlo, hhi, hpx⟩; exact go u ww x hb hvx hlo hhi hpx
      | enter f args =>
       rintro ⟨rfl, h⟩; refine Calls.mono h ?_; rintro e w'' ⟨v, rfl, hb, x, hvx, hlo, hhi, hpx⟩; exact go v w'' x hb hvx hlo hhi hpx
      | _ => intro h; exact h.elim
    ·rw [hRi] at hn; cases hn
def seqB (md : Region.Mode) (ops : Array Oper) (m : Nat) (rel : Nat → Bool) (T : List (List Nat)) (plan : List Item) : Bool :=
 xN md ops m (fun _ => none) && ZM md ops T && Jp m rel T plan 0 && (List.range ops.size).all fun i => !rel i || match ops[i]? with
  | some o => !zN o
  | none => true
theorem Zr {id : Nat} {Q : Exit → Act → World → Prop} {a : Act} {w : World} {l : List Oper} (m : Nat) (rel : Nat → Bool) (R : Nat → Option iU) (T : List (List Nat)) (plan : List Item) (hm : P.follows .mixedOrders = true) (hB : seqB .any l.toArray m rel T plan = true) (hrel : ∀ j, (R j).isSome = rel j)
  (hQ : ∀ (d : Tmp) v c a w, Q (.panic c) (a.put (some d) v) w → Q (.panic c) a w)
  (h : ∀ xs : Nat → Lt, wpS P l.toArray (fun w' => Below w.heap.size w w') R xs (fun a' => ∀ w', Below w.heap.size w w' → (∀ d, d < m → zR R xs d w') → Apart R m w.heap.size w'.heap.size (Array.replicate m true) xs → wpList P l.toArray Q (l.drop m) a' w') plan 0 a) :
  (Code.region id l.toArray true).wp P Q a w := by
 have hrf : rel = fun j => (R j).isSome := funext fun j => (hrel j).symm
 subst hrf; simp only [seqB, Bool.and_eq_true, List.all_eq_true, List.mem_range] at hB; obtain ⟨⟨⟨h1, h2⟩, h3⟩, h4⟩ := hB; have hF := mG h1; refine wp_region_any hm ?_
 have key := phaseS (Q := Q) (a := a) (w0 := w) hF h2 hQ h3 (fun i o r ho hr => by
  have := h4 i (Array.getElem?_eq_some_iff.1 ho).1
  simpa [ho, hr] using this) (fun xs => by rw [List.toList_toArray]; exact h xs) l.toArray.size (Array.replicate l.toArray.size false) (fun _ => none) (fun _ => ⟨none, 0, 0, 0, 0⟩) { w with drawn := w.drawn + 1 } (by
   have := Qq (L := Array.replicate l.toArray.size false) (m := 0) (fun j hj => absurd hj (by omega)) (k := l.toArray.size) (fun j _ hj => by simp at hj; simp [hj])
   simpa using this) ?_
 ·have hnone : ∀ k, qA l.toArray a (fun _ => none) k = a := fun k => by
   induction k with
   | zero => rfl
   | succ k ih => simp only [qA]; exact ih
  rw [hnone] at key; exact key
 ·have hle : m ≤ l.length := by simpa using hF.le
  have hno : ∀ j, j < l.length → (Array.replicate l.toArray.size false).getD j true = true → False := fun j hj h => by simp [hj] at h
  refine ⟨by simp, fun j _ hj => by simp at hj; simp [hj], (Below.refl _ _).drew, ?_, fun j hj hl => (hno j (by omega) hl).elim, fun _ _ => rfl, ⟨fun j hj hl => (hno j (by omega) hl).elim, fun j k hj _ hl => (hno j (by omega) hl).elim⟩, fun BO w2 TJ _ _ _ _ j hj hl => (hno j (by omega) hl).elim⟩; intro j o ho hl; exact (hno j (by simpa using (Array.getElem?_eq_some_iff.1 ho).1) hl).elim
end
end Go.Proofs.YtmijablfjigbhaaGreatDoor
