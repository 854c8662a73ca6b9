/- A region that draws its order, of operations whose values hang on the world (calls and makes that hand out new memory), of reads and of calls that tell one value, then of stores: ONE walk, in the order of the text. -/
import Derived.Test.YtplhfbflgjnjmaaLay
namespace Go.Proofs.Ytplhfbflgjnjmaa
open Go.RowKit

/-- A letter: what a new value is made of; lo, hi: the new blocks lie between. -/
structure Lt where
  a : Option Addr
  n : Nat
  c : Nat
  lo : Nat
  hi : Nat
/-- An operation whose value hangs on the world: its value, of a letter, and what holds of it from then on. -/
structure Rel where
  val : Lt → Value
  post : Lt → World → Prop
  mono : ∀ x w w', Below w.heap.size w w' → post x w → post x w'
def holds (R : Nat → Option Rel) (xs : Nat → Lt) (j : Nat) (w : World) : Prop := ∀ r, R j = some r → r.post (xs j) w
theorem holds_later {R : Nat → Option Rel} {xs : Nat → Lt} {j : Nat} {w w' : World} (hb : Below w.heap.size w w') (h : holds R xs j w) : holds R xs j w' := fun r hr => r.mono _ _ _ hb (h r hr)
def does (P : Program) (w : World) (post : Value → World → Prop) : Result Next → Prop
  | .ok (.value v) w' => Below w.heap.size w w' ∧ post v w'
  | .ok (.enter f args) w' => w' = w ∧ Calls P f args w (fun e w'' => ∃ v, e = .returned v ∧ Below w.heap.size w w'' ∧ post v w'')
  | _ => False
inductive Item where
  | seg (n : Nat) (D : List Nat)
  | one (D : List Nat)
def Item.size : Item → Nat
  | .seg n _ => n
  | .one _ => 1
def upto : List Item → Nat
  | [] => 0
  | x :: p => x.size + upto p

section
variable {P : Program} {ops : Array Oper} {md : Region.Mode}
/-- The walk, for whatever letters. -/
def wpS (P : Program) (ops : Array Oper) (C : World → Prop) (R : Nat → Option Rel) (xs : Nat → Lt) (K : Act → Prop) : List Item → Nat → Act → Prop
  | [], _, a => K a
  | .seg n D :: p, i, a => ∀ F : World → Prop, Nonempty (Wd F) → (∀ w1 w2, F w1 → Below w1.heap.size w1 w2 → F w2) → (∀ w1, F w1 → C w1 ∧ ∀ j ∈ D, holds R xs j w1) →
      wpQuiet P ops (fun w' => ∃ x : Wd F, w' = x.world) (fun a' => wpS P ops C R xs K p (i + n) a') ((ops.toList.drop i).take n) a
  | .one D :: p, i, a => ∃ o r, ops[i]? = some o ∧ R i = some r ∧ Region.wanted o (yielded ops a.tmps) = true ∧
      (∀ w, C w → (∀ j ∈ D, holds R xs j w) → does P w (fun v w' => ∃ x : Lt, v = r.val x ∧ x.lo = w.heap.size ∧ x.hi = w'.heap.size ∧ r.post x w') ((execOp a.eval o).run P w)) ∧
      wpS P ops C R xs K p (i + 1) (a.put o.dst (r.val (xs i)))

/-- What the walk says of operation j, for these letters, in worlds that lead to w9. -/
def okS (P : Program) (ops : Array Oper) (C : World → Prop) (R : Nat → Option Rel) (T : List (List Nat)) (xs : Nat → Lt) (w9 : World) (a : Act) (lv : Nat → Option Value) (j : Nat) : Prop :=
  ∃ (o : Oper) (D : List Nat), ops[j]? = some o ∧ (∀ d ∈ D, d ∈ T.getD j []) ∧
    ((∃ r, R j = some r ∧ Region.wanted o (yielded ops (lay ops a lv j).tmps) = true ∧ lv j = some (r.val (xs j)) ∧
        ∀ w, C w → (∀ d ∈ D, holds R xs d w) → does P w (fun v w' => ∃ x : Lt, v = r.val x ∧ x.lo = w.heap.size ∧ x.hi = w'.heap.size ∧ r.post x w') ((execOp (lay ops a lv j).eval o).run P w)) ∨
     (R j = none ∧ ∃ v, lv j = some v ∧ ((Region.wanted o (yielded ops (lay ops a lv j).tmps) = true ∧ ∀ w, C w → Below w.heap.size w w9 → (∀ d ∈ D, holds R xs d w) → fUpon P w v ((execOp (lay ops a lv j).eval o).run P w)) ∨
        (Region.wanted o (yielded ops (lay ops a lv j).tmps) = false ∧ v = undef))))

/-- What is asked of the plan. -/
def planB (m : Nat) (rel : Nat → Bool) (T : List (List Nat)) : List Item → Nat → Bool
  | [], i => i == m
  | .seg n D :: p, i => ((List.range n).all fun k => !rel (i + k) && D.all fun d => (T.getD (i + k) []).contains d) && (D.all fun d => decide (d < i)) && planB m rel T p (i + n)
  | .one D :: p, i => rel i && (D.all fun d => (T.getD i []).contains d && decide (d < i)) && planB m rel T p (i + 1)
def closeB (md : Region.Mode) (ops : Array Oper) (T : List (List Nat)) : Bool :=
  (List.range ops.size).all fun i => (T.getD i []).all fun d => match ops[i]? with
    | some o => o.after.any fun e => Region.binds md e && (e.on == d || (T.getD e.on []).contains d)
    | none => false

theorem vals_from {C1 C2 : World → Prop} {lv1 lv2 : Nat → Option Value} {a : Act} {i : Nat} {u : World} (hu1 : C1 u) (hu2 : C2 u) (h0 : ∀ j, j < i → lv1 j = lv2 j) :
    ∀ n, (∀ j, i ≤ j → j < i + n → ∀ o, ops[j]? = some o → okAt (Oper.quietUpon P C1) P ops C1 (fun _ => none) j o (lay ops a lv1 j) (lv1 j)) → (∀ j, i ≤ j → j < i + n → ∀ o, ops[j]? = some o → okAt (Oper.quietUpon P C2) P ops C2 (fun _ => none) j o (lay ops a lv2 j) (lv2 j)) →
      i + n ≤ ops.size → ∀ j, j < i + n → lv1 j = lv2 j := by
  intro n
  induction n with
  | zero => intro _ _ _ j hj; exact h0 j hj
  | succ n ih =>
    intro h1 h2 hs j hj
    have ih := ih (fun j a b => h1 j a (by omega)) (fun j a b => h2 j a (by omega)) (by omega)
    by_cases hjk : j = i + n
    · subst hjk
      have ho : ops[i + n]? = some ops[i + n] := by simp
      have a1 := h1 (i + n) (by omega) (by omega) _ ho
      have a2 := h2 (i + n) (by omega) (by omega) _ ho
      rw [lay_congr (f := lv1) (g := lv2) ih] at a1
      rcases a1 with ⟨obj, ha, _⟩ | ⟨_, v, hx, hc⟩
      · cases ha
      · rcases a2 with ⟨obj', ha', _⟩ | ⟨_, v', hx', hc'⟩
        · cases ha'
        · rw [hx, hx']
          rcases hc with ⟨hw, hc⟩ | ⟨hw, hc⟩
          · rcases hc' with ⟨hw', hc'⟩ | ⟨hw', hc'⟩
            · rw [quietUpon_one (hc u hu1) (hc' u hu2)]
            · rw [hw] at hw'; cases hw'
          · rcases hc' with ⟨hw', hc'⟩ | ⟨hw', hc'⟩
            · rw [hw] at hw'; cases hw'
            · rw [hc, hc']
    · exact ih j (by omega)

theorem f_of_quiet {u : World} {v : Value} {r : Result Next} (h : Oper.quietUpon P (fun w' => ∃ x : Wd (fun w1 => Below u.heap.size u w1), w' = x.world) u v r) : fUpon P u v r := by
  cases r with
  | halt x ww => exact h.elim
  | ok n ww =>
    cases n with
    | value y => exact h
    | skip => exact h
    | enter f args => exact ⟨h.1, h.2.mono fun e w'' ⟨he, x, hx⟩ => ⟨he, by rw [hx]; exact x.fact⟩⟩
    | _ => exact h.elim

/-- **The values**: of these letters, and of a world in which all that they say holds. -/
theorem wpS_vals {w0 : World} {R : Nat → Option Rel} {T : List (List Nat)} {xs : Nat → Lt} {K : Act → Prop} {m : Nat} {a : Act} (hm : m ≤ ops.size) {w9 : World} (h9 : Below w0.heap.size w0 w9) :
    ∀ (p : List Item) (i : Nat) (lv0 : Nat → Option Value), planB m (fun j => (R j).isSome) T p i = true → wpS P ops (fun w => Below w0.heap.size w0 w) R xs K p i (lay ops a lv0 i) →
      ∃ lv : Nat → Option Value, (∀ j, j < i → lv j = lv0 j) ∧ (∀ j, i ≤ j → j < m → (∀ d, d < j → holds R xs d w9) → okS P ops (fun w => Below w0.heap.size w0 w) R T xs w9 a lv j) ∧ ((∀ d, d < m → holds R xs d w9) → K (lay ops a lv m))
  | [], i, lv0, hp, h => by
    obtain rfl : i = m := by simpa [planB] using hp
    exact ⟨lv0, fun _ _ => rfl, fun j h1 h2 => by omega, fun _ => h⟩
  | .one D :: p, i, lv0, hp, h => by
    simp only [planB, Bool.and_eq_true, List.all_eq_true, decide_eq_true_eq] at hp
    obtain ⟨⟨hr, hD⟩, hp⟩ := hp
    obtain ⟨o, r, ho, hri, hw, hdo, hk⟩ := h
    have hd : dstOf ops i = o.dst := by simp [dstOf, ho]
    have e : (lay ops a lv0 i).put o.dst (r.val (xs i)) = lay ops a (fun j => if j = i then some (r.val (xs i)) else lv0 j) (i + 1) := by
      simp only [lay, if_pos, hd]
      rw [lay_congr (f := fun j => if j = i then some (r.val (xs i)) else lv0 j) (g := lv0) (m := i) fun j hj => by simp [Nat.ne_of_lt hj]]
    rw [e] at hk
    obtain ⟨lv, h1, h2, h3⟩ := wpS_vals hm h9 p (i + 1) _ hp hk
    have hlt : ∀ j, j < i → lv j = lv0 j := fun j hj => by rw [h1 j (by omega)]; simp [Nat.ne_of_lt hj]
    refine ⟨lv, hlt, ?_, h3⟩
    intro j hj1 hj2 hf
    by_cases hji : j = i
    · subst hji
      refine ⟨o, D, ho, fun d hd => by simpa using (hD d hd).1, .inl ⟨r, hri, ?_, by rw [h1 j (by omega)]; simp, ?_⟩⟩
      · rw [lay_congr (g := lv0) hlt]; exact hw
      · rw [lay_congr (g := lv0) hlt]; exact hdo
    · exact h2 j (by omega) hj2 hf
  | .seg n D :: p, i, lv0, hp, h => by
    simp only [planB, Bool.and_eq_true, List.all_eq_true, decide_eq_true_eq, List.mem_range] at hp
    obtain ⟨⟨hr, hD⟩, hp⟩ := hp
    by_cases hf : ∀ d, d < i → holds R xs d w9
    · have hend : ∀ p i, planB m (fun j => (R j).isSome) T p i = true → i ≤ m := by
        intro p
        induction p with
        | nil => intro i h; have : i = m := by simpa [planB] using h
                 omega
        | cons x p ih =>
          intro i h
          cases x with
          | seg n D => simp only [planB, Bool.and_eq_true] at h; have := ih _ h.2; omega
          | one D => simp only [planB, Bool.and_eq_true] at h; have := ih _ h.2; omega
      have him := hend p (i + n) hp
      have hlen : ((ops.toList.drop i).take n).length = n := by simp; omega
      have hseg : ∀ u, Below w0.heap.size w0 u → (∀ d ∈ D, holds R xs d u) → ∃ lv : Nat → Option Value, (∀ j, j < i → lv j = lv0 j) ∧
          (∀ j, i ≤ j → j < i + n → ∀ o, ops[j]? = some o → okAt (Oper.quietUpon P fun w' => ∃ x : Wd (fun w1 => Below u.heap.size u w1), w' = x.world) P ops (fun w' => ∃ x : Wd (fun w1 => Below u.heap.size u w1), w' = x.world) (fun _ => none) j o (lay ops a lv j) (lv j)) ∧
          wpS P ops (fun w => Below w0.heap.size w0 w) R xs K p (i + n) (lay ops a lv (i + n)) := by
        intro u hu hdu
        have hq := h (fun w1 => Below u.heap.size u w1) ⟨⟨u, Below.refl _ _⟩⟩ (fun w1 w2 h1 h2 => below_later h1 h2) (fun w1 h1 => ⟨below_later hu h1, fun d hd => holds_later h1 (hdu d hd)⟩)
        have hF := wpF_seg (P := P) (ops := ops) (C := fun w' => ∃ x : Wd (fun w1 => Below u.heap.size u w1), w' = x.world) (al := fun _ => none) (K := fun a' => wpS P ops (fun w => Below w0.heap.size w0 w) R xs K p (i + n) a') n i ((ops.toList.drop i).take n) (lay ops a lv0 i) (fun _ _ _ => rfl) (by rw [hlen]; exact Nat.le_refl _)
          (by rw [List.take_of_length_le (l := (ops.toList.drop i).take n) (Nat.le_of_eq hlen), List.drop_eq_nil_of_le (as := (ops.toList.drop i).take n) (Nat.le_of_eq hlen)]; exact hq)
        obtain ⟨lv, h1, h2, h3⟩ := wpF_vals (lv0 := lv0) ((ops.toList.drop i).take n) i (fun j hj => by
          rw [hlen] at hj
          rw [List.getElem?_take, if_pos hj, List.getElem?_drop]
          simp) hF
        rw [hlen] at h2 h3
        exact ⟨lv, h1, h2, h3⟩
      obtain ⟨lv1, g1, g2, g3⟩ := hseg w9 h9 (fun d hd => hf d (hD d hd))
      obtain ⟨lv, h1, h2, h3⟩ := wpS_vals hm h9 p (i + n) lv1 hp g3
      refine ⟨lv, fun j hj => (h1 j (by omega)).trans (g1 j hj), ?_, h3⟩
      intro j hj1 hj2 hfj
      by_cases hjn : j < i + n
      · have ho : ops[j]? = some ops[j] := by simp
        have hj : lv j = lv1 j := h1 j hjn
        have hlay : lay ops a lv j = lay ops a lv1 j := lay_congr fun k hk => h1 k (by omega)
        obtain ⟨hrj, hDj⟩ := hr (j - i) (by omega)
        rw [show i + (j - i) = j by omega] at hrj hDj
        have hrn : R j = none := by simpa using hrj
        refine ⟨_, D, ho, fun d hd => by simpa using hDj d hd, .inr ⟨hrn, ?_⟩⟩
        rcases g2 j hj1 hjn _ ho with ⟨_, ha, _⟩ | ⟨_, v, hv, hc⟩
        · cases ha
        · refine ⟨v, hj.trans hv, ?_⟩
          rw [hlay]
          rcases hc with ⟨hw, hc⟩ | hc
          · refine .inl ⟨hw, fun u hu hu9 hdu => ?_⟩
            obtain ⟨lvu, k1, k2, _⟩ := hseg u hu hdu
            have hone := vals_from (P := P) (ops := ops) (a := a) (i := i) (u := w9) (C1 := fun w' => ∃ x : Wd (fun w1 => Below w9.heap.size w9 w1), w' = x.world) (C2 := fun w' => ∃ x : Wd (fun w1 => Below u.heap.size u w1), w' = x.world) ⟨⟨w9, Below.refl _ _⟩, rfl⟩ ⟨⟨w9, hu9⟩, rfl⟩ (fun j hj => (g1 j hj).trans (k1 j hj).symm) n g2 k2 (by omega)
            rcases k2 j hj1 hjn _ ho with ⟨_, ha, _⟩ | ⟨_, v', hv', hc'⟩
            · cases ha
            · have hvv : v = v' := by
                have := hone j hjn
                rw [hv, hv'] at this
                exact Option.some.inj this
              subst hvv
              rw [← lay_congr (ops := ops) (a := a) (f := lv1) (g := lvu) fun k hk => hone k (by omega)] at hc'
              rcases hc' with ⟨_, hc'⟩ | ⟨hw', _⟩
              · exact f_of_quiet (hc' u ⟨⟨u, Below.refl _ _⟩, rfl⟩)
              · rw [hw] at hw'; cases hw'
          · exact .inr hc
      · exact h2 j (by omega) hj2 hfj
    · refine ⟨lv0, fun _ _ => rfl, fun j h1 _ h3 => absurd (fun d hd => h3 d (by omega)) hf, fun h3 => ?_⟩
      have hend : ∀ p i, planB m (fun j => (R j).isSome) T p i = true → i ≤ m := by
        intro p
        induction p with
        | nil => intro i h; have : i = m := by simpa [planB] using h
                 omega
        | cons x p ih =>
          intro i h
          cases x with
          | seg n D => simp only [planB, Bool.and_eq_true] at h; have := ih _ h.2; omega
          | one D => simp only [planB, Bool.and_eq_true] at h; have := ih _ h.2; omega
      have := hend p (i + n) hp
      exact absurd (fun d hd => h3 d (by omega)) hf

theorem closeB_spec {T : List (List Nat)} (h : closeB md ops T = true) {i d : Nat} (hi : i < ops.size) (hd : d ∈ T.getD i []) : ∃ o, ops[i]? = some o ∧ ∃ e ∈ o.after, Region.binds md e = true ∧ (e.on = d ∨ d ∈ T.getD e.on []) := by
  unfold closeB at h
  simp only [List.all_eq_true, List.mem_range] at h
  have := h i hi d hd
  cases ho : ops[i]? with
  | none => simp [ho] at this
  | some o =>
    simp only [ho] at this
    rw [Array.any_eq_true'] at this
    obtain ⟨e, he, hb⟩ := this
    simp only [Bool.and_eq_true, Bool.or_eq_true, beq_iff_eq, List.contains_iff_mem] at hb
    exact ⟨o, rfl, e, he, hb.1, hb.2⟩
theorem dep_lt {T : List (List Nat)} {m : Nat} {al : Nat → Option Obj} (hF : Fresh md ops m al) (h : closeB md ops T = true) : ∀ (i : Nat), i < ops.size → ∀ d ∈ T.getD i [], d < i := by
  intro i
  induction i using Nat.strongRecOn with
  | _ i ih =>
    intro hi d hd
    obtain ⟨o, ho, e, he, hb, hon⟩ := closeB_spec h hi hd
    have hlt := hF.back i o ho e he hb
    rcases hon with rfl | hon
    · exact hlt
    · exact Nat.lt_trans (ih e.on hlt (by omega) d hon) hlt
theorem dep_listed {T : List (List Nat)} {m : Nat} {al : Nat → Option Obj} (hF : Fresh md ops m al) (h : closeB md ops T = true) {L : Array Bool} (hcl : ∀ j o, ops[j]? = some o → L.getD j true = true → ∀ e ∈ o.after, Region.binds md e = true → L.getD e.on true = true) :
    ∀ (i : Nat) (o : Oper), ops[i]? = some o → (∀ e ∈ o.after, Region.binds md e = true → L.getD e.on true = true) → ∀ d ∈ T.getD i [], L.getD d true = true := by
  intro i
  induction i using Nat.strongRecOn with
  | _ i ih =>
    intro o ho hall d hd
    have hi := (Array.getElem?_eq_some_iff.1 ho).1
    obtain ⟨o', ho', e, he, hb, hon⟩ := closeB_spec h hi hd
    rw [ho] at ho'
    cases ho'
    have hl := hall e he hb
    rcases hon with rfl | hon
    · exact hl
    · have hlt := hF.back i o ho e he hb
      have hoe : ops[e.on]? = some ops[e.on] := by simp
      exact ih e.on hlt _ hoe (hcl _ _ hoe hl) d hon

def setL (xs : Nat → Lt) (i : Nat) (x : Lt) : Nat → Lt := fun j => if j = i then x else xs j

/-- **What is left can be run in the order of the text**: there are letters, and a world, in which all holds. -/
theorem completes {w0 : World} {R : Nat → Option Rel} {T : List (List Nat)} {K : (Nat → Lt) → Act → Prop} {m : Nat} {a : Act} {plan : List Item} {al : Nat → Option Obj} (hF : Fresh md ops m al) (hc : closeB md ops T = true)
    (hp : planB m (fun j => (R j).isSome) T plan 0 = true) (hq : ∀ xs, wpS P ops (fun w => Below w0.heap.size w0 w) R xs (K xs) plan 0 a) {L : Array Bool} {xs0 : Nat → Lt} {w' : World} (hB : Below w0.heap.size w0 w') (hf : ∀ j, j < m → L.getD j true = true → holds R xs0 j w') :
    ∀ k, k ≤ m → ∃ xs w, (∀ j, j < m → L.getD j true = true → xs j = xs0 j) ∧ Below w'.heap.size w' w ∧ ∀ d, d < k → holds R xs d w := by
  intro k
  induction k with
  | zero => intro _; exact ⟨xs0, w', fun _ _ _ => rfl, Below.refl _ _, fun d hd => by omega⟩
  | succ k ih =>
    intro hk
    obtain ⟨xs, w, h1, h2, h3⟩ := ih (by omega)
    by_cases hl : L.getD k true = true
    · refine ⟨xs, w, h1, h2, fun d hd => ?_⟩
      by_cases hdk : d = k
      · subst hdk
        intro r hr
        have := hf d (by omega) hl r hr
        rw [h1 d (by omega) hl]
        exact r.mono _ _ _ h2 this
      · exact h3 d (by omega)
    · cases hR : R k with
      | none =>
        refine ⟨xs, w, h1, h2, fun d hd => ?_⟩
        by_cases hdk : d = k
        · subst hdk
          intro r hr
          rw [hR] at hr
          cases hr
        · exact h3 d (by omega)
      | some r =>
        have hBw := below_later hB h2
        obtain ⟨lv, _, hok, _⟩ := wpS_vals (P := P) (a := a) hF.le hBw plan 0 (fun _ => none) hp (hq xs)
        obtain ⟨o, D, ho, hD, hcase⟩ := hok k (Nat.zero_le _) (by omega) h3
        have hks := (Array.getElem?_eq_some_iff.1 ho).1
        rcases hcase with ⟨r', hr', _, _, hdo⟩ | ⟨hn, _⟩
        · rw [hR] at hr'
          cases hr'
          have hd := hdo w hBw (fun d hd => h3 d (dep_lt hF hc k hks d (hD d hd)))
          have fin : ∀ w1, Below w.heap.size w w1 → ∀ x : Lt, r.post x w1 → ∃ xs w, (∀ j, j < m → L.getD j true = true → xs j = xs0 j) ∧ Below w'.heap.size w' w ∧ ∀ d, d < k + 1 → holds R xs d w := by
            intro w1 hb x hx
            refine ⟨setL xs k x, w1, fun j hj hlj => ?_, below_later h2 hb, fun d hd => ?_⟩
            · have : j ≠ k := fun h => by subst h; exact hl hlj
              simp only [setL, if_neg this]
              exact h1 j hj hlj
            · intro r' hr'
              by_cases hdk : d = k
              · subst hdk
                rw [hR] at hr'
                cases hr'
                simpa [setL] using hx
              · have := r'.mono _ _ _ hb (h3 d (by omega) r' hr')
                simpa [setL, hdk] using this
          revert hd
          generalize (execOp (lay ops a lv k).eval o).run P w = res
          intro hd
          cases res with
          | halt x ww => exact hd.elim
          | ok n ww =>
            cases n with
            | value v =>
              obtain ⟨hb, x, _, _, _, hx⟩ := hd
              exact fin ww hb x hx
            | enter f args =>
              obtain ⟨rfl, hcall⟩ := hd
              obtain ⟨e, w1, fr, ⟨v, _, hb, x, _, _, _, hx⟩, _⟩ := hcall []
              exact fin w1 hb x hx
            | _ => exact hd.elim
        · rw [hR] at hn; cases hn

/-- The new blocks of two operations are apart. -/
def Apart (R : Nat → Option Rel) (m N M : Nat) (L : Array Bool) (xs : Nat → Lt) : Prop :=
  (∀ j, j < m → L.getD j true = true → R j ≠ none → N ≤ (xs j).lo ∧ (xs j).lo ≤ (xs j).hi ∧ (xs j).hi ≤ M) ∧
  ∀ j k, j < m → k < m → L.getD j true = true → L.getD k true = true → R j ≠ none → R k ≠ none → j ≠ k → (xs j).hi ≤ (xs k).lo ∨ (xs k).hi ≤ (xs j).lo

theorem fUpon_one {w : World} {v1 v2 : Value} {r : Result Next} (h1 : fUpon P w v1 r) (h2 : fUpon P w v2 r) : v1 = v2 := by
  cases r with
  | halt x ww => exact h1.elim
  | ok n ww =>
    cases n with
    | value u => exact h1.2.symm.trans h2.2
    | skip => exact h1.2.trans h2.2.symm
    | enter f args => exact calls_val h1.2 h2.2
    | _ => exact h1.elim
end
end Go.Proofs.Ytplhfbflgjnjmaa
