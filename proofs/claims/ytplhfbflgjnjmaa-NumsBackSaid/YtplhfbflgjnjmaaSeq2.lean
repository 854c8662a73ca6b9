/- The soundness of Seq's walk. -/
import Derived.Test.YtplhfbflgjnjmaaSeq
namespace Go.Proofs.Ytplhfbflgjnjmaa
open Go.RowKit
section
variable {P : Program} {ops : Array Oper} {md : Region.Mode}

structure Inv (P : Program) (md : Region.Mode) (ops : Array Oper) (w0 : World) (R : Nat → Option Rel) (T : List (List Nat)) (m : Nat) (a : Act) (L : Array Bool) (cur : Nat → Option Value) (xs : Nat → Lt) (w' : World) : Prop where
  size : L.size = ops.size
  late : ∀ j, m ≤ j → j < ops.size → L.getD j true = false
  below : Below w0.heap.size w0 w'
  closed : ∀ j o, ops[j]? = some o → L.getD j true = true → ∀ e ∈ o.after, Region.binds md e = true → L.getD e.on true = true
  facts : ∀ j, j < m → L.getD j true = true → holds R xs j w'
  free : ∀ j, L.getD j true = false → cur j = none
  apart : Apart R m w0.heap.size w'.heap.size L xs
  vals : ∀ xs2 w2 lv2, (∀ j, j < m → L.getD j true = true → xs2 j = xs j) → Below w'.heap.size w' w2 → (∀ d, d < m → holds R xs2 d w2) → (∀ j, j < m → okS P ops (fun w => Below w0.heap.size w0 w) R T xs2 w2 a lv2 j) → ∀ j, j < m → L.getD j true = true → lv2 j = cur j

theorem cur_put {cur : Nat → Option Value} {i m : Nat} {a : Act} {v : Value} (hd : ∀ j k t, dstOf ops j = some t → dstOf ops k = some t → j = k) (hf : cur i = none) (hi : i < m) :
    (lay ops a cur m).put (dstOf ops i) v = lay ops a (fun j => if j = i then some v else cur j) m := lay_set hd hf hi

theorem pure_kind {o : Oper} (hpo : pureOp o = true) (e : Operand → Value) (w0 : World) : (∃ u, (execOp e o).run P w0 = .ok (.value u) w0) ∨ ∃ x ww, (execOp e o).run P w0 = .halt x ww := by
  unfold pureOp at hpo
  simp only [Bool.and_eq_true] at hpo
  have hpo := hpo.2
  unfold execOp
  split at hpo
  · rename_i x hx
    simp only [hx]
    exact .inl ⟨_, rfl⟩
  · rename_i t i hx
    simp only [hx]
    unfold Instr.extract
    cases he : e t with
    | tuple vs =>
      cases hi : vs[i]? with
      | none => right; simp [hi]
      | some u => left; simp [hi]
    | _ => right; exact ⟨_, _, rfl⟩
  · cases hpo
theorem apart_of {m : Nat} {al : Nat → Option Obj} (hF : Fresh md ops m al) {i j : Nat} {o oj : Oper} {L : Array Bool} (ho : ops[i]? = some o) (hoj : ops[j]? = some oj) (him : i < m) (hji : j ≠ i) (hno : ∀ e ∈ oj.after, Region.binds md e = true → e.on ≠ i)
    (hall : ∀ e ∈ o.after, Region.binds md e = true → L.getD e.on true = true) (huj : L.getD j true = false) : o.apart ops oj = true := by
  have hjn := (Array.getElem?_eq_some_iff.1 hoj).1
  have dj : dstOf ops j = oj.dst := by simp [dstOf, hoj]
  have di : dstOf ops i = o.dst := by simp [dstOf, ho]
  have p1 : ∀ d, o.dst = some d → d ∉ oj.looksAt ops := by
    intro d hd ht
    rcases Nat.lt_or_ge j m with hjm | hjm
    · obtain ⟨_, _, e, he, hb, hon⟩ := hF.reads j oj hoj hjm i d (di.trans hd) ht
      exact hno e he hb hon
    · rcases (hF.late j oj hoj hjm).2.2 i (by omega) with ⟨e, he, hb, hon⟩ | ⟨_, hl⟩
      · exact hno e he hb hon
      · exact hl d (di.trans hd) ht
  have p2 : ∀ d, o.dst = some d → oj.dst ≠ some d := fun d hd h => hji (hF.apart j i d (dj.trans h) (di.trans hd))
  have p3 : ∀ d, oj.dst = some d → d ∉ o.looksAt ops := by
    intro d hd ht
    obtain ⟨_, _, e, he, hb, hon⟩ := hF.reads i o ho him j d (dj.trans hd) ht
    have := hall e he hb
    rw [hon, huj] at this
    cases this
  unfold Oper.apart
  cases hdo : o.dst with
  | none =>
    cases hdj : oj.dst with
    | none => rfl
    | some d => simpa using p3 d hdj
  | some d =>
    have a1 := p1 d hdo
    have a2 := p2 d hdo
    cases hdj : oj.dst with
    | none => simpa [hdj] using a1
    | some d' =>
      have a3 := p3 d' hdj
      rw [hdj] at a2
      have a2' : d' ≠ d := fun h => a2 (by rw [h])
      simp [a1, a3, a2']

theorem phaseS {w0 : World} {R : Nat → Option Rel} {T : List (List Nat)} {Q : Exit → Act → World → Prop} {m : Nat} {a : Act} {plan : List Item} (hF : Fresh md ops m (fun _ => none)) (hc : closeB md ops T = true) (hQ : ∀ (d : Tmp) v c a w, Q (.panic c) (a.put (some d) v) w → Q (.panic c) a w)
    (hp : planB m (fun j => (R j).isSome) T plan 0 = true) (hRel : ∀ i o r, ops[i]? = some o → R i = some r → pureOp o = false)
    (hq : ∀ xs, wpS P ops (fun w => Below w0.heap.size w0 w) R xs (fun a' => ∀ w', Below w0.heap.size w0 w' → (∀ d, d < m → holds R xs d w') → Apart R m w0.heap.size w'.heap.size (Array.replicate m true) xs → wpList P ops Q (ops.toList.drop m) a' w') plan 0 a) :
    ∀ (fuel : Nat) (L : Array Bool) (cur : Nat → Option Value) (xs : Nat → Lt) (w' : World), left L ops.size = fuel → Inv P md ops w0 R T m a L cur xs w' → wpAny P md ops Q fuel L (lay ops a cur m) w' := by
  have hm := hF.le
  have fin : ∀ (fuel : Nat) (L : Array Bool) (cur : Nat → Option Value) (xs : Nat → Lt) (w' : World), left L ops.size = fuel → Inv P md ops w0 R T m a L cur xs w' → (∀ j, j < m → L.getD j true = true) → wpAny P md ops Q fuel L (lay ops a cur m) w' := by
    intro fuel L cur xs w' hf hI hall
    have hfacts : ∀ d, d < m → holds R xs d w' := fun d hd => hI.facts d hd (hall d hd)
    obtain ⟨lv, _, hok, hK⟩ := wpS_vals (P := P) (a := a) hm hI.below plan 0 (fun _ => none) hp (hq xs)
    have hlv := hI.vals xs w' lv (fun _ _ _ => rfl) (Below.refl _ _) hfacts (fun j hj => hok j (Nat.zero_le _) hj (fun d hd => hfacts d (by omega)))
    have hK := hK hfacts
    have hst : lay ops a cur m = lay ops a lv m := lay_congr fun j hj => (hlv j hj (hall j hj)).symm
    have hrep : ∀ j, j < m → (Array.replicate m true).getD j true = true := fun j hj => by simp [hj]
    have hap : Apart R m w0.heap.size w'.heap.size (Array.replicate m true) xs :=
      ⟨fun j hj _ hr => hI.apart.1 j hj (hall j hj) hr, fun j k hj hk _ _ hr hr' hne => hI.apart.2 j k hj hk (hall j hj) (hall k hk) hr hr' hne⟩
    have hlen : (ops.toList.drop m).length = ops.size - m := by simp
    have hs := hI.size
    have hfu : fuel = (ops.toList.drop m).length := by
      have := left_rest (L := L) (m := m) hall (k := ops.size - m) fun j h1 h2 => hI.late j h1 (by omega)
      rw [show m + (ops.size - m) = ops.size by omega] at this
      omega
    rw [hfu, hst]
    refine phase2 hF (ops.toList.drop m) m L _ w' ?_ (by omega) (Nat.le_refl _) (fun j hj => getD_false_of_true (by omega) (hall j hj)) (fun j h1 h2 => hI.late j h1 h2) ?_
    · intro j hj
      simp
    · exact hK w' hI.below hfacts hap
  intro fuel
  induction fuel with
  | zero =>
    intro L cur xs w' hf hI
    refine fin 0 L cur xs w' hf hI fun j hj => ?_
    cases hv : L.getD j true with
    | true => rfl
    | false => have := left_pos hv (k := ops.size) (by omega); omega
  | succ fuel ih =>
    intro L cur xs w' hf hI
    by_cases hall : ∀ j, j < m → L.getD j true = true
    · exact fin _ L cur xs w' hf hI hall
    · have hs := hI.size
      obtain ⟨xs2, w2, hx1, hx2, hx3⟩ := completes (P := P) hF hc hp hq (L := L) (xs0 := xs) hI.below hI.facts m (Nat.le_refl _)
      obtain ⟨lv, _, hok, _⟩ := wpS_vals (P := P) (a := a) hm (below_later hI.below hx2) plan 0 (fun _ => none) hp (hq xs2)
      have hok : ∀ j, j < m → okS P ops (fun w => Below w0.heap.size w0 w) R T xs2 w2 a lv j := fun j hj => hok j (Nat.zero_le _) hj (fun d hd => hx3 d (by omega))
      have hlv := hI.vals xs2 w2 lv hx1 hx2 hx3 hok
      -- an operation that may come up looks at what stands there
      have same : ∀ lv : Nat → Option Value, (∀ j, j < m → L.getD j true = true → lv j = cur j) → ∀ i o, ops[i]? = some o → i < m → i ∈ Region.ready md ops L →
          execOp (lay ops a cur m).eval o = execOp (lay ops a lv i).eval o ∧ Region.wanted o (yielded ops (lay ops a cur m).tmps) = Region.wanted o (yielded ops (lay ops a lv i).tmps) := by
        intro lv hlv i o ho him hi
        obtain ⟨hu, o', ho', hall'⟩ := mem_ready.1 hi
        rw [ho] at ho'
        cases ho'
        refine exec_same (ops := ops) o (hF.sel i o · · ho) (x := lay ops a cur m) (y := lay ops a lv i) (fun t ht => ?_)
        rw [← lay_prefix (a := a) (f := lv) (Nat.le_of_lt him)]
        refine lay_tmps fun j hj => ?_
        by_cases hdt : dstOf ops j = some t
        · obtain ⟨h1, _, e, he, hb, hon⟩ := hF.reads i o ho him j t hdt ht
          have := getD_true_of_false (hall' e he hb)
          rw [hon] at this
          left
          simp [hlv j hj this, h1]
        · exact .inr hdt
      have listed : ∀ i o, ops[i]? = some o → i ∈ Region.ready md ops L → ∀ d ∈ T.getD i [], d < m ∧ L.getD d true = true := by
        intro i o ho hi d hd
        obtain ⟨hu, o', ho', hall'⟩ := mem_ready.1 hi
        rw [ho] at ho'
        cases ho'
        have hl := dep_listed hF hc hI.closed i o ho (fun e he hb => getD_true_of_false (hall' e he hb)) d hd
        have hin := (Array.getElem?_eq_some_iff.1 ho).1
        have hlt := dep_lt hF hc i hin d hd
        refine ⟨?_, hl⟩
        rcases Nat.lt_or_ge d m with h | h
        · exact h
        · have := hI.late d h (by omega)
          rw [hl] at this
          cases this
      -- what is left when operation i has yielded its value
      have step : ∀ i o, ops[i]? = some o → i < m → i ∈ Region.ready md ops L → ∀ v (xs' : Nat → Lt) w'', Below w'.heap.size w' w'' → (∀ j, j < m → L.getD j true = true → xs' j = xs j) → holds R xs' i w'' →
          (R i ≠ none → (xs' i).lo = w'.heap.size ∧ (xs' i).hi = w''.heap.size) →
          (∀ xs2 w2 lv2, (∀ j, j < m → L.getD j true = true → xs2 j = xs j) → xs2 i = xs' i → Below w'.heap.size w' w2 → (∀ d, d < m → holds R xs2 d w2) → (∀ j, j < m → okS P ops (fun w => Below w0.heap.size w0 w) R T xs2 w2 a lv2 j) → (∀ j, j < m → L.getD j true = true → lv2 j = cur j) → lv2 i = some v) →
          wpAny P md ops Q fuel (L.setIfInBounds i true) ((lay ops a cur m).put o.dst v) w'' := by
        intro i o ho him hi v xs' w'' hb hag hpost hlohi hval
        obtain ⟨hu, o', ho', hall'⟩ := mem_ready.1 hi
        rw [ho] at ho'
        cases ho'
        have hin := (Array.getElem?_eq_some_iff.1 ho).1
        have hd : dstOf ops i = o.dst := by simp [dstOf, ho]
        have hlt : i < L.size := by omega
        have hset : ∀ j, j ≠ i → (L.setIfInBounds i true).getD j true = L.getD j true := fun j hj => getD_set_ne true (Ne.symm hj)
        have hsi : (L.setIfInBounds i true).getD i true = true := getD_set_same hlt
        rw [← hd, cur_put hF.apart (hI.free i hu) him]
        refine ih _ _ xs' w'' ?_ ⟨by simp [hs], ?_, below_later hI.below hb, ?_, ?_, ?_, ?_, ?_⟩
        · have := left_set hu (k := ops.size) hin
          omega
        · intro j h1 h2
          rw [hset j (by omega)]
          exact hI.late j h1 h2
        · intro j oj hoj hl e he hbe
          by_cases hji : j = i
          · subst hji
            rw [ho] at hoj
            cases hoj
            have h1 := getD_true_of_false (hall' e he hbe)
            by_cases hei : e.on = j
            · rw [hei]; exact hsi
            · rw [hset _ hei]; exact h1
          · rw [hset j hji] at hl
            have h1 := hI.closed j oj hoj hl e he hbe
            by_cases hei : e.on = i
            · rw [hei]; exact hsi
            · rw [hset _ hei]; exact h1
        · intro j hj hl
          by_cases hji : j = i
          · subst hji; exact hpost
          · rw [hset j hji] at hl
            intro r hr
            have := r.mono _ _ _ hb (hI.facts j hj hl r hr)
            rw [hag j hj hl]
            exact this
        · intro j hl
          have hji : j ≠ i := fun h => by rw [h, hsi] at hl; cases hl
          rw [hset j hji] at hl
          simp only [if_neg hji]
          exact hI.free j hl
        · have hsz := hb.size
          constructor
          · intro j hj hl hr
            by_cases hji : j = i
            · subst hji
              have := hlohi hr
              have := hI.below.size
              omega
            · rw [hset j hji] at hl
              rw [hag j hj hl]
              have := hI.apart.1 j hj hl hr
              omega
          · intro j k hj hk hlj hlk hrj hrk hne
            by_cases hji : j = i
            · subst hji
              have hkj : k ≠ j := Ne.symm hne
              rw [hset k hkj] at hlk
              rw [hag k hk hlk]
              have h1 := hlohi hrj
              have h2 := hI.apart.1 k hk hlk hrk
              omega
            · rw [hset j hji] at hlj
              rw [hag j hj hlj]
              by_cases hki : k = i
              · subst hki
                have h1 := hlohi hrk
                have h2 := hI.apart.1 j hj hlj hrj
                omega
              · rw [hset k hki] at hlk
                rw [hag k hk hlk]
                exact hI.apart.2 j k hj hk hlj hlk hrj hrk hne
        · intro xs2 w2 lv2 h1 h2 h3 h4 j hj hl
          have g1 : ∀ j, j < m → L.getD j true = true → xs2 j = xs j := fun j hj hl => by
            have hji : j ≠ i := fun h => by rw [h, hu] at hl; cases hl
            exact (h1 j hj (by rw [hset j hji]; exact hl)).trans (hag j hj hl)
          have g2 := hI.vals xs2 w2 lv2 g1 (below_later hb h2) h3 h4
          by_cases hji : j = i
          · subst hji
            simp only [if_true]
            exact hval xs2 w2 lv2 g1 (h1 j hj hsi) (below_later hb h2) h3 h4 g2
          · rw [hset j hji] at hl
            simp only [if_neg hji]
            exact g2 j hj hl
      -- a read, or a call that tells one value
      have float : ∀ i o, ops[i]? = some o → i < m → i ∈ Region.ready md ops L → R i = none → ∃ v, ((Region.wanted o (yielded ops (lay ops a cur m).tmps) = true ∧ fUpon P w' v ((execOp (lay ops a cur m).eval o).run P w')) ∨ (Region.wanted o (yielded ops (lay ops a cur m).tmps) = false ∧ v = undef)) ∧
          ∀ w'', Below w'.heap.size w' w'' → wpAny P md ops Q fuel (L.setIfInBounds i true) ((lay ops a cur m).put o.dst v) w'' := by
        intro i o ho him hi hRi
        have hli := listed i o ho hi
        obtain ⟨o', D, ho', hD, hcase⟩ := hok i him
        rw [ho] at ho'
        cases ho'
        have hsame := same lv hlv i o ho him hi
        rcases hcase with ⟨r, hr, _⟩ | ⟨_, v, hv, hcc⟩
        · rw [hRi] at hr; cases hr
        · have hv1 : (Region.wanted o (yielded ops (lay ops a cur m).tmps) = true ∧ fUpon P w' v ((execOp (lay ops a cur m).eval o).run P w')) ∨ (Region.wanted o (yielded ops (lay ops a cur m).tmps) = false ∧ v = undef) := by
            rw [hsame.1, hsame.2]
            rcases hcc with ⟨hw, hcc⟩ | hcc
            · exact .inl ⟨hw, hcc w' hI.below hx2 (fun d hd r hr => by
                have hdl := hli d (hD d hd)
                rw [hx1 d hdl.1 hdl.2]
                exact hI.facts d hdl.1 hdl.2 r hr)⟩
            · exact .inr hcc
          refine ⟨v, hv1, fun w'' hb => step i o ho him hi v xs w'' hb (fun _ _ _ => rfl) (fun r hr => by rw [hRi] at hr; cases hr) (fun h => absurd hRi h) ?_⟩
          intro xs3 w3 lv3 h1 _ h2 h3 h4 h5
          obtain ⟨o', D', ho', hD', hcase'⟩ := h4 i him
          rw [ho] at ho'
          cases ho'
          have hsame' := same lv3 h5 i o ho him hi
          rcases hcase' with ⟨r, hr, _⟩ | ⟨_, v', hv', hcc'⟩
          · rw [hRi] at hr; cases hr
          · rw [hv']
            rw [← hsame'.1, ← hsame'.2] at hcc'
            rcases hcc' with ⟨hw', hcc'⟩ | ⟨hw', hcc'⟩
            · rcases hv1 with ⟨_, hv1⟩ | ⟨hw, _⟩
              · have := hcc' w' hI.below h2 (fun d hd r hr => by
                  have hdl := hli d (hD' d hd)
                  rw [h1 d hdl.1 hdl.2]
                  exact hI.facts d hdl.1 hdl.2 r hr)
                rw [fUpon_one this hv1]
              · rw [hw] at hw'; cases hw'
            · rcases hv1 with ⟨hw, _⟩ | ⟨_, hv1⟩
              · rw [hw] at hw'; cases hw'
              · rw [hcc', hv1]
      by_cases hpu : ∃ i o, i < m ∧ i ∈ Region.ready md ops L ∧ ops[i]? = some o ∧ pureOp o = true ∧ R i = none
      · obtain ⟨i, o, him, hi, ho, hpo, hRi⟩ := hpu
        obtain ⟨hu, o', ho', hall'⟩ := mem_ready.1 hi
        rw [ho] at ho'
        cases ho'
        obtain ⟨v, hv, hnext⟩ := float i o ho him hi hRi
        have hg : o.guard = none := by unfold pureOp at hpo; simp at hpo; exact hpo.1
        rcases hv with ⟨hw, hup⟩ | ⟨hw, _⟩
        · have hval : (execOp (lay ops a cur m).eval o).run P w' = .ok (.value v) w' := by
            revert hup
            rcases pure_kind (P := P) hpo (lay ops a cur m).eval w' with ⟨u, hu⟩ | ⟨x, ww, hu⟩
            · rw [hu]; rintro ⟨_, rfl⟩; rfl
            · rw [hu]; intro h; exact h.elim
          refine wpAny_first (v := v) ho hF.sel (fun c a1 w1 h => ?_) fuel L _ w' ?_ hi (.inl ⟨hw, fun w => pure_run hpo hval⟩) (hnext w' (Below.refl _ _))
          · cases hdo : o.dst with
            | none => rw [hdo] at h; exact h
            | some d => rw [hdo] at h; exact hQ d v c a1 w1 h
          · intro j oj hoj hji huj hno
            exact apart_of hF ho hoj him hji hno (fun e he hb => getD_true_of_false (hall' e he hb)) huj
        · simp [Region.wanted, hg] at hw
      obtain ⟨i0, hi0, hu0, hb0⟩ := least_unlisted hall
      have hready : i0 ∈ Region.ready md ops L := mem_ready.2 ⟨hu0, ops[i0], by simp, fun e he hb => by
        have := hF.back i0 ops[i0] (by simp) e he hb
        exact getD_false_of_true (by omega) (hb0 _ this)⟩
      refine ⟨fun h' => (by rw [h'] at hready; cases hready), fun i hi => ?_⟩
      obtain ⟨hu, o, ho, hall'⟩ := mem_ready.1 hi
      have hin := (Array.getElem?_eq_some_iff.1 ho).1
      have him : i < m := by
        rcases Nat.lt_or_ge i m with h' | h'
        · exact h'
        · rcases (hF.late i o ho h').2.2 i0 (by omega) with ⟨e, he, hb, hon⟩ | ⟨⟨oj, hoj, hpj⟩, _⟩
          · have := getD_true_of_false (hall' e he hb)
            rw [hon, hu0] at this
            cases this
          · have hRn : R i0 = none := by
              cases hR : R i0 with
              | none => rfl
              | some r =>
                rw [hRel i0 oj r hoj hR] at hpj
                cases hpj
            exact absurd ⟨i0, oj, hi0, hready, hoj, hpj, hRn⟩ hpu
      unfold wpOp
      simp only [ho]
      cases hRi : R i with
      | none =>
        obtain ⟨v, hv, hnext⟩ := float i o ho him hi hRi
        rcases hv with ⟨hw, hup⟩ | ⟨hw, rfl⟩
        · simp only [hw, if_true]
          left
          unfold Oper.wp
          revert hup
          cases (execOp (lay ops a cur m).eval o).run P w' with
          | halt x ww => intro h; exact h.elim
          | ok n ww =>
            cases n with
            | value u =>
              rintro ⟨rfl, rfl⟩
              exact hnext _ (Below.refl _ _)
            | skip =>
              rintro ⟨rfl, rfl⟩
              exact hnext _ (Below.refl _ _)
            | enter f args =>
              rintro ⟨rfl, h⟩
              refine Calls.mono h ?_
              rintro e w'' ⟨rfl, hb⟩
              exact hnext _ hb
            | _ => intro h; exact h.elim
        · simp only [hw]
          exact hnext _ (Below.refl _ _)
      | some r =>
        have hli := listed i o ho hi
        obtain ⟨o', D, ho', hD, hcase⟩ := hok i him
        rw [ho] at ho'
        cases ho'
        have hsame := same lv hlv i o ho him hi
        rcases hcase with ⟨r', hr', hw, _, hdo⟩ | ⟨hn, _⟩
        · rw [hRi] at hr'
          cases hr'
          rw [← hsame.2] at hw
          simp only [hw, if_true]
          left
          have hdd := hdo w' hI.below (fun d hd r hr => by
            have hdl := hli d (hD d hd)
            rw [hx1 d hdl.1 hdl.2]
            exact hI.facts d hdl.1 hdl.2 r hr)
          rw [← hsame.1] at hdd
          have go : ∀ (v : Value) w'' (x : Lt), Below w'.heap.size w' w'' → v = r.val x → x.lo = w'.heap.size → x.hi = w''.heap.size → r.post x w'' → wpAny P md ops Q fuel (L.setIfInBounds i true) ((lay ops a cur m).put o.dst v) w'' := by
            intro v w'' x hb hvx hlo hhi hpx
            refine step i o ho him hi v (setL xs i x) w'' hb (fun j hj hl => ?_) (fun r' hr' => ?_) (fun _ => by simp [setL, hlo, hhi]) ?_
            · have hji : j ≠ i := fun h => by subst h; rw [hl] at hu; cases hu
              simp [setL, hji]
            · rw [hRi] at hr'
              cases hr'
              simpa [setL] using hpx
            · intro xs3 w3 lv3 _ hxi _ _ h4 _
              obtain ⟨o', D', ho', hD', hcase'⟩ := h4 i him
              rcases hcase' with ⟨r', hr', _, hlvi, _⟩ | ⟨hn, _⟩
              · rw [hRi] at hr'
                cases hr'
                rw [hlvi, hxi, hvx]
                simp [setL]
              · rw [hRi] at hn; cases hn
          unfold Oper.wp
          revert hdd
          cases (execOp (lay ops a cur m).eval o).run P w' with
          | halt x ww => intro h; exact h.elim
          | ok n ww =>
            cases n with
            | value u =>
              rintro ⟨hb, x, hvx, hlo, hhi, hpx⟩
              exact go u ww x hb hvx hlo hhi hpx
            | enter f args =>
              rintro ⟨rfl, h⟩
              refine Calls.mono h ?_
              rintro e w'' ⟨v, rfl, hb, x, hvx, hlo, hhi, hpx⟩
              exact go v w'' x hb hvx hlo hhi hpx
            | _ => intro h; exact h.elim
        · rw [hRi] at hn; cases hn

def seqB (md : Region.Mode) (ops : Array Oper) (m : Nat) (rel : Nat → Bool) (T : List (List Nat)) (plan : List Item) : Bool :=
  freshB md ops m (fun _ => none) && closeB md ops T && planB m rel T plan 0 && (List.range ops.size).all fun i => !rel i || match ops[i]? with
    | some o => !pureOp o
    | none => true

/-- **The law.** m: how many operations come ahead of the stores; R: those whose values hang on the world; T: what each rests on; the plan: segments of the others, between these. -/
theorem wp_region_seq {id : Nat} {Q : Exit → Act → World → Prop} {a : Act} {w : World} {l : List Oper} (m : Nat) (rel : Nat → Bool) (R : Nat → Option Rel) (T : List (List Nat)) (plan : List Item) (hm : P.follows .mixedOrders = true) (hB : seqB .any l.toArray m rel T plan = true) (hrel : ∀ j, (R j).isSome = rel j)
    (hQ : ∀ (d : Tmp) v c a w, Q (.panic c) (a.put (some d) v) w → Q (.panic c) a w)
    (h : ∀ xs : Nat → Lt, wpS P l.toArray (fun w' => Below w.heap.size w w') R xs (fun a' => ∀ w', Below w.heap.size w w' → (∀ d, d < m → holds R xs d w') → Apart R m w.heap.size w'.heap.size (Array.replicate m true) xs → wpList P l.toArray Q (l.drop m) a' w') plan 0 a) :
    (Code.region id l.toArray true).wp P Q a w := by
  have hrf : rel = fun j => (R j).isSome := funext fun j => (hrel j).symm
  subst hrf
  simp only [seqB, Bool.and_eq_true, List.all_eq_true, List.mem_range] at hB
  obtain ⟨⟨⟨h1, h2⟩, h3⟩, h4⟩ := hB
  have hF := freshB_spec h1
  refine wp_region_any hm ?_
  have key := phaseS (Q := Q) (a := a) (w0 := w) hF h2 hQ h3 (fun i o r ho hr => by
    have := h4 i (Array.getElem?_eq_some_iff.1 ho).1
    simpa [ho, hr] using this) (fun xs => by rw [List.toList_toArray]; exact h xs) l.toArray.size (Array.replicate l.toArray.size false) (fun _ => none) (fun _ => ⟨none, 0, 0, 0, 0⟩) { w with drawn := w.drawn + 1 } (by
      have := left_rest (L := Array.replicate l.toArray.size false) (m := 0) (fun j hj => absurd hj (by omega)) (k := l.toArray.size) (fun j _ hj => by simp at hj; simp [hj])
      simpa using this) ?_
  · have hnone : ∀ k, lay l.toArray a (fun _ => none) k = a := fun k => by
      induction k with
      | zero => rfl
      | succ k ih => simp only [lay]; exact ih
    rw [hnone] at key
    exact key
  · have hle : m ≤ l.length := by simpa using hF.le
    have hno : ∀ j, j < l.length → (Array.replicate l.toArray.size false).getD j true = true → False := fun j hj h => by simp [hj] at h
    refine ⟨by simp, fun j _ hj => by simp at hj; simp [hj], (Below.refl _ _).drew, ?_, fun j hj hl => (hno j (by omega) hl).elim, fun _ _ => rfl, ⟨fun j hj hl => (hno j (by omega) hl).elim, fun j k hj _ hl => (hno j (by omega) hl).elim⟩, fun xs2 w2 lv2 _ _ _ _ j hj hl => (hno j (by omega) hl).elim⟩
    intro j o ho hl
    exact (hno j (by simpa using (Array.getElem?_eq_some_iff.1 ho).1) hl).elim
end
end Go.Proofs.Ytplhfbflgjnjmaa
