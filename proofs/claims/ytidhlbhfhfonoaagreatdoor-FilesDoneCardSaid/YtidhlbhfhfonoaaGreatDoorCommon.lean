/- What all of this seat's proofs share, over any program: a law's row out of its walk; arguments of plain kinds opened into their cells. -/
import Derived.WalkKit
import Derived.ProofKit
import Derived.OpenShut
import Derived.Deep.DeepHandedRow
import Derived.Deep.Slices
import Derived.Lib.LaidTab
import Derived.Lib.Hide
import Derived.Laws.StructEq
namespace Go.Proofs.YtidhlbhfhfonoaaGreatDoor
open Go.ChangeShapes Go.WideShapes Go.ChangeAt Go.RowKit Go.Deep

/-! ### A law's row out of its walk -/
section
variable {H : Type} {enc : TypeId × Value → H} {P : Program}

theorem trodAll_later (hl : laidOutB P = true) {W W' : World} {B : Nat} (hb : Below B W W') {sp : Nat → Bool} :
    ∀ {ts : List TypeId} {vs : List Value} {ds : List (DataW H)} {ps : List MemPlace}, (∀ t ∈ ts, P.readableRec t = true ∧ t < P.types.size) →
      DataW.TrodAll enc P W 0 (fun _ => true) true ts vs ds ps → (∀ x ∈ ps, x.block < B) → (∀ x ∈ ps, sp x.block = true) → DataW.TrodAll enc P W' 0 sp true ts vs ds ps
  | [], _, _, _, _, h, _, _ => by
    obtain ⟨rfl, rfl, rfl⟩ := trodAll_nil h
    exact trodAll_mk0
  | t :: ts, _, _, _, hr, h, hlt, hsp => by
    obtain ⟨v, vs, d, ds, a, b, rfl, rfl, rfl, h1, h2⟩ := trodAll_cons h
    refine ⟨a, b, ?_, trodAll_later hl hb (fun t ht => hr t (List.mem_cons_of_mem _ ht)) h2 (fun x hx => hlt x (List.mem_append_right _ hx)) (fun x hx => hsp x (List.mem_append_right _ hx)), rfl⟩
    have h0 := hr t (List.mem_cons_self ..)
    refine WideElems.Trod_stays hl h0.1 h0.2 h1 (fun x hx => ?_) (fun x hx => hsp x (List.mem_append_left _ hx))
    have hx' := hlt x (List.mem_append_left _ hx)
    cases x with
    | cell b o => exact World.cell?_of_block (w := W) (hb.block b hx')
    | map b => exact hb.block b hx'

/-- The law's post: it returns true, and of what was there nothing has turned. -/
theorem law_post {f : Func} {s : ChangeSpec} {k : FuncId} {args : Array Value} {W : World} {ds gs : List (DataW H)} {before : List MemPlace} {tb : TypeId}
    (hl : laidOutB P = true) (hread : ∀ t ∈ f.params.toList, P.readableRec t = true ∧ t < P.types.size) (hvars : s.vars = []) (hres : f.resultTypes = #[tb]) (htb : P.underlying tb = some .bool)
    (hs : ∀ ds : List (DataW H), ds.length = f.params.toList.length → s.fn H (ds ++ []) = { results := [.lit (.bool true)], args := ds })
    (hW : DataW.Whole enc P f.params.toList s.vars false W args.toList ds gs before)
    (h : Calls P k args W fun e w' => e = .returned (.bool true) ∧ Below W.heap.size W w') :
    Calls P k args W fun e W' => ∃ v, e = .returned v ∧ s.post enc P f false true false false W args v W' := by
  refine h.mono fun e W' ⟨he, hb⟩ => ?_
  subst he
  have hlt := hW.lt
  have hW' := hW
  obtain ⟨p, q, hA, hV, rfl, hfz, hnd⟩ := hW'
  rw [hvars] at hV
  obtain ⟨rfl, rfl⟩ := trodVars_none hV
  have hlen : ds.length = f.params.toList.length := by
    clear hs hlt hW hfz hnd
    generalize f.params.toList = ts at hA
    generalize args.toList = vs at hA
    clear hread
    induction ts generalizing vs ds p with
    | nil => obtain ⟨rfl, rfl, rfl⟩ := trodAll_nil hA; rfl
    | cons t ts ih =>
      obtain ⟨v, vs, d, ds, a, b, rfl, rfl, rfl, h1, h2⟩ := trodAll_cons hA
      simp [ih _ _ h2]
  refine ⟨_, rfl, ds, [], _, [], p, [], hW, ?_, ?_, ?_, hb.frame _, fun h => by cases h⟩
  · rw [hs ds hlen, hres]
    exact trodAll_cons_mk (shut_bool htb _) trodAll_mk0
  · rw [hs ds hlen]
    simp only [List.append_nil] at hlt
    exact trodAll_later hl hb hread hA (fun x hx => hlt x hx) (fun x hx => by simpa using hlt x hx)
  · rw [hs ds hlen, hvars]
    exact rfl
end

/-! ### Values without references: all cells are integers -/
section
variable {H : Type} {enc : TypeId × Value → H} {P : Program} {w : World} {base : Nat} {spare : Nat → Bool} {held : Bool}

/-- The kinds of a type's cells, if all are integers. -/
def intKinds (P : Program) : (fuel : Nat) → TypeId → Option (List IntKind)
  | 0, _ => Option.none
  | n + 1, t =>
    match P.underlying t with
    | some (.int k) => some [k]
    | some (.array m e) => (intKinds P n e).bind fun ks => if P.cellsOf e = ks.length ∧ P.cellsOf t = m * ks.length then some (List.replicate m ks).flatten else Option.none
    | some (.struct fs) => (fs.toList.mapM fun f => (intKinds P n f.type).map fun ks => (f, ks)).bind fun l =>
        if l.foldl (fun (o : Option Nat) x => o.bind fun o => if x.1.offset = o ∧ P.cellsOf x.1.type = x.2.length then some (o + x.2.length) else Option.none) (some 0) = some (P.cellsOf t) then some (l.flatMap (·.2)) else Option.none
    | _ => Option.none

/-- The cells are integers of these kinds, each within its kind. -/
def Ints : List IntKind → List Value → Prop
  | [], [] => True
  | k :: ks, v :: vs => (∃ n : Int, v = .int k n ∧ (Lit.int k n).wf = true) ∧ Ints ks vs
  | _, _ => False

theorem Ints.append : ∀ {ks ks' : List IntKind} {vs vs' : List Value}, Ints ks vs → Ints ks' vs' → Ints (ks ++ ks') (vs ++ vs')
  | [], _, [], _, _, h => h
  | [], _, _ :: _, _, h, _ => h.elim
  | _ :: _, _, [], _, h, _ => h.elim
  | _ :: _, _, _ :: _, _, h, h' => ⟨h.1, h.2.append h'⟩

theorem Ints.length : ∀ {ks : List IntKind} {vs : List Value}, Ints ks vs → vs.length = ks.length
  | [], [], _ => rfl
  | [], _ :: _, h => h.elim
  | _ :: _, [], h => h.elim
  | _ :: _, _ :: _, h => by simp [h.2.length]

theorem ints_nil {cs : List Value} (h : Ints [] cs) : cs = [] := by
  cases cs with
  | nil => rfl
  | cons _ _ => exact h.elim
theorem ints_cons {k : IntKind} {ks : List IntKind} {cs : List Value} (h : Ints (k :: ks) cs) : ∃ (n : Int) (r : List Value), cs = .int k n :: r ∧ (Lit.int k n).wf = true ∧ Ints ks r := by
  cases cs with
  | nil => exact h.elim
  | cons v r =>
    obtain ⟨⟨n, rfl, hw⟩, hr⟩ := h
    exact ⟨n, r, rfl, hw, hr⟩

theorem ints_replicate {ks : List IntKind} {c : Nat} (hc : c = ks.length) : ∀ (m : Nat) (cs : List Value), cs.length = m * c → (∀ i, i < m → Ints ks ((cs.drop (i * c)).take c)) → Ints (List.replicate m ks).flatten cs
  | 0, cs, hlen, _ => by
    have : cs = [] := List.length_eq_zero_iff.1 (by simpa using hlen)
    subst this
    trivial
  | m + 1, cs, hlen, h => by
    rw [List.replicate_succ, List.flatten_cons, ← List.take_append_drop c cs]
    refine Ints.append ?_ (ints_replicate hc m _ (by simp [hlen, Nat.succ_mul]) fun i hi => ?_)
    · simpa using h 0 (by omega)
    · have := h (i + 1) (by omega)
      rwa [List.drop_drop, show c + i * c = (i + 1) * c by rw [Nat.succ_mul]; omega]

theorem ints_fields {cs : List Value} : ∀ (l : List (Field × List IntKind)) (o e : Nat),
    l.foldl (fun (o : Option Nat) x => o.bind fun o => if x.1.offset = o ∧ P.cellsOf x.1.type = x.2.length then some (o + x.2.length) else Option.none) (some o) = some e →
    e = cs.length → (∀ x ∈ l, Ints x.2 ((cs.drop x.1.offset).take (P.cellsOf x.1.type))) → Ints (l.flatMap (·.2)) (cs.drop o)
  | [], o, e, h, he, _ => by
    obtain rfl : o = e := by simpa using h
    subst he
    simp [Ints]
  | x :: l, o, e, h, he, hx => by
    have hnone : ∀ l : List (Field × List IntKind), l.foldl (fun (o : Option Nat) x => o.bind fun o => if x.1.offset = o ∧ P.cellsOf x.1.type = x.2.length then some (o + x.2.length) else Option.none) Option.none = Option.none := by
      intro l
      induction l with
      | nil => rfl
      | cons y l ih => simpa using ih
    rw [List.foldl_cons] at h
    simp only [Option.bind_some] at h
    by_cases hc : x.1.offset = o ∧ P.cellsOf x.1.type = x.2.length
    · rw [if_pos hc] at h
      have h1 := hx x (List.mem_cons_self ..)
      rw [hc.1, hc.2] at h1
      have h2 := ints_fields l (o + x.2.length) e h he (fun y hy => hx y (List.mem_cons_of_mem _ hy))
      rw [List.flatMap_cons, ← List.take_append_drop x.2.length (cs.drop o), List.drop_drop]
      exact h1.append h2
    · rw [if_neg hc, hnone] at h
      cases h

theorem mapM_mem {α β : Type} {g : α → Option β} : ∀ {l : List α} {r : List β}, l.mapM g = some r → ∀ y ∈ r, ∃ x ∈ l, g x = some y
  | [], r, h, y, hy => by
    obtain rfl : r = [] := by simpa using h.symm
    cases hy
  | x :: l, r, h, y, hy => by
    rw [List.mapM_cons] at h
    cases hx : g x with
    | none => simp [hx] at h
    | some z =>
      cases hl : l.mapM g with
      | none => simp [hx, hl] at h
      | some r' =>
        obtain rfl : r = z :: r' := by simpa [hx, hl] using h.symm
        rcases List.mem_cons.1 hy with rfl | hy
        · exact ⟨x, List.mem_cons_self .., hx⟩
        · obtain ⟨x', h1, h2⟩ := mapM_mem hl y hy
          exact ⟨x', List.mem_cons_of_mem _ h1, h2⟩

theorem ints_of_trod : ∀ (n : Nat) {t : TypeId} {ks : List IntKind} {fuel : Nat} {cs : List Value} {x : DataW H × List MemPlace}, intKinds P n t = some ks →
    DataW.trod enc P w base spare held fuel t cs = some x → Ints ks cs
  | 0, _, _, _, _, _, hk, _ => by simp [intKinds] at hk
  | n + 1, t, ks, fuel, cs, x, hk, h => by
    unfold intKinds at hk
    split at hk
    · rename_i k ht
      obtain rfl : ks = [k] := by simpa using hk.symm
      obtain ⟨m, rfl, h2, h3⟩ := DataW.trod_int ht h
      exact ⟨⟨m, rfl, by simpa using h3⟩, trivial⟩
    · rename_i m e ht
      cases he : intKinds P n e with
      | none => simp [he] at hk
      | some ke =>
        simp only [he, Option.bind_some] at hk
        by_cases hc : P.cellsOf e = ke.length ∧ P.cellsOf t = m * ke.length
        · rw [if_pos hc] at hk
          obtain rfl : ks = _ := (Option.some.inj hk).symm
          obtain ⟨xs, m', _, _, hlen, hxs, hel⟩ := DataW.trod_array ht h
          refine ints_replicate rfl m cs (by rw [hlen, hc.2]) fun i hi => ?_
          have h1 := hel i hi
          rw [hc.1] at h1
          rw [List.getElem?_eq_getElem (by omega)] at h1
          exact ints_of_trod n he h1
        · rw [if_neg hc] at hk; cases hk
    · rename_i fs ht
      cases hl : fs.toList.mapM (fun f => (intKinds P n f.type).map fun ks => (f, ks)) with
      | none => rw [hl] at hk; cases hk
      | some l =>
        rw [hl, Option.bind_some] at hk
        split at hk
        · rename_i hc
          obtain rfl : ks = _ := (Option.some.inj hk).symm
          obtain ⟨xs, m', _, _, hlen, hxs, hel⟩ := DataW.trod_struct ht h
          refine ints_fields (P := P) l 0 _ hc hlen.symm fun y hy => ?_
          obtain ⟨f, hf, hfy⟩ := mapM_mem hl y hy
          cases hkf : intKinds P n f.type with
          | none => simp [hkf] at hfy
          | some kf =>
            obtain rfl : y = (f, kf) := by simpa [hkf] using hfy.symm
            obtain ⟨i, hi⟩ := List.mem_iff_getElem?.1 hf
            have h1 := hel i f (by simpa using hi)
            have hi' : i < fs.size := by
              rcases Nat.lt_or_ge i fs.size with h' | h'
              · exact h'
              · simp [Array.getElem?_eq_none h'] at hi
            rw [List.getElem?_eq_getElem (by omega)] at h1
            exact ints_of_trod n hkf h1
        · cases hk
    · cases hk

/-- An argument that is an array or a struct of integers: its cells. -/
theorem open_ints_agg {r : Reach} {b0 : Nat} {t : TypeId} {v : Value} {d : DataW H} {p : List MemPlace} {ks : List IntKind} (hd : (∃ m e, P.underlying t = some (.array m e)) ∨ ∃ fs, P.underlying t = some (.struct fs))
    (hk : intKinds P 20 t = some ks) (hv : Value.okWide P w r b0 t v) (h : DataW.Trod enc P w base spare held t v d p) : ∃ cs : List Value, v = .agg cs.toArray ∧ Ints ks cs := by
  have hcs : ∃ cs : Array Value, v = .agg cs := by
    unfold Value.okWide at hv
    rcases hd with ⟨m, e, hd⟩ | ⟨fs, hd⟩
    all_goals
      rw [hd] at hv
      obtain ⟨cs, h, _⟩ := hv
      exact ⟨cs, h⟩
  obtain ⟨cs, rfl⟩ := hcs
  obtain ⟨fuel, hf⟩ := h
  exact ⟨cs.toList, by simp, ints_of_trod 20 hk hf⟩
end

/-! ### Slices of integers -/
/-- The slice value v reads as the list l in the world w. -/
def IntsAt (w : World) (k : IntKind) (v : Value) (l : List Int) : Prop :=
  ∃ (ao : Option Addr) (cap : Nat), v = .slice ao l.length cap ∧ l.length ≤ cap ∧ cap ≤ maxLen ∧ (ao = Option.none → cap = 0) ∧
    (∀ x ∈ l, (Lit.int k x).wf = true) ∧ ∀ i (h : i < l.length), ∃ b o, ao = some ⟨b, o, none⟩ ∧ w.cell? ⟨b, o + i, none⟩ = some (.int k l[i])

theorem spot_of_cell {w : World} {a : Addr} {v : Value} (h : w.cell? a = some v) : a.spot = Option.none := by
  unfold World.cell? at h
  split at h
  · rename_i c e f hb
    cases hs : a.spot with
    | none => rfl
    | some x => rw [hs] at h; simp at h
  · cases h

section
variable {H : Type} {enc : TypeId × Value → H} {P : Program} {w : World}
theorem open_slice_ints {r : Reach} {b0 : Nat} {t e : TypeId} {k : IntKind} {v : Value} {d : DataW H} {p : List MemPlace} (ht : P.underlying t = some (.slice e)) (he : P.underlying e = some (.int k)) (hc : P.cellsOf e = 1)
    (hv : Value.okWide P w r b0 t v) (h : DataW.Trod enc P w 0 (fun _ => true) true t v d p) : ∃ l : List Int, IntsAt w k v l := by
  obtain ⟨a0, len0, cap0, rfl⟩ := okWide_slice ht hv
  obtain ⟨fuel, hf⟩ := h
  rcases Deep.open_slice ht hf with ⟨hcs, _⟩ | ⟨a, len, cap, m, n, D, Pl, hcs, _, hl, hm, hmm, _, hi⟩
  · simp only [Value.cells, List.cons.injEq, and_true, Value.slice.injEq] at hcs
    obtain ⟨rfl, rfl, rfl⟩ := hcs
    exact ⟨[], Option.none, 0, rfl, Nat.le_refl _, Nat.zero_le _, fun _ => rfl, fun x hx => (by cases hx), fun i h => absurd h (Nat.not_lt_zero _)⟩
  · simp only [Value.cells, List.cons.injEq, and_true, Value.slice.injEq] at hcs
    obtain ⟨rfl, rfl, rfl⟩ := hcs
    have hm' : m = cap0 := by rw [hmm]; rfl
    have hel : ∀ i, i < len0 → ∃ x : Int, w.cell? (a.add i) = some (.int k x) ∧ (Lit.int k x).wf = true := by
      intro i hil
      obtain ⟨cs, hcells, htr⟩ := hi i (by omega)
      rw [hc] at hcells
      obtain ⟨_, hcl, hat⟩ := World.cells?_some hcells
      obtain ⟨x, rfl, _, hw⟩ := DataW.trod_int he htr
      refine ⟨x, ?_, hw⟩
      have := hat 0 (by omega)
      simpa [Addr.add] using this
    let f : Nat → Int := fun i => if h : i < len0 then (hel i h).choose else 0
    have hfs : ∀ i (h : i < len0), w.cell? (a.add i) = some (.int k (f i)) ∧ (Lit.int k (f i)).wf = true := by
      intro i h
      have := (hel i h).choose_spec
      simpa [f, h] using this
    refine ⟨(List.range len0).map f, some a, cap0, by simp, by simpa using hl, hm, (fun h => by cases h), ?_, ?_⟩
    · intro x hx
      obtain ⟨i, hi', rfl⟩ := List.mem_map.1 hx
      exact (hfs i (List.mem_range.1 hi')).2
    · intro i h
      have hil : i < len0 := by simpa using h
      have h0 := (hfs i hil).1
      have hs : a.spot = Option.none := spot_of_cell (hfs 0 (by omega)).1
      obtain ⟨ab, ao, asp⟩ := a
      obtain rfl : asp = Option.none := hs
      refine ⟨ab, ao, rfl, ?_⟩
      simp only [List.getElem_map, List.getElem_range]
      rw [← h0]
      unfold Addr.add
      split
      · rename_i hz
        rw [hz]
        rfl
      · rfl
end

/-! ### Arrays of integers, compared -/
theorem part_cell {P : Program} (w : World) (e : TypeId) (hagg : (isAgg e).run P w = .ok false w) (xs : Array Value) (i : Nat) (v : Value) (h : xs[i]? = some v) : (part e xs i).run P w = .ok v w := by
  simp [part, hagg, h]
theorem run_equalIn_arr {P : Program} (w : World) (d : Nat) (t e : TypeId) (k : IntKind) (len : Nat) (ht : P.underlying t = some (.array len e)) (he : P.underlying e = some (.int k)) (hagg : ∀ w, (isAgg e).run P w = .ok false w) (hsz : ∀ w, (sizeOf e).run P w = .ok 1 w)
    (xs ys : Array Value) (f g : Nat → Int) (hx : ∀ i, i < len → xs[i]? = some (.int k (f i))) (hy : ∀ i, i < len → ys[i]? = some (.int k (g i))) :
    (Op.equalIn (d + 2) t (.agg xs) (.agg ys)).run P w = .ok ((List.range len).all fun i => f i == g i) w := by
  rw [Op.equalIn]
  simp only [Sem.run_bind, run_underlying ht, Result.andThen_ok, hsz]
  rw [Std.Legacy.Range.forIn_eq_forIn_range']
  simp only [Std.Legacy.Range.size, Nat.sub_zero, Nat.add_sub_cancel, Nat.div_one]
  have key : ∀ (n s : Nat), s + n = len → (Sem.run P ((forIn (List.range' s n) ((Option.none, ()) : Option Bool × Unit) fun i r => do
      let a ← part e xs (i * 1)
      let b ← part e ys (i * 1)
      let c ← Op.equalIn (d + 1) e a b
      if (!c) = true then pure (ForInStep.done (some false, ())) else pure (ForInStep.yield (Option.none, ())))) w) =
      .ok (if (List.range' s n).all (fun i => f i == g i) = true then ((Option.none, ()) : Option Bool × Unit) else (some false, ())) w := by
    intro n
    induction n with
    | zero =>
      intro s hs
      simp only [List.range'_zero, List.forIn_nil]
      simp
    | succ n ih =>
      intro s hs
      simp only [List.range'_succ, List.forIn_cons, Sem.run_bind, Nat.mul_one]
      rw [part_cell w e (hagg w) xs s _ (hx s (by omega))]
      simp only [Result.andThen_ok]
      rw [part_cell w e (hagg w) ys s _ (hy s (by omega))]
      have hq : (Op.equalIn (d + 1) e (.int k (f s)) (.int k (g s))).run P w = .ok (f s == g s) w := by simp [Op.equalIn, run_underlying he]
      simp only [Result.andThen_ok, hq]
      rw [List.all_cons]
      generalize (f s == g s) = c
      have hi := ih (s + 1) (by omega)
      simp only [Nat.mul_one] at hi
      cases c
      · simp
      · simp only [Bool.not_true, Bool.false_eq_true, if_false, Bool.true_and, Sem.run_pure, Result.andThen_ok]
        exact hi
  have hk := key len 0 (by omega)
  rw [hk, List.range_eq_range']
  simp only [Result.andThen_ok]
  cases (List.range' 0 len).all fun i => f i == g i <;> simp
theorem run_eql_arr {P : Program} (w : World) (t e : TypeId) (k : IntKind) (len : Nat) (ht : P.underlying t = some (.array len e)) (he : P.underlying e = some (.int k)) (hagg : ∀ w, (isAgg e).run P w = .ok false w) (hsz : ∀ w, (sizeOf e).run P w = .ok 1 w)
    (xs ys : Array Value) (f g : Nat → Int) (hx : ∀ i, i < len → xs[i]? = some (.int k (f i))) (hy : ∀ i, i < len → ys[i]? = some (.int k (g i))) :
    (binOp .eql t (.agg xs) (.agg ys)).run P w = .ok (.bool ((List.range len).all fun i => f i == g i)) w := by
  simp only [binOp]
  simp [Op.equal, Op.maxDepth, run_equalIn_arr w 9998 t e k len ht he hagg hsz xs ys f g hx hy]
theorem run_neq_arr {P : Program} (w : World) (t e : TypeId) (k : IntKind) (len : Nat) (ht : P.underlying t = some (.array len e)) (he : P.underlying e = some (.int k)) (hagg : ∀ w, (isAgg e).run P w = .ok false w) (hsz : ∀ w, (sizeOf e).run P w = .ok 1 w)
    (xs ys : Array Value) (f g : Nat → Int) (hx : ∀ i, i < len → xs[i]? = some (.int k (f i))) (hy : ∀ i, i < len → ys[i]? = some (.int k (g i))) :
    (binOp .neq t (.agg xs) (.agg ys)).run P w = .ok (.bool (!((List.range len).all fun i => f i == g i))) w := by
  simp only [binOp]
  simp [Op.equal, Op.maxDepth, run_equalIn_arr w 9998 t e k len ht he hagg hsz xs ys f g hx hy]

end Go.Proofs.YtidhlbhfhfonoaaGreatDoor
