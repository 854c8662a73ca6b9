/- Layer 18 (journals): records cut and joined, in plain words and in memory. -/
import Derived.Test.YtjfejpdeccnlnaaDoorJalive
import Derived.Test.YtjfejpdeccnlnaaDoorPerm
namespace Go.Proofs.YtjfejpdeccnlnaaDoor
open Go.ChangeShapes Go.WideShapes Go.ChangeAt Go.RowKit

/-! ### In plain words -/
theorem laid_to (L : List (List Nat)) (c k : Nat) : (laidAll c L).take (endN L k) = laidAll c (L.take k) := by
  conv => lhs; arg 2; rw [laid_cut L c k]
  rw [← endN_laid L c k]
  exact List.take_left
theorem laid_from (L : List (List Nat)) (c k : Nat) : (laidAll c L).drop (endN L k) = laidAll (lastC c (L.take k)) (L.drop k) := by
  conv => lhs; arg 2; rw [laid_cut L c k]
  rw [← endN_laid L c k]
  exact List.drop_left
theorem endN_le (L : List (List Nat)) (k : Nat) : endN L k ≤ endN L L.length := by
  rw [← endN_laid L firstC k, ← endN_all L firstC]
  exact laidAll_take L firstC k
/-- Lists that are gone through are small. -/
structure SmallR (L : List (List Nat)) : Prop where
  many : L.length ≤ 40
  each : ∀ r ∈ L, r.length ≤ 40000
  all : ∀ c, (laidAll c L).length ≤ 40320
theorem flat_le {L : List (List Nat)} {r : List Nat} (h : r ∈ L) : r.length ≤ L.flatten.length := by
  induction L with
  | nil => cases h
  | cons a L ih =>
    rw [List.flatten_cons, List.length_append]
    rcases List.mem_cons.1 h with rfl | h
    · omega
    · have := ih h
      omega
theorem laid_flat (c : Nat) (L : List (List Nat)) : (laidAll c L).length = L.flatten.length + 8 * L.length := by
  rw [laidAll_length]
  induction L with
  | nil => rfl
  | cons a L ih =>
    rw [List.map_cons, List.sum_cons, ih, List.flatten_cons, List.length_append, List.length_cons]
    omega
theorem small_of {L : List (List Nat)} (h : manyB L = false) : SmallR L := by
  unfold manyB at h
  simp only [Bool.or_eq_false_iff, decide_eq_false_iff_not, Nat.not_lt] at h
  obtain ⟨h1, h2⟩ := h
  unfold recsN at h2
  have h3 := rn_small L L.length (by omega)
  refine ⟨h1, fun r hr => ?_, fun c => ?_⟩
  · have := flat_le hr
    omega
  · rw [laid_flat]
    omega
theorem SmallR.endN {L : List (List Nat)} (h : SmallR L) (k : Nat) : endN L k ≤ 40320 := by
  have h1 := endN_le L k
  have h2 := h.all firstC
  rw [endN_all] at h2
  omega
theorem bstr_inj {a b : List Nat} (ha : Bytes a) (hb : Bytes b) (h : bstr a = bstr b) : a = b := by
  unfold bstr at h
  have h1 := congrArg (fun x : ByteArray => x.data.toList) h
  exact u8_inj a b ha hb (by simpa using h1)
theorem check_at {L : List (List Nat)} {k : Nat} (hk : k ≤ L.length) : checkS (laidAll firstC L) (endN L k) = bstr (num4 (lastC firstC (L.take k))) := by
  cases k with
  | zero =>
    unfold checkS
    rw [show endN L 0 = 0 from rfl, if_pos (by omega), List.take_zero]
    show _ = bstr (num4 4294967295)
    kernel_rfl
  | succ k =>
    obtain ⟨r, hr⟩ : ∃ r, L[k]? = some r := ⟨_, List.getElem?_eq_getElem (by omega)⟩
    have ht : L.take (k + 1) = L.take k ++ [r] := by rw [List.take_add_one, hr]; rfl
    have he := endN_succ hr
    unfold checkS
    rw [if_neg (by omega)]
    congr 1
    have e1 : laidAll firstC (L.take (k + 1)) = laidAll firstC (L.take k) ++ headR r ++ num4 (lastC firstC (L.take (k + 1))) := by
      rw [ht, laidAll_append, lastC_append]
      simp [laidAll, laidR, lastC]
    have e2 : endN L (k + 1) - 4 = (laidAll firstC (L.take k) ++ headR r).length := by
      rw [List.length_append, endN_laid, headR_length]
      omega
    rw [laid_cut L firstC (k + 1), e1, List.append_assoc, e2, List.drop_left]
    exact List.take_left (l₁ := num4 _)
theorem check_eq {L M : List (List Nat)} {j k : Nat} (hL : ∀ r ∈ L, Bytes r) (hM : ∀ r ∈ M, Bytes r) (hj : j ≤ L.length) (hk : k ≤ M.length) :
    checkS (laidAll firstC L) (endN L j) = checkS (laidAll firstC M) (endN M k) ↔ lastC firstC (L.take j) = lastC firstC (M.take k) := by
  rw [check_at hj, check_at hk]
  refine ⟨fun h => ?_, fun h => by rw [h]⟩
  exact num4_inj (lastC_lt _ (by decide) fun r hr => hL r (List.mem_of_mem_take hr)) (lastC_lt _ (by decide) fun r hr => hM r (List.mem_of_mem_take hr)) (bstr_inj (num4_bytes _) (num4_bytes _) h)
/-- Records up to j of the one, those from k on of the other behind them. -/
theorem told_graft {L M : List (List Nat)} {j k : Nat} (hL : ∀ r ∈ L, Bytes r ∧ r.length ≤ 65536) (hM : ∀ r ∈ M, Bytes r ∧ r.length ≤ 65536) (hj : j ≤ L.length) (hk : k ≤ M.length) :
    told ((laidAll firstC L).take (endN L j) ++ (laidAll firstC M).drop (endN M k)) = L.take j ++ (if checkS (laidAll firstC L) (endN L j) = checkS (laidAll firstC M) (endN M k) then M.drop k else []) := by
  rw [laid_to, laid_from, told_on (fun r hr => (hL r (List.mem_of_mem_take hr)).2) (fun r hr => (hM r (List.mem_of_mem_drop hr)).2) (fun r hr => (hL r (List.mem_of_mem_take hr)).1) (fun r hr => (hM r (List.mem_of_mem_drop hr)).1) (lastC_lt _ (by decide) fun r hr => (hM r (List.mem_of_mem_take hr)).1)]
  congr 1
  by_cases h : lastC firstC (L.take j) = lastC firstC (M.take k)
  · rw [if_pos h, if_pos ((check_eq (fun r hr => (hL r hr).1) (fun r hr => (hM r hr).1) hj hk).2 h)]
  · rw [if_neg h, if_neg fun e => h ((check_eq (fun r hr => (hL r hr).1) (fun r hr => (hM r hr).1) hj hk).1 e)]
/-! ### In memory -/
theorem infoR2 : (Tryd.prog.info? 37).map (fun i => (i.zero, i.size, i.bytes)) = some (some (.slice none 0 0), 1, 24) := by kernel_rfl
theorem sizeR (w : World) : (sizeOf (Tryd.prog.elem 22)).run Tryd.prog w = .ok 1 w := by
  have : Tryd.prog.elem 22 = 37 := by kernel_rfl
  rw [this]
  go_simp
theorem elemR : Tryd.prog.underlying 22 = some (.slice (Tryd.prog.elem 22)) := by kernel_rfl
theorem parts_to {w : World} {v : Value} {L : List (List Nat)} (hk : PartsAt w v L) (n : Nat) (hn : n ≤ L.length) :
    ∃ a c, (∀ W, (Instr.sliceAt 22 v none (some (.int .i64 n)) none).run Tryd.prog W = .ok (.slice a n c) W) ∧ PartsAt w (.slice a n c) (L.take n) := by
  obtain ⟨ao, cap, rfl, h1, h2, h3, h4⟩ := hk
  have hrun : ∀ W, (Instr.sliceAt 22 (.slice ao L.length cap) none (some (.int .i64 n)) none).run Tryd.prog W = .ok (sliced ao 0 n cap 1) W := fun W => by
    rw [run_sliceAt_slice _ _ _ _ _ _ elemR, run_slice_h _ _ _ _ _ elemR .i64 n (by omega) (by omega), sizeR]
    simp
  unfold sliced at hrun
  have hl : (L.take n).length = n := by simp; omega
  refine ⟨_, _, fun W => hrun W, ?_⟩
  refine ⟨_, _, by rw [hl], by rw [hl]; omega, by omega, fun hno => ?_, fun h0 => ?_⟩
  · split at hno
    · omega
    · have : ao = none := by cases ao with | none => rfl | some _ => cases hno
      have := h3 this
      omega
  · rw [hl] at h0
    obtain ⟨b, o, rfl, hc⟩ := h4 (by omega)
    refine ⟨b, o, ?_, fun i x hx => ?_⟩
    · split
      · rfl
      · simp [Addr.add]
    · rw [List.getElem?_take] at hx
      split at hx
      · exact hc _ _ hx
      · cases hx
theorem parts_from {w : World} {v : Value} {L : List (List Nat)} (hk : PartsAt w v L) (n : Nat) (hn : n ≤ L.length) :
    ∃ a c, (∀ W, (Instr.sliceAt 22 v (some (.int .i64 n)) none none).run Tryd.prog W = .ok (.slice a (L.length - n) c) W) ∧ PartsAt w (.slice a (L.length - n) c) (L.drop n) := by
  obtain ⟨ao, cap, rfl, h1, h2, h3, h4⟩ := hk
  have hrun : ∀ W, (Instr.sliceAt 22 (.slice ao L.length cap) (some (.int .i64 n)) none none).run Tryd.prog W = .ok (sliced ao n L.length cap 1) W := fun W => by
    rw [run_sliceAt_slice _ _ _ _ _ _ elemR, run_slice_l _ _ _ _ _ elemR .i64 n (by omega) (by omega), sizeR]
    simp
  unfold sliced at hrun
  have hl : (L.drop n).length = L.length - n := by simp
  refine ⟨_, _, hrun, ?_⟩
  refine ⟨_, _, by rw [hl], by rw [hl]; omega, by omega, fun hno => ?_, fun h0 => ?_⟩
  · split at hno
    · omega
    · have : ao = none := by cases ao with | none => rfl | some _ => cases hno
      have := h3 this
      omega
  · rw [hl] at h0
    obtain ⟨b, o, rfl, hc⟩ := h4 (by omega)
    rw [if_neg (by omega)]
    refine ⟨b, o + n, by simp [Addr.add_lit], fun i x hx => ?_⟩
    rw [List.getElem?_drop] at hx
    rw [Nat.add_assoc]
    exact hc _ _ hx
/-- What reads as slices of bytes may be appended. -/
theorem PartsAt.src {w : World} {v : Value} {L : List (List Nat)} (h : PartsAt w v L) : ∃ xs, SrcV w 1 v L.length xs ∧ ∀ (i : Nat) (l : List Nat), L[i]? = some l → ∃ u, xs[i]? = some u ∧ KAt .u8 w u l := by
  obtain ⟨ao, cap, rfl, h1, h2, h3, h4⟩ := h
  have hel : ∀ i, i < L.length → ∃ (u : Value) (l : List Nat), L[i]? = some l ∧ (∀ b o, ao = some ⟨b, o, none⟩ → w.cell? ⟨b, o + i, none⟩ = some u) ∧ KAt .u8 w u l := fun i hi => by
    obtain ⟨b, o, rfl, hc⟩ := h4 (by omega)
    obtain ⟨u, h5, h6⟩ := hc i L[i] (List.getElem?_eq_getElem hi)
    exact ⟨u, L[i], List.getElem?_eq_getElem hi, fun b' o' e => by cases e; exact h5, h6⟩
  let f : Nat → Value := fun i => if hi : i < L.length then (hel i hi).choose else undef
  have hf : ∀ i (hi : i < L.length), ∃ l, L[i]? = some l ∧ (∀ b o, ao = some ⟨b, o, none⟩ → w.cell? ⟨b, o + i, none⟩ = some (f i)) ∧ KAt .u8 w (f i) l := fun i hi => by
    have := (hel i hi).choose_spec
    simpa [f, hi] using this
  have hget : ∀ i, i < L.length → ((List.range L.length).map f)[i]? = some (f i) := fun i hi => by rw [List.getElem?_map, List.getElem?_range hi]; rfl
  refine ⟨(List.range L.length).map f, ⟨ao, cap, rfl, by simp, fun u hu => ?_, fun hno => by have := h3 hno; omega, fun ad had j u hu => ?_⟩, fun i l hl => ?_⟩
  · obtain ⟨i, hi, rfl⟩ := List.mem_map.1 hu
    obtain ⟨l, _, _, hk⟩ := hf i (List.mem_range.1 hi)
    obtain ⟨_, _, e, _⟩ := hk
    rw [e]
    rfl
  · have hj : j < L.length := by have := (List.getElem?_eq_some_iff.1 hu).1; simpa using this
    rw [hget j hj] at hu
    cases hu
    obtain ⟨b, o, e, _⟩ := h4 (by omega)
    subst e
    cases had
    obtain ⟨l, _, h5, _⟩ := hf j hj
    rw [Addr.add_lit]
    exact h5 b o rfl
  · have hi := (List.getElem?_eq_some_iff.1 hl).1
    obtain ⟨l', h5, _, h6⟩ := hf i hi
    rw [hl] at h5
    cases h5
    exact ⟨f i, hget i hi, h6⟩
theorem src_later {w w' : World} {size : Nat} {x : Value} {m : Nat} {news : List Value} (h : SrcV w size x m news) (hb : Below w.heap.size w w') : SrcV w' size x m news := by
  obtain ⟨sp, c, rfl, h1, h2, h3, h4⟩ := h
  exact ⟨sp, c, rfl, h1, h2, h3, fun ad had j u hu => cell_on (h4 ad had j u hu) hb⟩
/-- Slices of bytes, of memory of their own, each of which reads as bytes. -/
def OwnR (w : World) (base : Nat) (v : Value) (L : List (List Nat)) : Prop := ∃ xs, OwnV w base 37 1 v L.length xs ∧ ∀ (i : Nat) (l : List Nat), L[i]? = some l → ∃ u, xs[i]? = some u ∧ KAt .u8 w u l
theorem OwnR.at_ {w : World} {base : Nat} {v : Value} {L : List (List Nat)} (h : OwnR w base v L) : PartsAt w v L := by
  obtain ⟨xs, h1, h2⟩ := h
  exact parts_own h1 h2
theorem OwnR.nil (w : World) (base : Nat) : OwnR w base (.slice none 0 0) [] := ⟨[], ⟨rfl, .inl ⟨rfl, rfl⟩⟩, fun i l h => by simp at h⟩
theorem OwnR.later {w w' : World} {base : Nat} {v : Value} {L : List (List Nat)} (h : OwnR w base v L) (hb : Below w.heap.size w w') : OwnR w' base v L := by
  obtain ⟨xs, h1, h2⟩ := h
  exact ⟨xs, OwnV.later h1 hb, fun i l hl => by obtain ⟨u, h3, h4⟩ := h2 i l hl; exact ⟨u, h3, h4.later hb⟩⟩
/-- append, at one operation. -/
theorem oper_append_W {P : Program} {w : World} {o : Oper} {a : Act} {K : Act → World → Prop} {Q : Exit → Act → World → Prop} (s x : Operand) (t : TypeId)
    (ho : o.op = .call { callee := .builtin .append, args := #[s, x], argTypes := #[t, t] })
    (base : Nat) (e : TypeId) (i : TypeInfo) (z : Value) (size bytes : Nat) (ht : P.underlying t = some (.slice e)) (hi : P.info? e = some i) (hz : i.zero = some z)
    (hsize : i.size = size) (hby : i.bytes = bytes) (hzs : z.cells.size = size) (v : Value) (n : Nat) (xs : List Value) (hs : a.eval s = v) (hown : OwnV w base e size v n xs)
    (y : Value) (m : Nat) (news : List Value) (hy : a.eval x = y) (hx : SrcV w size y m news) (h63 : n + m ≤ maxLen) (hbytes : (n + m) * bytes ≤ 140737488355328) (hbase : base ≤ w.heap.size)
    (h : ∀ v' w', OwnV w' base e size v' (n + m) (xs ++ news) → w.grownBy w' v.ownBlock → Lies w w' v v' n m → K (a.put o.dst v') w') : Oper.wp P o a w K Q := by
  obtain ⟨v', w', hr, h2, h3, h4⟩ := run_append_W (P := P) w base t o.type e i z size bytes ht hi hz hsize hby hzs v n xs hown y m news hx h63 hbytes hbase
  unfold Oper.wp execOp
  simp only [ho, resolve, invoke, builtin, Sem.run_bind, Sem.run_pure, Result.andThen_ok, List.map_toArray, List.map_cons, List.map_nil, hs, hy, hr]
  exact h v' w' h2 h3 h4
theorem parts_join {w4 w6 : World} {base n : Nat} {v : Value} {A C : List (List Nat)} {xs ys : List Value} (h : OwnV w6 base 37 1 v n (xs ++ ys)) (hn : n = (A ++ C).length) (hxl : xs.length = A.length) (hb : Below w4.heap.size w4 w6)
    (h1 : ∀ (i : Nat) (l : List Nat), A[i]? = some l → ∃ u, xs[i]? = some u ∧ KAt .u8 w4 u l) (h2 : ∀ (i : Nat) (l : List Nat), C[i]? = some l → ∃ u, ys[i]? = some u ∧ KAt .u8 w4 u l) : PartsAt w6 v (A ++ C) := by
  subst hn
  refine parts_own h fun i l hl => ?_
  rcases Nat.lt_or_ge i A.length with hi | hi
  · rw [List.getElem?_append_left hi] at hl
    obtain ⟨u, h3, h4⟩ := h1 i l hl
    exact ⟨u, by rw [List.getElem?_append_left (by omega)]; exact h3, h4.later hb⟩
  · rw [List.getElem?_append_right hi] at hl
    obtain ⟨u, h3, h4⟩ := h2 _ l hl
    exact ⟨u, by rw [List.getElem?_append_right (by omega), hxl]; exact h3, h4.later hb⟩
theorem ite_then {c : Bool} {A B : Prop} (h : c = true) (ha : A) : if c = true then A else B := by
  subst h
  exact ha
theorem below_none {w w' : World} (hg : w.grownBy w' none) : Below w.heap.size w w' := (Below.refl _ w).grown hg (Nat.le_refl _) fun k hk => by cases hk
theorem below_own {a w w' : World} {B : Nat} {e : TypeId} {size : Nat} {v : Value} {n : Nat} {xs : List Value} (hb : Below B a w) (ho : OwnV w B e size v n xs) (hg : w.grownBy w' v.ownBlock) (hB : B ≤ w.heap.size) : Below B a w' := hb.grown hg hB fun k hk => (ho.lt k hk).1
theorem many_is {L : List (List Nat)} {v : Value} (w : World) (h : PartsAt w v L) (hz : ∀ s ∈ L, s.length ≤ 140737488355328) (hL : L.length ≤ 281474976710656) {z : Bool} (hm : manyB L = z) :
    Calls Tryd.prog 11 #[v] w fun e w' => e = .returned (.bool z) ∧ Below w.heap.size w w' := by
  subst hm
  refine (many_any L w h hz hL).mono ?_
  rintro e w' ⟨h1, n, rfl⟩
  exact ⟨h1, below_drewN9 w n⟩
theorem xs_len {w : World} {v : Value} {n : Nat} {xs : List Value} (h : SrcV w 1 v n xs) : xs.length = n := by
  obtain ⟨_, _, _, h1, _⟩ := h
  omega
theorem same_is {L M : List (List Nat)} {u v : Value} (w : World) (hu : PartsAt w u L) (hv : PartsAt w v M) {z : Bool} (hz : decide (L = M) = z) :
    Calls Tryd.prog 13 #[u, v] w fun e w' => e = .returned (.bool z) ∧ Below w.heap.size w w' := by
  subst hz
  refine (SameRecs_any w hu hv).mono ?_
  rintro e w' ⟨h1, n, rfl⟩
  exact ⟨h1, below_drewN9 w n⟩
end Go.Proofs.YtjfejpdeccnlnaaDoor
