/- Layer 17's reference (files), in plain words: rows, marks, names and safe ones in lists; how it goes with the program's disk. -/
import Derived.Test.YtidhlbhfhfonoaaGreatDoorFm
namespace Go.Proofs.YtidhlbhfhfonoaaGreatDoor

/-- The reference's disk. -/
structure Rf where
  size : Nat
  rows : List ByteArray
  marks : List Nat
  now : List (ByteArray × Nat)
  safe : List (ByteArray × Nat)

def num8 (s : ByteArray) : List Nat := s.data.toList.map UInt8.toNat
theorem num8_length (s : ByteArray) : (num8 s).length = s.size := by
  unfold num8
  rw [List.length_map]
  rfl
theorem num8_append (a b : ByteArray) : num8 (a ++ b) = num8 a ++ num8 b := by simp [num8]
def place (l : List (ByteArray × Nat)) (s : ByteArray) : Nat := l.findIdx fun p => decide (p.1 = s)
def Rf.is (R : Rf) (s : ByteArray) : Nat × Nat := if nameOk s then (if place R.now s = R.now.length then (0, 7) else (place R.now s, 0)) else (0, 1)
def Rf.row (R : Rf) (j : Nat) : Nat := (R.now.getD j (noName, 0)).2
def Rf.text (R : Rf) (j : Nat) : ByteArray := R.rows.getD (R.row j) noName
def Rf.create (R : Rf) (s : ByteArray) : Rf × Nat :=
  if (R.is s).2 = 0 then (R, 8) else if (R.is s).2 = 1 then (R, 1) else if R.now.length = 64 then (R, 6)
  else ({ R with now := R.now ++ [(s, R.rows.length)], rows := R.rows ++ [noName], marks := R.marks ++ [0] }, 0)
def Rf.remove (R : Rf) (s : ByteArray) : Rf × Nat := if (R.is s).2 = 0 then ({ R with now := R.now.eraseIdx (R.is s).1 }, 0) else (R, (R.is s).2)
def Rf.moved (R : Rf) (j : Nat) (z : ByteArray) : List (ByteArray × Nat) := (R.now.eraseIdx j).eraseIdx (place (R.now.eraseIdx j) z) ++ [(z, R.row j)]
def Rf.rename (R : Rf) (s z : ByteArray) : Rf × Nat :=
  if nameOk z then (if (R.is s).2 = 0 then (if s = z then (R, 0) else ({ R with now := R.moved (R.is s).1 z }, 0)) else (R, (R.is s).2)) else (R, 1)
def total (rows : List ByteArray) (l : List (ByteArray × Nat)) : Nat := (l.map fun p => (rows.getD p.2 noName).size).sum
def Rf.left (R : Rf) : Nat := R.size - total R.rows R.now
def Rf.append (R : Rf) (s b : ByteArray) : Rf × Nat :=
  if (R.is s).2 = 0 then (if b.size ≤ R.left ∧ (R.text (R.is s).1).size + b.size ≤ 1048576 then ({ R with rows := R.rows.set (R.row (R.is s).1) (R.text (R.is s).1 ++ b) }, 0) else (R, 6)) else (R, (R.is s).2)
def Rf.readE (R : Rf) (s : ByteArray) (at_ n : Int) : List Nat × Nat :=
  if 0 ≤ at_ ∧ 0 ≤ n then
    if (R.is s).2 = 0 then
      if at_ ≤ (R.text (R.is s).1).size ∧ n ≤ (R.text (R.is s).1).size - at_ then (((num8 (R.text (R.is s).1)).drop at_.toNat).take n.toNat, 0) else ([], 5)
    else ([], (R.is s).2)
  else ([], 1)
def Rf.sizeE (R : Rf) (s : ByteArray) : Nat × Nat := if (R.is s).2 = 0 then ((R.text (R.is s).1).size, 0) else (0, (R.is s).2)
def Rf.sync (R : Rf) (s : ByteArray) : Rf × Nat := if (R.is s).2 = 0 then ({ R with marks := R.marks.set (R.row (R.is s).1) (R.text (R.is s).1).size }, 0) else (R, (R.is s).2)
def Rf.names (R : Rf) : Rf := { R with safe := R.now }
def cut8 (keep : Nat) (s : ByteArray) (m : Nat) : ByteArray := if keep < s.size - m then s.extract 0 (s.size - (s.size - m) + keep) else s
def Rf.cuts (R : Rf) (keep : Nat) (l : List (ByteArray × Nat)) : List ByteArray := l.map fun p => cut8 keep (R.rows.getD p.2 noName) (R.marks.getD p.2 0)
def numbered (l : List (ByteArray × Nat)) : List (ByteArray × Nat) := (l.map Prod.fst).zipIdx
def Rf.fail (R : Rf) (keep : Nat) (names : Bool) : Rf :=
  ⟨R.size, R.cuts keep (if names then R.now else R.safe), (R.cuts keep (if names then R.now else R.safe)).map ByteArray.size, numbered (if names then R.now else R.safe), numbered (if names then R.now else R.safe)⟩
def newR (n : Nat) : Rf := ⟨n, [], [], [], []⟩

/-! ### The table's names, each with its row's number -/
def one8 (f : Nat → Nat) (p : Pl) : List (ByteArray × Nat) := (p.file.map fun k => (p.name, f k)).toList
def prs (f : Nat → Nat) (t : List Pl) : List (ByteArray × Nat) := t.flatMap (one8 f)
theorem one8_mem {f : Nat → Nat} {p : Pl} {x : ByteArray × Nat} : x ∈ one8 f p ↔ ∃ k, p.file = some k ∧ x = (p.name, f k) := by
  unfold one8
  cases p.file with
  | none => simp
  | some k => simp
theorem prs_mem {f : Nat → Nat} {t : List Pl} {x : ByteArray × Nat} : x ∈ prs f t ↔ ∃ p ∈ t, ∃ k, p.file = some k ∧ x = (p.name, f k) := by
  unfold prs
  rw [List.mem_flatMap]
  simp only [one8_mem]
theorem prs_set (f : Nat → Nat) {t : List Pl} {i : Nat} {q : Pl} (h : t[i]? = some q) (p : Pl) : ∃ A B, prs f t = A ++ (one8 f q ++ B) ∧ prs f (t.set i p) = A ++ (one8 f p ++ B) := by
  obtain ⟨hi, hq⟩ := List.getElem?_eq_some_iff.1 h
  refine ⟨prs f (t.take i), prs f (t.drop (i + 1)), ?_, ?_⟩
  · conv => lhs; rw [← List.take_append_drop i t, List.drop_eq_getElem_cons hi, hq]
    simp [prs]
  · rw [List.set_eq_take_append_cons_drop, if_pos hi]
    simp [prs]
theorem one8_free (f : Nat → Nat) : one8 f free = [] := rfl
/-- A place goes. -/
theorem prs_gone (f : Nat → Nat) {t : List Pl} {i k : Nat} {s : ByteArray} (h : t[i]? = some ⟨s, some k⟩) : (prs f t).Perm ((s, f k) :: prs f (t.set i free)) := by
  obtain ⟨A, B, h1, h2⟩ := prs_set f h free
  rw [h1, h2]
  simp only [one8, Option.map_some, Option.toList_some, Option.map_none, Option.toList_none, List.nil_append, List.cons_append]
  exact List.perm_middle
/-- A free place is taken. -/
theorem prs_come (f : Nat → Nat) {t : List Pl} {i k : Nat} {q : Pl} {s : ByteArray} (h : t[i]? = some q) (hq : q.file = none) : (prs f (t.set i ⟨s, some k⟩)).Perm ((s, f k) :: prs f t) := by
  obtain ⟨A, B, h1, h2⟩ := prs_set f h ⟨s, some k⟩
  rw [h1, h2]
  have e : one8 f q = [] := by unfold one8; rw [hq]; rfl
  rw [e]
  simp only [one8, Option.map_some, Option.toList_some, List.nil_append, List.cons_append]
  exact List.perm_middle
theorem prs_congr {f g : Nat → Nat} {t : List Pl} (h : ∀ p ∈ t, ∀ k, p.file = some k → f k = g k) : prs f t = prs g t := by
  induction t with
  | nil => rfl
  | cons p t ih =>
    have e : ∀ f : Nat → Nat, prs f (p :: t) = one8 f p ++ prs f t := fun f => by simp [prs]
    rw [e, e, ih fun q hq => h q (List.mem_cons_of_mem _ hq)]
    congr 1
    unfold one8
    cases hf : p.file with
    | none => rfl
    | some k => simp [h p (List.mem_cons_self ..) k hf]
theorem prs_names (f : Nat → Nat) (t : List Pl) : (prs f t).map Prod.fst = (t.filter fun p => p.file.isSome).map Pl.name := by
  induction t with
  | nil => rfl
  | cons p t ih =>
    have e : prs f (p :: t) = one8 f p ++ prs f t := by simp [prs]
    rw [e, List.map_append, ih]
    unfold one8
    cases hf : p.file with
    | none => simp [hf]
    | some k => simp [hf]

structure Rel (M : Dm) (R : Rf) (f : Nat → Nat) : Prop where
  size : R.size = M.size
  now : R.now.Perm (prs f M.now)
  safe : R.safe.Perm (prs f M.safe)
  inj : ∀ a b, a < M.rows.length → b < M.rows.length → f a = f b → a = b
  row : ∀ k r, M.rows[k]? = some r → ∃ b, R.rows[f k]? = some b ∧ num8 b = r.l ∧ R.marks[f k]? = some r.m
  ml : R.marks.length = R.rows.length

theorem place_lt {l : List (ByteArray × Nat)} {s : ByteArray} {x : Nat} (h : (s, x) ∈ l) : place l s < l.length ∧ ∃ y, l[place l s]? = some (s, y) := by
  have h1 : place l s < l.length := List.findIdx_lt_length_of_exists ⟨_, h, by simp⟩
  refine ⟨h1, ?_⟩
  have h2 : decide ((l[place l s]).1 = s) = true := List.findIdx_getElem (p := fun p : ByteArray × Nat => decide (p.1 = s)) (w := h1)
  exact ⟨(l[place l s]).2, by rw [List.getElem?_eq_getElem h1]; exact congrArg some (Prod.ext (of_decide_eq_true h2) rfl)⟩
theorem place_none {l : List (ByteArray × Nat)} {s : ByteArray} (h : ∀ x, (s, x) ∉ l) : place l s = l.length := by
  unfold place
  rw [List.findIdx_eq_length]
  rintro ⟨a, x⟩ hx
  simp only [decide_eq_false_iff_not]
  rintro rfl
  exact h x hx
/-- A name in a table stands at one place. -/
theorem prs_one {f : Nat → Nat} {n : Nat} {t : List Pl} (ht : okT n t) {s : ByteArray} {i : Nat} {o : Option Nat} (h : t[i]? = some ⟨s, o⟩) (hs : s ≠ noName) {x : Nat} (hx : (s, x) ∈ prs f t) : ∃ k, o = some k ∧ x = f k := by
  obtain ⟨p, hp, k, hk, e⟩ := prs_mem.1 hx
  obtain ⟨j, hj⟩ := List.mem_iff_getElem?.1 hp
  injection e with e1 e2
  have := ht.one i j _ p h hj e1 hs
  subst this
  rw [h] at hj
  cases hj
  exact ⟨k, hk, e2⟩
section
variable {M : Dm} {R : Rf} {f : Nat → Nat}
theorem Rel.yes (H : Rel M R f) (ok : M.ok) {s : ByteArray} {i : Nat} (hs : nameOk s = true) (hf : find M.now s = some i) :
    ∃ k r j b, M.now[i]? = some ⟨s, some k⟩ ∧ M.rows[k]? = some r ∧ i < 64 ∧ M.file i = k ∧ M.row i = r ∧ R.now[j]? = some (s, f k) ∧ R.is s = (j, 0) ∧ R.row j = f k ∧ R.rows[f k]? = some b ∧ num8 b = r.l ∧ R.marks[f k]? = some r.m ∧ R.text j = b ∧ b.size = r.l.length := by
  obtain ⟨k, r, h1, h2, h3, h4, h5⟩ := ok.found hs hf
  have hm : (s, f k) ∈ R.now := H.now.mem_iff.2 (prs_mem.2 ⟨_, List.mem_of_getElem? h1, k, rfl, rfl⟩)
  obtain ⟨h6, y, h7⟩ := place_lt hm
  obtain ⟨k', e1, e2⟩ := prs_one ok.now h1 (nameOk_ne hs) (H.now.mem_iff.1 (List.mem_of_getElem? h7))
  cases e1
  subst e2
  obtain ⟨b, h8, h9, h10⟩ := H.row k r h2
  have hrow : R.row (place R.now s) = f k := by simp [Rf.row, List.getD, h7]
  refine ⟨k, r, place R.now s, b, h1, h2, h3, h4, h5, h7, ?_, hrow, h8, h9, h10, ?_, by rw [← num8_length, h9]⟩
  · unfold Rf.is
    rw [if_pos hs, if_neg (by omega)]
  · simp [Rf.text, hrow, List.getD, h8]
theorem Rel.no (H : Rel M R f) {s : ByteArray} (hs : nameOk s = true) (hf : find M.now s = none) : place R.now s = R.now.length ∧ R.is s = (0, 7) := by
  have h : place R.now s = R.now.length := place_none fun x hx => by
    obtain ⟨p, hp, k, _, e⟩ := prs_mem.1 (H.now.mem_iff.1 hx)
    injection e with e1 _
    obtain ⟨j, hj⟩ := List.mem_iff_getElem?.1 hp
    exact find_none hf j p hj e1.symm
  exact ⟨h, by unfold Rf.is; rw [if_pos hs, if_pos h]⟩
theorem Rf.is_bad {s : ByteArray} (R : Rf) (hs : ¬ nameOk s = true) : R.is s = (0, 1) := by unfold Rf.is; rw [if_neg hs]
theorem Rel.lt (H : Rel M R f) {k : Nat} (hk : k < M.rows.length) : f k < R.rows.length := by
  obtain ⟨b, h, _⟩ := H.row k _ (List.getElem?_eq_getElem hk)
  exact (List.getElem?_eq_some_iff.1 h).1
theorem Rel.is_err (H : Rel M R f) (ok : M.ok) (s : ByteArray) : (R.is s).2 = (if nameOk s then (match find M.now s with | none => 7 | some _ => 0) else 1) := by
  by_cases hs : nameOk s = true
  · rw [if_pos hs]
    cases hf : find M.now s with
    | none => rw [(H.no hs hf).2]
    | some i => obtain ⟨_, _, j, _, _, _, _, _, _, _, h, _⟩ := H.yes ok hs hf; rw [h]
  · rw [R.is_bad hs, if_neg hs]
theorem prs_length_le (f : Nat → Nat) (t : List Pl) : (prs f t).length ≤ t.length := by
  have := congrArg List.length (prs_names f t)
  rw [List.length_map, List.length_map] at this
  rw [this]
  exact List.length_filter_le ..
theorem prs_full (f : Nat → Nat) {t : List Pl} (h : ∀ p ∈ t, p.file ≠ none) : (prs f t).length = t.length := by
  have := congrArg List.length (prs_names f t)
  rw [List.length_map, List.length_map] at this
  rw [this, List.filter_eq_self.2 fun p hp => by cases hf : p.file with | none => exact absurd hf (h p hp) | some _ => rfl]
theorem prs_lack (f : Nat → Nat) {t : List Pl} {i : Nat} {q : Pl} (h : t[i]? = some q) (hq : q.file = none) : (prs f t).length < t.length := by
  have h1 := (prs_come f (k := 0) (s := noName) h hq).length_eq
  have h2 := prs_length_le f (t.set i ⟨noName, some 0⟩)
  rw [h1, List.length_cons, List.length_set] at h2
  omega
theorem Rel.create (H : Rel M R f) (ok : M.ok) (s : ByteArray) : (R.create s).2 = (M.create s).2 ∧ ∃ g, Rel (M.create s).1 (R.create s).1 g := by
  unfold Rf.create Dm.create
  rw [H.is_err ok s]
  by_cases hs : nameOk s = true
  · simp only [if_pos hs]
    cases hf : find M.now s with
    | some i => exact ⟨rfl, f, H⟩
    | none =>
      rw [if_neg (by decide), if_neg (by decide)]
      cases he : find M.now noName with
      | none =>
        have h64 : R.now.length = 64 := by
          rw [H.now.length_eq, prs_full f fun p hp e => ?_, ok.nl]
          obtain ⟨j, hj⟩ := List.mem_iff_getElem?.1 hp
          exact find_none he j p hj ((ok.now.file j p hj).1.2 e)
        rw [if_pos h64]
        exact ⟨rfl, f, H⟩
      | some i =>
        obtain ⟨o, hi, hlt⟩ := find_get he
        have ho : o = none := (ok.now.file i _ hi).1.1 rfl
        subst ho
        have h64 : R.now.length ≠ 64 := by
          have := prs_lack f hi rfl
          rw [ok.nl] at this
          rw [H.now.length_eq]
          omega
        rw [if_neg h64]
        refine ⟨rfl, fun k => if k = M.rows.length then R.rows.length else f k, ⟨H.size, ?_, ?_, fun a b ha hb e => ?_, fun k r hk => ?_, ?_⟩⟩
        · refine List.Perm.trans ?_ (prs_come _ hi rfl).symm
          refine List.Perm.trans (List.perm_append_singleton _ _) ?_
          simp only [if_pos]
          refine List.Perm.cons _ (H.now.trans (List.Perm.of_eq ?_))
          exact prs_congr fun p hp k hk => by rw [if_neg (fun e => by obtain ⟨j, hj⟩ := List.mem_iff_getElem?.1 hp; have := (ok.now.file j p hj).2 k hk; omega)]
        · refine H.safe.trans (List.Perm.of_eq ?_)
          exact prs_congr fun p hp k hk => by rw [if_neg (fun e => by obtain ⟨j, hj⟩ := List.mem_iff_getElem?.1 hp; have := (ok.safe.file j p hj).2 k hk; omega)]
        · simp only [List.length_append, List.length_cons, List.length_nil] at ha hb
          split at e <;> split at e
          · omega
          · have := H.lt (k := b) (by omega); omega
          · have := H.lt (k := a) (by omega); omega
          · exact H.inj a b (by omega) (by omega) e
        · dsimp only at hk ⊢
          rcases Nat.lt_or_ge k M.rows.length with hl | hl
          · rw [List.getElem?_append_left hl] at hk
            rw [if_neg (by omega)]
            obtain ⟨b, h1, h2, h3⟩ := H.row k r hk
            exact ⟨b, by rw [List.getElem?_append_left (H.lt hl)]; exact h1, h2, by rw [List.getElem?_append_left (by rw [H.ml]; exact H.lt hl)]; exact h3⟩
          · rw [List.getElem?_append_right hl] at hk
            obtain ⟨h0, hk⟩ := List.getElem?_eq_some_iff.1 hk
            have hk0 : k - M.rows.length = 0 := by simpa using h0
            have hkk : k = M.rows.length := by omega
            subst hkk
            simp only [Nat.sub_self, List.getElem_cons_zero] at hk
            subst hk
            rw [if_pos rfl]
            refine ⟨noName, by simp, rfl, ?_⟩
            rw [← H.ml]
            simp
        · simp [H.ml]
  · simp only [if_neg hs]
    exact ⟨rfl, f, H⟩
theorem erase_perm {l m : List (ByteArray × Nat)} {j : Nat} {x : ByteArray × Nat} (h : l[j]? = some x) (hp : l.Perm (x :: m)) : (l.eraseIdx j).Perm m := by
  obtain ⟨hj, e⟩ := List.getElem?_eq_some_iff.1 h
  refine List.Perm.cons_inv (a := x) (List.Perm.trans ?_ hp)
  rw [List.eraseIdx_eq_take_drop_succ]
  conv => rhs; rw [← List.take_append_drop j l, List.drop_eq_getElem_cons hj, e]
  exact List.perm_middle.symm
theorem Rel.remove (H : Rel M R f) (ok : M.ok) (s : ByteArray) : (R.remove s).2 = (M.remove s).2 ∧ ∃ g, Rel (M.remove s).1 (R.remove s).1 g := by
  unfold Rf.remove Dm.remove Dm.at
  by_cases hs : nameOk s = true
  · simp only [if_pos hs]
    cases hf : find M.now s with
    | none => rw [(H.no hs hf).2]; exact ⟨rfl, f, H⟩
    | some i =>
      obtain ⟨k, r, j, b, h1, h2, h3, h4, h5, h6, h7, _⟩ := H.yes ok hs hf
      rw [h7]
      exact ⟨rfl, f, ⟨H.size, erase_perm h6 (H.now.trans (prs_gone f h1)), H.safe, H.inj, H.row, H.ml⟩⟩
  · rw [R.is_bad hs]
    simp only [if_neg hs]
    exact ⟨rfl, f, H⟩
theorem erase_none {l : List (ByteArray × Nat)} {z : ByteArray} (h : ∀ x, (z, x) ∉ l) : l.eraseIdx (place l z) = l := by rw [place_none h, List.eraseIdx_of_length_le (Nat.le_refl _)]
theorem Rel.rename (H : Rel M R f) (ok : M.ok) (s z : ByteArray) : (R.rename s z).2 = (M.rename s z).2 ∧ ∃ g, Rel (M.rename s z).1 (R.rename s z).1 g := by
  unfold Rf.rename Dm.rename Dm.at
  by_cases hz : nameOk z = true
  · simp only [if_pos hz]
    by_cases hs : nameOk s = true
    · simp only [if_pos hs]
      cases hf : find M.now s with
      | none => rw [(H.no hs hf).2]; exact ⟨rfl, f, H⟩
      | some i =>
        obtain ⟨k, r, j, b, h1, h2, h3, h4, h5, h6, h7, h8, _⟩ := H.yes ok hs hf
        rw [h7]
        simp only [if_true]
        by_cases hsz : s = z
        · rw [if_pos hsz, if_pos hsz]; exact ⟨rfl, f, H⟩
        · rw [if_neg hsz, if_neg hsz]
          refine ⟨rfl, f, ⟨H.size, ?_, H.safe, H.inj, H.row, H.ml⟩⟩
          have hfile : (M.now.getD i free).file = some k := by simp [List.getD, h1]
          show (R.moved j z).Perm (prs f ((freed M.now z).set i ⟨z, (M.now.getD i free).file⟩))
          unfold Rf.moved
          rw [hfile, h8]
          have hE : (R.now.eraseIdx j).Perm (prs f (M.now.set i free)) := erase_perm h6 (H.now.trans (prs_gone f h1))
          refine (List.perm_append_singleton _ _).trans ?_
          -- the table without the old name, in which the new one is free
          have hT : (freed M.now z).set i ⟨z, some k⟩ = ((freed M.now z).set i free).set i ⟨z, some k⟩ := by rw [List.set_set]
          rw [hT]
          have hlen : i < (freed M.now z).length := by
            have := (ok.now.freed z).len
            omega
          have hi : ((freed M.now z).set i free)[i]? = some free := by rw [List.getElem?_set_self hlen]
          refine List.Perm.trans ?_ (prs_come f hi rfl).symm
          refine List.Perm.cons _ ?_
          cases hg : find M.now z with
          | none =>
            have e : freed M.now z = M.now := by unfold freed; rw [hg]
            rw [e, erase_none fun x hx => ?_]
            · exact hE
            · obtain ⟨p, hp, _, _, e⟩ := prs_mem.1 (hE.mem_iff.1 hx)
              injection e with e1 _
              obtain ⟨a, ha⟩ := List.mem_iff_getElem?.1 hp
              rcases set_get ha with ⟨_, _, rfl⟩ | ⟨_, ha⟩
              · exact nameOk_ne hz e1
              · exact find_none hg a p ha e1.symm
          | some a =>
            have e : freed M.now z = M.now.set a free := by unfold freed; rw [hg]
            obtain ⟨k', r', j', b', g1, _⟩ := H.yes ok hz hg
            have hai : a ≠ i := by
              rintro rfl
              rw [h1] at g1
              cases g1
              exact hsz rfl
            rw [e, List.set_comm _ _ hai]
            have g2 : (M.now.set i free)[a]? = some ⟨z, some k'⟩ := by rw [List.getElem?_set_ne (Ne.symm hai)]; exact g1
            have hm : (z, f k') ∈ R.now.eraseIdx j := hE.mem_iff.2 (prs_mem.2 ⟨_, List.mem_of_getElem? g2, k', rfl, rfl⟩)
            obtain ⟨g3, y, g4⟩ := place_lt hm
            obtain ⟨k9, e1, e2⟩ := prs_one (ok.now.gone i) g2 (nameOk_ne hz) (hE.mem_iff.1 (List.mem_of_getElem? g4))
            cases e1
            subst e2
            exact erase_perm g4 (hE.trans (prs_gone f g2))
    · rw [R.is_bad hs]
      simp only [if_neg hs]
      exact ⟨rfl, f, H⟩
  · simp only [if_neg hz]
    exact ⟨trivial, f, H⟩
theorem Rel.rowOf (H : Rel M R f) {p : Pl} {k : Nat} (hk : p.file = some k) (hl : k < M.rows.length) : (R.rows.getD (f k) noName).size = (rowOf M p).l.length := by
  obtain ⟨b, h1, h2, _⟩ := H.row k _ (List.getElem?_eq_getElem hl)
  unfold Go.Proofs.YtidhlbhfhfonoaaGreatDoor.rowOf
  rw [hk]
  simp only [List.getD_eq_getElem?_getD, h1, List.getElem?_eq_getElem hl, Option.getD_some]
  rw [← h2, num8_length]
theorem total_prs (H : Rel M R f) : ∀ (t : List Pl), (∀ p ∈ t, ∀ k, p.file = some k → k < M.rows.length) → total R.rows (prs f t) = used M t
  | [], _ => rfl
  | p :: t, h => by
    have ih := total_prs H t fun q hq => h q (List.mem_cons_of_mem _ hq)
    have e : prs f (p :: t) = one8 f p ++ prs f t := by simp [prs]
    unfold total used at ih ⊢
    rw [e, List.map_append, List.sum_append, ih, List.map_cons, List.sum_cons]
    congr 1
    unfold one8
    cases hf : p.file with
    | none => simp [rowOf, hf]
    | some k =>
      have := H.rowOf hf (h p (List.mem_cons_self ..) k hf)
      simpa using this
theorem Rel.total (H : Rel M R f) (ok : M.ok) : total R.rows R.now = used M M.now := by
  rw [← total_prs H M.now fun p hp => (ok.now.mem p hp).2]
  unfold Go.Proofs.YtidhlbhfhfonoaaGreatDoor.total
  exact (H.now.map _).sum_nat
theorem Rel.left (H : Rel M R f) (ok : M.ok) : R.left = M.left := by
  unfold Rf.left Dm.left
  rw [H.size, H.total ok]
theorem Rel.setRow (H : Rel M R f) {k : Nat} {r : Rw} {b : ByteArray} (hk : k < M.rows.length) (hb : num8 b = r.l) (hm : R.marks[f k]? = some r.m) : Rel { M with rows := M.rows.set k r } { R with rows := R.rows.set (f k) b } f := by
  refine ⟨H.size, H.now, H.safe, fun a b ha hb e => H.inj a b (by simpa using ha) (by simpa using hb) e, fun j q hj => ?_, by simp [H.ml]⟩
  dsimp only at hj ⊢
  rcases Nat.decEq k j with hne | rfl
  · rw [List.getElem?_set_ne hne] at hj
    obtain ⟨b', h1, h2, h3⟩ := H.row j q hj
    have hjl := (List.getElem?_eq_some_iff.1 hj).1
    exact ⟨b', by rw [List.getElem?_set_ne fun e => hne (H.inj k j hk hjl e)]; exact h1, h2, h3⟩
  · rw [List.getElem?_set_self hk] at hj
    cases hj
    exact ⟨b, by rw [List.getElem?_set_self (H.lt hk)], hb, hm⟩
theorem Rel.setMark (H : Rel M R f) {k : Nat} {r : Rw} (hk : M.rows[k]? = some r) (m : Nat) : Rel { M with rows := M.rows.set k ⟨r.l, m⟩ } { R with marks := R.marks.set (f k) m } f := by
  have hkl := (List.getElem?_eq_some_iff.1 hk).1
  refine ⟨H.size, H.now, H.safe, fun a b ha hb e => H.inj a b (by simpa using ha) (by simpa using hb) e, fun j q hj => ?_, by simp [H.ml]⟩
  dsimp only at hj ⊢
  rcases Nat.decEq k j with hne | rfl
  · rw [List.getElem?_set_ne hne] at hj
    obtain ⟨b', h1, h2, h3⟩ := H.row j q hj
    have hjl := (List.getElem?_eq_some_iff.1 hj).1
    exact ⟨b', h1, h2, by rw [List.getElem?_set_ne fun e => hne (H.inj k j hkl hjl e)]; exact h3⟩
  · rw [List.getElem?_set_self hkl] at hj
    cases hj
    obtain ⟨b', h1, h2, h3⟩ := H.row k r hk
    exact ⟨b', h1, h2, by rw [List.getElem?_set_self (by rw [H.ml]; exact H.lt hkl)]⟩
theorem Rel.append (H : Rel M R f) (ok : M.ok) (s b : ByteArray) : (R.append s b).2 = (M.append s (num8 b)).2 ∧ ∃ g, Rel (M.append s (num8 b)).1 (R.append s b).1 g := by
  unfold Rf.append Dm.append Dm.at
  by_cases hs : nameOk s = true
  · simp only [if_pos hs]
    cases hf : find M.now s with
    | none => rw [(H.no hs hf).2]; exact ⟨rfl, f, H⟩
    | some i =>
      obtain ⟨k, r, j, t, h1, h2, h3, h4, h5, h6, h7, h8, h9, h10, h11, h12, h13⟩ := H.yes ok hs hf
      rw [h7]
      simp only [if_true]
      rw [H.left ok, h12, h13, h5, num8_length, h8, h4]
      split
      · exact ⟨rfl, f, H.setRow (List.getElem?_eq_some_iff.1 h2).1 (by rw [num8_append, h10]) h11⟩
      · exact ⟨rfl, f, H⟩
  · rw [R.is_bad hs]
    simp only [if_neg hs]
    exact ⟨rfl, f, H⟩
theorem Rel.sync (H : Rel M R f) (ok : M.ok) (s : ByteArray) : (R.sync s).2 = (M.sync s).2 ∧ ∃ g, Rel (M.sync s).1 (R.sync s).1 g := by
  unfold Rf.sync Dm.sync Dm.at
  by_cases hs : nameOk s = true
  · simp only [if_pos hs]
    cases hf : find M.now s with
    | none => rw [(H.no hs hf).2]; exact ⟨rfl, f, H⟩
    | some i =>
      obtain ⟨k, r, j, t, h1, h2, h3, h4, h5, h6, h7, h8, h9, h10, h11, h12, h13⟩ := H.yes ok hs hf
      rw [h7]
      simp only [if_true]
      rw [h12, h13, h5, h8, h4]
      exact ⟨trivial, f, H.setMark h2 _⟩
  · rw [R.is_bad hs]
    simp only [if_neg hs]
    exact ⟨rfl, f, H⟩
theorem Rel.names (H : Rel M R f) : Rel M.names R.names f := ⟨H.size, H.now, H.now, H.inj, H.row, H.ml⟩
theorem new_rel (n : Nat) : Rel (new0 n) (newR n) id := by
  have h : prs id (List.replicate 64 free) = [] := by
    unfold prs
    rw [List.flatMap_eq_nil_iff]
    intro p hp
    rw [List.eq_of_mem_replicate hp]
    rfl
  refine ⟨rfl, ?_, ?_, fun a b ha => by simp [new0] at ha, fun k r hk => by simp [new0] at hk, rfl⟩
  · show List.Perm [] (prs id (List.replicate 64 free)); rw [h]
  · show List.Perm [] (prs id (List.replicate 64 free)); rw [h]
theorem names_nodup : ∀ (t : List Pl), dist t → (∀ p ∈ t, p.file.isSome = true → p.name ≠ noName) → ((t.filter fun p => p.file.isSome).map Pl.name).Nodup
  | [], _, _ => List.nodup_nil
  | p :: t, hd, hn => by
    have ih := names_nodup t (fun i j a b ha hb e ne => by have := hd (i + 1) (j + 1) a b (by simpa using ha) (by simpa using hb) e ne; omega) fun q hq => hn q (List.mem_cons_of_mem _ hq)
    by_cases hp : p.file.isSome = true
    · rw [List.filter_cons_of_pos (p := fun p : Pl => p.file.isSome) hp, List.map_cons, List.nodup_cons]
      refine ⟨fun hm => ?_, ih⟩
      obtain ⟨q, hq, e⟩ := List.mem_map.1 hm
      obtain ⟨j, hj⟩ := List.mem_iff_getElem?.1 (List.mem_filter.1 hq).1
      have := hd (j + 1) 0 q p (by simpa using hj) rfl e (by rw [e]; exact hn p (List.mem_cons_self ..) hp)
      omega
    · rw [List.filter_cons_of_neg (p := fun p : Pl => p.file.isSome) hp]
      exact ih
theorem prs_nodup {n : Nat} {t : List Pl} (ht : okT n t) (f : Nat → Nat) : ((prs f t).map Prod.fst).Nodup := by
  rw [prs_names]
  refine names_nodup t ht.one fun p hp hs e => ?_
  rw [(ht.mem p hp).1.1 e] at hs
  cases hs
theorem prs_id (f : Nat → Nat) (t : List Pl) : prs f t = (prs id t).map fun x => (x.1, f x.2) := by
  induction t with
  | nil => rfl
  | cons p t ih =>
    have e : ∀ f : Nat → Nat, prs f (p :: t) = one8 f p ++ prs f t := fun f => by simp [prs]
    rw [e, e, ih, List.map_append]
    congr 1
    unfold one8
    cases p.file <;> rfl
theorem prs_app (f : Nat → Nat) (t u : List Pl) : prs f (t ++ u) = prs f t ++ prs f u := by simp [prs]
theorem fail_list (M : Dm) (keep : Nat) : ∀ (n : Nat) (t : List Pl), t.length = n → (failT M keep t).2 = (prs id t).map (fun x => failRow keep (M.rows.getD x.2 noRow)) ∧ prs id (failT M keep t).1 = ((prs id t).map Prod.fst).zipIdx := by
  intro n
  induction n with
  | zero =>
    intro t ht
    obtain rfl := List.length_eq_zero_iff.1 ht
    exact ⟨rfl, rfl⟩
  | succ n ih =>
    intro t ht
    obtain ⟨u, p, rfl⟩ : ∃ u p, t = u ++ [p] := by
      have hne : t ≠ [] := by rintro rfl; simp at ht
      exact ⟨t.dropLast, t.getLast hne, (List.dropLast_concat_getLast hne).symm⟩
    obtain ⟨h1, h2⟩ := ih u (by simpa using ht)
    rw [failT_snoc, prs_app]
    have e1 : prs id [p] = one8 id p := by simp [prs]
    rw [e1]
    unfold failStep
    cases hf : p.file with
    | none =>
      have e2 : one8 id p = [] := by unfold one8; rw [hf]; rfl
      dsimp only
      rw [e2, List.append_nil, prs_app, e1, e2, List.append_nil]
      exact ⟨h1, h2⟩
    | some k =>
      have e2 : one8 id p = [(p.name, k)] := by unfold one8; rw [hf]; rfl
      dsimp only
      rw [e2, prs_app, h2, h1]
      refine ⟨by simp, ?_⟩
      simp [prs, one8, List.zipIdx_append]
theorem numbered_eq {l : List (ByteArray × Nat)} (h : (l.map Prod.fst).Nodup) : numbered l = l.map fun y => (y.1, place l y.1) := by
  unfold numbered
  refine List.ext_getElem? fun i => ?_
  rw [List.getElem?_zipIdx, List.getElem?_map, List.getElem?_map]
  cases hi : l[i]? with
  | none => rfl
  | some y =>
    obtain ⟨h1, z, h2⟩ := place_lt (s := y.1) (x := y.2) (List.mem_of_getElem? hi)
    have hil := (List.getElem?_eq_some_iff.1 hi).1
    have : place l y.1 = i := (List.getElem_inj (xs := l.map Prod.fst) (h₀ := by simpa using h1) (h₁ := by simpa using hil) h).1 (by
      rw [List.getElem_map, List.getElem_map, (List.getElem?_eq_some_iff.1 h2).2, (List.getElem?_eq_some_iff.1 hi).2])
    simp [this]
theorem cut8_num {s : ByteArray} {r : Rw} {keep : Nat} (h : num8 s = r.l) (hm : r.m ≤ r.l.length) : num8 (cut8 keep s r.m) = (failRow keep r).l ∧ (cut8 keep s r.m).size = (failRow keep r).m := by
  have hs : s.size = r.l.length := by rw [← h, num8_length]
  have hl : (failRow keep r).l.length = (failRow keep r).m := by
    show (r.l.take _).length = _
    rw [List.length_take]
    show min (r.m + min keep (r.l.length - r.m)) r.l.length = r.m + min keep (r.l.length - r.m)
    omega
  have hn : num8 (cut8 keep s r.m) = (failRow keep r).l := by
    show _ = r.l.take (r.m + min keep (r.l.length - r.m))
    unfold cut8
    split
    · rw [show min keep (r.l.length - r.m) = keep by omega, show s.size - (s.size - r.m) + keep = r.m + keep by omega, ← h]
      unfold num8
      rw [ByteArray.data_extract, Array.toList_extract]
      simp
    · rw [h, List.take_of_length_le (by omega)]
  exact ⟨hn, by rw [← num8_length, hn, hl]⟩
theorem Rel.tab (H : Rel M R f) (names : Bool) : (if names then R.now else R.safe).Perm (prs f (if names then M.now else M.safe)) := by cases names; exact H.safe; exact H.now
theorem Rel.fail (H : Rel M R f) (ok : M.ok) (keep : Nat) (names : Bool) : ∃ g, Rel (M.fail keep names) (R.fail keep names) g := by
  have ht := ok.tab names
  have hp := H.tab names
  have hf : M.fail keep names = ⟨M.size, (failT M keep (if names then M.now else M.safe)).1, (failT M keep (if names then M.now else M.safe)).1, (failT M keep (if names then M.now else M.safe)).2⟩ := rfl
  rw [hf]
  unfold Rf.fail
  generalize (if names then M.now else M.safe) = t at ht hp ⊢
  generalize (if names then R.now else R.safe) = l at hp ⊢
  obtain ⟨h1, h2⟩ := fail_list M keep _ t rfl
  have hN : ((prs f t).map Prod.fst).Nodup := prs_nodup ht f
  have hL : (l.map Prod.fst).Nodup := ((hp.map Prod.fst).nodup_iff).2 hN
  obtain ⟨Q, hQ⟩ : ∃ Q, Q = prs id t := ⟨_, rfl⟩
  have hP : prs f t = Q.map fun x => (x.1, f x.2) := by rw [hQ]; exact prs_id f t
  rw [← hQ] at h1 h2
  have hQn : (Q.map Prod.fst).Nodup := by
    have := hN
    rw [hP, List.map_map] at this
    exact this
  have hat : ∀ (j : Nat) (x : ByteArray × Nat), Q[j]? = some x → place l x.1 < l.length ∧ l[place l x.1]? = some (x.1, f x.2) := fun j x hj => by
    have hm : (x.1, f x.2) ∈ l := hp.mem_iff.2 (by rw [hP]; exact List.mem_map.2 ⟨x, List.mem_of_getElem? hj, rfl⟩)
    obtain ⟨h3, y, h4⟩ := place_lt hm
    refine ⟨h3, ?_⟩
    obtain ⟨a, ha⟩ := List.mem_iff_getElem?.1 hm
    have hal := (List.getElem?_eq_some_iff.1 ha).1
    have : place l x.1 = a := (List.getElem_inj (xs := l.map Prod.fst) (h₀ := by simpa using h3) (h₁ := by simpa using hal) hL).1 (by
      rw [List.getElem_map, List.getElem_map, (List.getElem?_eq_some_iff.1 h4).2, (List.getElem?_eq_some_iff.1 ha).2])
    rw [this]
    exact ha
  have hnow : (numbered l).Perm (prs (fun j => place l (Q.getD j (noName, 0)).1) (failT M keep t).1) := by
    rw [numbered_eq hL, prs_id, h2]
    have e : ((Q.map Prod.fst).zipIdx.map fun x => (x.1, place l (Q.getD x.2 (noName, 0)).1)) = (prs f t).map fun y => (y.1, place l y.1) := by
      rw [hP, List.map_map]
      refine List.ext_getElem? fun i => ?_
      rw [List.getElem?_map, List.getElem?_zipIdx, List.getElem?_map, List.getElem?_map]
      cases hi : Q[i]? with
      | none => rfl
      | some x => simp [List.getD, hi]
    rw [e]
    exact hp.map _
  refine ⟨fun j => place l (Q.getD j (noName, 0)).1, ⟨H.size, hnow, hnow, fun a b ha hb e => ?_, fun k r hk => ?_, by simp⟩⟩
  · dsimp only at ha hb
    rw [h1, List.length_map] at ha hb
    have ea : Q[a]? = some Q[a] := List.getElem?_eq_getElem ha
    have eb : Q[b]? = some Q[b] := List.getElem?_eq_getElem hb
    simp only [List.getD, ea, eb, Option.getD_some] at e
    obtain ⟨_, k1⟩ := hat a _ ea
    obtain ⟨_, k2⟩ := hat b _ eb
    rw [e, k2] at k1
    injection k1 with k1
    injection k1 with k1 _
    exact (List.getElem_inj (xs := Q.map Prod.fst) (h₀ := by simpa using ha) (h₁ := by simpa using hb) hQn).1 (by rw [List.getElem_map, List.getElem_map, k1])
  · dsimp only at hk ⊢
    rw [h1, List.getElem?_map] at hk
    cases hq : Q[k]? with
    | none => rw [hq] at hk; cases hk
    | some x =>
      rw [hq] at hk
      injection hk with hk
      subst hk
      obtain ⟨_, k1⟩ := hat k x hq
      have hxk : x.2 < M.rows.length := by
        have hm : x ∈ prs id t := by rw [← hQ]; exact List.mem_of_getElem? hq
        obtain ⟨p, hpm, j, hj, e⟩ := prs_mem.1 hm
        have := (ht.mem p hpm).2 j hj
        rw [e]
        exact this
      have hr := List.getElem?_eq_getElem hxk
      obtain ⟨b, k2, k3, k4⟩ := H.row x.2 _ hr
      obtain ⟨k5, k6⟩ := cut8_num (keep := keep) k3 (ok.rl x.2 _ hr).2.1
      have eg : M.rows.getD x.2 noRow = M.rows[x.2] := by simp [List.getD, hr]
      simp only [List.getD, hq, Option.getD_some]
      unfold Rf.cuts
      refine ⟨cut8 keep b M.rows[x.2].m, ?_, ?_, ?_⟩
      · rw [List.getElem?_map, k1]
        simp [List.getD, k2, k4]
      · rw [k5, hr]; rfl
      · rw [List.getElem?_map, List.getElem?_map, k1]
        simp only [Option.map_some, List.getD, k2, k4, Option.getD_some]
        rw [k6, hr]; rfl
end
/-- A reference's disk that is one. -/
structure RfOk (R : Rf) : Prop where
  size : 1 ≤ R.size ∧ R.size ≤ 8388608
  nl : R.now.length ≤ 64
  sl : R.safe.length ≤ 64
  now : ∀ p ∈ R.now, nameOk p.1 = true ∧ ∃ b m, R.rows[p.2]? = some b ∧ b.size ≤ 1048576 ∧ R.marks[p.2]? = some m ∧ m ≤ b.size
  safe : ∀ p ∈ R.safe, nameOk p.1 = true ∧ ∃ b m, R.rows[p.2]? = some b ∧ b.size ≤ 1048576 ∧ R.marks[p.2]? = some m ∧ m ≤ b.size
  ml : R.marks.length = R.rows.length
  nd : (R.now.map Prod.fst).Nodup
theorem prs_fine {M : Dm} {R : Rf} {f : Nat → Nat} (H : Rel M R f) (ok : M.ok) {t : List Pl} (ht : okT M.rows.length t) {p : ByteArray × Nat} (hp : p ∈ prs f t) : nameOk p.1 = true ∧ ∃ b m, R.rows[p.2]? = some b ∧ b.size ≤ 1048576 ∧ R.marks[p.2]? = some m ∧ m ≤ b.size := by
  obtain ⟨q, hq, k, hk, rfl⟩ := prs_mem.1 hp
  obtain ⟨i, hi⟩ := List.mem_iff_getElem?.1 hq
  have h1 := ht.mem q hq
  have hn : q.name ≠ noName := fun e => by rw [h1.1.1 e] at hk; cases hk
  have hkl := h1.2 k hk
  obtain ⟨b, h2, h3, h4⟩ := H.row k _ (List.getElem?_eq_getElem hkl)
  have h5 := ok.rl k _ (List.getElem?_eq_getElem hkl)
  have h6 : b.size = M.rows[k].l.length := by rw [← num8_length, h3]
  exact ⟨ht.may i q hi hn, b, _, h2, by omega, h4, by omega⟩
theorem Rel.okR {M : Dm} {R : Rf} {f : Nat → Nat} (H : Rel M R f) (ok : M.ok) : RfOk R :=
  ⟨by rw [H.size]; exact ok.size, by rw [H.now.length_eq, ← ok.nl]; exact prs_length_le f _, by rw [H.safe.length_eq, ← ok.sl]; exact prs_length_le f _,
    fun p hp => prs_fine H ok ok.now (H.now.mem_iff.1 hp), fun p hp => prs_fine H ok ok.safe (H.safe.mem_iff.1 hp), H.ml, ((H.now.map Prod.fst).nodup_iff).2 (prs_nodup ok.now f)⟩
theorem RfOk.no0 {R : Rf} (h : RfOk R) : noName ∉ R.now.map Prod.fst := fun hm => by
  obtain ⟨p, hp, e⟩ := List.mem_map.1 hm
  exact nameOk_ne (h.now p hp).1 e
theorem RfOk.at {R : Rf} (h : RfOk R) {s : ByteArray} (hs : (R.is s).2 = 0) : nameOk s = true ∧ (R.is s).1 < R.now.length ∧ ∃ k b m, R.now[(R.is s).1]? = some (s, k) ∧ R.row (R.is s).1 = k ∧ R.rows[k]? = some b ∧ R.text (R.is s).1 = b ∧ b.size ≤ 1048576 ∧ R.marks[k]? = some m ∧ m ≤ b.size ∧ k < R.rows.length ∧ (R.is s).1 = place R.now s := by
  unfold Rf.is at hs ⊢
  by_cases h1 : nameOk s = true
  · rw [if_pos h1] at hs ⊢
    by_cases h2 : place R.now s = R.now.length
    · rw [if_pos h2] at hs; cases hs
    · rw [if_neg h2]
      have h3 : place R.now s < R.now.length := by
        have : place R.now s ≤ R.now.length := List.findIdx_le_length
        omega
      have h4 : decide ((R.now[place R.now s]).1 = s) = true := List.findIdx_getElem (p := fun p : ByteArray × Nat => decide (p.1 = s)) (w := h3)
      have h5 := List.getElem?_eq_getElem h3
      obtain ⟨_, b, m, h6, h7, h8, h9⟩ := h.now _ (List.mem_of_getElem? h5)
      refine ⟨h1, h3, _, b, m, by rw [h5]; exact congrArg some (Prod.ext (of_decide_eq_true h4) rfl), ?_, h6, ?_, h7, h8, h9, (List.getElem?_eq_some_iff.1 h6).1, rfl⟩
      · simp [Rf.row, List.getD, h5]
      · simp [Rf.text, Rf.row, List.getD, h5, h6]
  · rw [if_neg h1] at hs; cases hs
end Go.Proofs.YtidhlbhfhfonoaaGreatDoor
