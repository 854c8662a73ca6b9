/- What all of this seat's proofs share, over any program: a law's row out of its walk; arguments of plain kinds opened into their cells; Layer 17 (files): what a disk is, in plain words; Layer 17 (files), in plain words: what is left of a disk that fails; what is seen of a disk; Layer 17's reference (files), in plain words: rows, marks, names and safe ones in lists; how it goes with the program's disk; What the reference's List tells, in plain words: the least name above the last one, again and again -/
import Derived.WalkKit
import Derived.ProofKit
import Derived.OpenShut
import Derived.Deep.DeepHandedRow
import Derived.Deep.Slices
import Derived.Lib.LaidTab
import Derived.Lib.Hide
import Derived.Laws.StructEq
namespace Go.Proofs.YtidhlbhfhfonoaaGreatDoor
open Go.ChangeShapes Go.WideShapes Go.ChangeAt Go.RowKit Go.Deep
theorem pa (l : List Value) (i : Nat) (v : Value) : l.toArray.setIfInBounds i v = (l.set i v).toArray := by simp
theorem pb (a b : Value) (l : List Value) : (a :: l).set 0 b = b :: l := rfl
theorem pc (a b : Value) (l : List Value) (i : Nat) : (a :: l).set (i + 1) b = a :: l.set i b := rfl

/-! ### A law's row out of its walk -/
section
variable {H : Type} {enc : TypeId × Value → H} {P : Program}

theorem trodAll_later (hl : laidOutB P = true) {W W' : World} {B : Nat} (hb : Below B W W') {sp : Nat → Bool} :
    ∀ {ts : List TypeId} {vs : List Value} {ds : List (DataW H)} {ps : List MemPlace}, (∀ t ∈ ts, P.readableRec t = true ∧ t < P.types.size) →
      DataW.TrodAll enc P W 0 (fun _ => true) true ts vs ds ps → (∀ x ∈ ps, x.block < B) → (∀ x ∈ ps, sp x.block = true) → DataW.TrodAll enc P W' 0 sp true ts vs ds ps
  | [], _, _, _, _, h, _, _ => by
    obtain ⟨rfl, rfl, rfl⟩ := trodAll_nil h
    exact trodAll_mk0
  | t :: ts, _, _, _, hr, h, hlt, hsp => by
    obtain ⟨v, vs, d, ds, a, b, rfl, rfl, rfl, h1, h2⟩ := trodAll_cons h
    refine ⟨a, b, ?_, trodAll_later hl hb (fun t ht => hr t (List.mem_cons_of_mem _ ht)) h2 (fun x hx => hlt x (List.mem_append_right _ hx)) (fun x hx => hsp x (List.mem_append_right _ hx)), rfl⟩
    have h0 := hr t (List.mem_cons_self ..)
    refine WideElems.Trod_stays hl h0.1 h0.2 h1 (fun x hx => ?_) (fun x hx => hsp x (List.mem_append_left _ hx))
    have hx' := hlt x (List.mem_append_left _ hx)
    cases x with
    | cell b o => exact World.cell?_of_block (w := W) (hb.block b hx')
    | map b => exact hb.block b hx'

/-- The law's post: it returns true, and of what was there nothing has turned. -/
theorem law_post {f : Func} {s : ChangeSpec} {k : FuncId} {args : Array Value} {W : World} {ds gs : List (DataW H)} {before : List MemPlace} {tb : TypeId}
    (hl : laidOutB P = true) (hread : ∀ t ∈ f.params.toList, P.readableRec t = true ∧ t < P.types.size) (hvars : s.vars = []) (hres : f.resultTypes = #[tb]) (htb : P.underlying tb = some .bool)
    (hs : ∀ ds : List (DataW H), ds.length = f.params.toList.length → s.fn H (ds ++ []) = { results := [.lit (.bool true)], args := ds })
    (hW : DataW.Whole enc P f.params.toList s.vars false W args.toList ds gs before)
    (h : Calls P k args W fun e w' => e = .returned (.bool true) ∧ Below W.heap.size W w') :
    Calls P k args W fun e W' => ∃ v, e = .returned v ∧ s.post enc P f false true false false W args v W' := by
  refine h.mono fun e W' ⟨he, hb⟩ => ?_
  subst he
  have hlt := hW.lt
  have hW' := hW
  obtain ⟨p, q, hA, hV, rfl, hfz, hnd⟩ := hW'
  rw [hvars] at hV
  obtain ⟨rfl, rfl⟩ := trodVars_none hV
  have hlen : ds.length = f.params.toList.length := by
    clear hs hlt hW hfz hnd
    generalize f.params.toList = ts at hA
    generalize args.toList = vs at hA
    clear hread
    induction ts generalizing vs ds p with
    | nil => obtain ⟨rfl, rfl, rfl⟩ := trodAll_nil hA; rfl
    | cons t ts ih =>
      obtain ⟨v, vs, d, ds, a, b, rfl, rfl, rfl, h1, h2⟩ := trodAll_cons hA
      simp [ih _ _ h2]
  refine ⟨_, rfl, ds, [], _, [], p, [], hW, ?_, ?_, ?_, hb.frame _, fun h => by cases h⟩
  · rw [hs ds hlen, hres]
    exact trodAll_cons_mk (shut_bool htb _) trodAll_mk0
  · rw [hs ds hlen]
    simp only [List.append_nil] at hlt
    exact trodAll_later hl hb hread hA (fun x hx => hlt x hx) (fun x hx => by simpa using hlt x hx)
  · rw [hs ds hlen, hvars]
    exact rfl
end

/-! ### Values without references: all cells are integers -/
section
variable {H : Type} {enc : TypeId × Value → H} {P : Program} {w : World} {base : Nat} {spare : Nat → Bool} {held : Bool}

end

/-! ### Slices of integers -/
/-- The slice value v reads as the list l in the world w. -/
def IntsAt (w : World) (k : IntKind) (v : Value) (l : List Int) : Prop :=
  ∃ (ao : Option Addr) (cap : Nat), v = .slice ao l.length cap ∧ l.length ≤ cap ∧ cap ≤ maxLen ∧ (ao = Option.none → cap = 0) ∧
    (∀ x ∈ l, (Lit.int k x).wf = true) ∧ ∀ i (h : i < l.length), ∃ b o, ao = some ⟨b, o, none⟩ ∧ w.cell? ⟨b, o + i, none⟩ = some (.int k l[i])

theorem spot_of_cell {w : World} {a : Addr} {v : Value} (h : w.cell? a = some v) : a.spot = Option.none := by
  unfold World.cell? at h
  split at h
  · rename_i c e f hb
    cases hs : a.spot with
    | none => rfl
    | some x => rw [hs] at h; simp at h
  · cases h

section
variable {H : Type} {enc : TypeId × Value → H} {P : Program} {w : World}
end

/-! ### Arrays of integers, compared -/
end Go.Proofs.YtidhlbhfhfonoaaGreatDoor
namespace Go.Proofs.YtidhlbhfhfonoaaGreatDoor

/-- A row of bytes, and the mark in it. -/
structure Rw where
  l : List Nat
  m : Nat
/-- A place: a name, and its file's number. -/
structure Pl where
  name : ByteArray
  file : Option Nat
/-- A disk. -/
structure Dm where
  size : Nat
  now : List Pl
  safe : List Pl
  rows : List Rw

abbrev noName : ByteArray := ⟨#[]⟩
abbrev free : Pl := ⟨noName, none⟩
/-- Which names may be. -/
def mayB : List UInt8 := [97, 98, 99, 100, 101, 102, 103, 104, 105, 106, 107, 108, 109, 110, 111, 112, 113, 114, 115, 116, 117, 118, 119, 120, 121, 122, 48, 49, 50, 51, 52, 53, 54, 55, 56, 57, 45, 46]
def nameOk (s : ByteArray) : Bool := decide (s.size ≠ 0) && decide (s.size ≤ 16) && s.data.toList.all (fun b => mayB.contains b)
/-- Where a name stands. -/
def find (t : List Pl) (s : ByteArray) : Option Nat := t.findIdx? (fun p => decide (p.name = s))
theorem find_some {t : List Pl} {s : ByteArray} {i : Nat} (h : find t s = some i) : ∃ p, t[i]? = some p ∧ p.name = s ∧ i < t.length := by
  unfold find at h
  rw [List.findIdx?_eq_some_iff_getElem] at h
  obtain ⟨h1, h2, _⟩ := h
  exact ⟨t[i], List.getElem?_eq_getElem h1, by simpa using h2, h1⟩
theorem find_of {t : List Pl} {s : ByteArray} {i : Nat} (h : i < t.length) (h1 : t[i].name = s) (h2 : ∀ j (hj : j < i), t[j].name ≠ s) : find t s = some i := by
  unfold find
  rw [List.findIdx?_eq_some_iff_getElem]
  exact ⟨h, by simpa using h1, fun j hj => by simpa using h2 j hj⟩
theorem find_none_of {t : List Pl} {s : ByteArray} (h2 : ∀ j (hj : j < t.length), t[j].name ≠ s) : find t s = none := by
  unfold find
  rw [List.findIdx?_eq_none_iff]
  intro p hp
  obtain ⟨j, hj, rfl⟩ := List.mem_iff_getElem.1 hp
  simpa using h2 j hj
/-- Where a name stands, or -1. -/
def spot (t : List Pl) (s : ByteArray) : Int := match find t s with
  | some i => i
  | none => -1
/-- The bytes of all files. -/
def rowOf (M : Dm) (p : Pl) : Rw := match p.file with
  | some k => M.rows.getD k ⟨[], 0⟩
  | none => ⟨[], 0⟩
def used (M : Dm) (t : List Pl) : Nat := (t.map fun p => (rowOf M p).l.length).sum
def Dm.left (M : Dm) : Nat := M.size - used M M.now

def Dm.create (M : Dm) (s : ByteArray) : Dm × Nat :=
  if nameOk s then match find M.now s with
    | some _ => (M, 8)
    | none => match find M.now noName with
      | none => (M, 6)
      | some i => ({ M with now := M.now.set i ⟨s, some M.rows.length⟩, rows := M.rows ++ [⟨[], 0⟩] }, 0)
  else (M, 1)
/-- What is done at a name that is there. -/
def Dm.at (M : Dm) (s : ByteArray) (f : Nat → Dm × Nat) : Dm × Nat :=
  if nameOk s then match find M.now s with
    | none => (M, 7)
    | some i => f i
  else (M, 1)
def Dm.remove (M : Dm) (s : ByteArray) : Dm × Nat := M.at s fun i => ({ M with now := M.now.set i free }, 0)
def Dm.file (M : Dm) (i : Nat) : Nat := ((M.now.getD i free).file).getD 0
def Dm.row (M : Dm) (i : Nat) : Rw := M.rows.getD (M.file i) ⟨[], 0⟩
def Dm.append (M : Dm) (s : ByteArray) (b : List Nat) : Dm × Nat := M.at s fun i =>
  if b.length ≤ M.left ∧ (M.row i).l.length + b.length ≤ 1048576 then ({ M with rows := M.rows.set (M.file i) ⟨(M.row i).l ++ b, (M.row i).m⟩ }, 0) else (M, 6)
def Dm.sync (M : Dm) (s : ByteArray) : Dm × Nat := M.at s fun i => ({ M with rows := M.rows.set (M.file i) ⟨(M.row i).l, (M.row i).l.length⟩ }, 0)
def Dm.names (M : Dm) : Dm := { M with safe := M.now }
def new0 (n : Nat) : Dm := ⟨n, List.replicate 64 free, List.replicate 64 free, []⟩

theorem nameOk_ne {s : ByteArray} (h : nameOk s = true) : s ≠ noName := by
  rintro rfl
  revert h
  decide
/-- No two places have one name. -/
def dist (t : List Pl) : Prop := ∀ (i j : Nat) (p q : Pl), t[i]? = some p → t[j]? = some q → p.name = q.name → p.name ≠ noName → i = j
/-- A table that is one, of n rows. -/
structure okT (n : Nat) (t : List Pl) : Prop where
  len : t.length = 64
  file : ∀ (i : Nat) (p : Pl), t[i]? = some p → (p.name = noName ↔ p.file = none) ∧ ∀ k, p.file = some k → k < n
  one : dist t
  may : ∀ (i : Nat) (p : Pl), t[i]? = some p → p.name ≠ noName → nameOk p.name = true
theorem okT.mono {n m : Nat} {t : List Pl} (h : okT n t) (hm : n ≤ m) : okT m t := ⟨h.len, fun i p hp => ⟨(h.file i p hp).1, fun k hk => Nat.lt_of_lt_of_le ((h.file i p hp).2 k hk) hm⟩, h.one, h.may⟩
theorem set_get {t : List Pl} {i j : Nat} {p q : Pl} (h : (t.set i p)[j]? = some q) : (i = j ∧ i < t.length ∧ q = p) ∨ (i ≠ j ∧ t[j]? = some q) := by
  by_cases hij : i = j
  · subst hij
    rw [List.getElem?_set] at h
    rw [if_pos rfl] at h
    split at h
    · cases h; exact .inl ⟨rfl, ‹_›, rfl⟩
    · cases h
  · rw [List.getElem?_set_ne hij] at h
    exact .inr ⟨hij, h⟩
theorem okT.set {n : Nat} {t : List Pl} (h : okT n t) {i : Nat} {p : Pl} (h1 : p.name = noName ↔ p.file = none) (h2 : ∀ k, p.file = some k → k < n) (h3 : p.name ≠ noName → ∀ (j : Nat) (q : Pl), j ≠ i → t[j]? = some q → q.name ≠ p.name) (h4 : p.name ≠ noName → nameOk p.name = true) : okT n (t.set i p) := by
  refine ⟨by rw [List.length_set, h.len], fun j q hq => ?_, fun a b q r hq hr he hne => ?_, fun j q hq hne => ?_⟩
  · rcases set_get hq with ⟨rfl, _, rfl⟩ | ⟨_, hq⟩
    · exact ⟨h1, h2⟩
    · exact h.file j q hq
  · rcases set_get hq with ⟨e1, _, e2⟩ | ⟨hia, hq'⟩
    · rcases set_get hr with ⟨e3, _, e4⟩ | ⟨hib, hr'⟩
      · omega
      · rw [e2] at he hne
        exact absurd he.symm (h3 hne b r (fun e => hib e.symm) hr')
    · rcases set_get hr with ⟨e3, _, e4⟩ | ⟨hib, hr'⟩
      · rw [e4] at he
        exact absurd he (h3 (by rw [← he]; exact hne) a q (fun e => hia e.symm) hq')
      · exact h.one a b q r hq' hr' he hne
  · rcases set_get hq with ⟨_, _, e2⟩ | ⟨_, hq'⟩
    · rw [e2] at hne ⊢
      exact h4 hne
    · exact h.may j q hq' hne
theorem okT.gone {n : Nat} {t : List Pl} (h : okT n t) (i : Nat) : okT n (t.set i free) := h.set (by simp) (by simp) (fun hn => absurd rfl hn) (fun hn => absurd rfl hn)
theorem okT.free0 (n : Nat) : okT n (List.replicate 64 free) :=
  have h : ∀ (i : Nat) (p : Pl), (List.replicate 64 free)[i]? = some p → p = free := fun i p hp => by
    rw [List.getElem?_replicate] at hp
    split at hp
    · exact (Option.some.inj hp).symm
    · cases hp
  ⟨rfl, fun i p hp => by rw [h i p hp]; simp, fun i j p q hp _ _ hne => by rw [h i p hp] at hne; exact absurd rfl hne, fun i p hp hne => by rw [h i p hp] at hne; exact absurd rfl hne⟩
theorem find_get {t : List Pl} {s : ByteArray} {i : Nat} (h : find t s = some i) : ∃ f, t[i]? = some ⟨s, f⟩ ∧ i < t.length := by
  obtain ⟨p, h1, rfl, h3⟩ := find_some h
  exact ⟨p.file, h1, h3⟩
theorem find_none {t : List Pl} {s : ByteArray} (h : find t s = none) : ∀ (j : Nat) (q : Pl), t[j]? = some q → q.name ≠ s := fun j q hq e => by
  unfold find at h
  rw [List.findIdx?_eq_none_iff] at h
  have := h q (List.mem_of_getElem? hq)
  simp [e] at this
/-- A disk that is one. -/
structure Dm.ok (M : Dm) : Prop where
  size : 1 ≤ M.size ∧ M.size ≤ 8388608
  now : okT M.rows.length M.now
  safe : okT M.rows.length M.safe
  rl : ∀ (k : Nat) (r : Rw), M.rows[k]? = some r → r.l.length ≤ 1048576 ∧ r.m ≤ r.l.length ∧ ∀ b ∈ r.l, b < 256
theorem Dm.ok.nl {M : Dm} (h : M.ok) : M.now.length = 64 := h.now.len
theorem Dm.ok.sl {M : Dm} (h : M.ok) : M.safe.length = 64 := h.safe.len
theorem Dm.ok.found {M : Dm} (h : M.ok) {s : ByteArray} {i : Nat} (hs : nameOk s = true) (hf : find M.now s = some i) : ∃ k r, M.now[i]? = some ⟨s, some k⟩ ∧ M.rows[k]? = some r ∧ i < 64 ∧ M.file i = k ∧ M.row i = r := by
  obtain ⟨f, h1, h2⟩ := find_get hf
  obtain ⟨h3, h4⟩ := h.now.file i _ h1
  cases f with
  | none => exact absurd (h3.2 rfl) (nameOk_ne hs)
  | some k =>
    have hk := h4 k rfl
    refine ⟨k, M.rows[k], h1, List.getElem?_eq_getElem hk, by have := h.nl; omega, ?_, ?_⟩
    · simp [Dm.file, List.getD, h1]
    · simp [Dm.row, Dm.file, List.getD, h1, hk]
theorem Dm.ok.create {M : Dm} (h : M.ok) {s : ByteArray} (hs : nameOk s = true) (hf : find M.now s = none) (i : Nat) : Dm.ok { M with now := M.now.set i ⟨s, some M.rows.length⟩, rows := M.rows ++ [⟨[], 0⟩] } := by
  have hl : (M.rows ++ [(⟨[], 0⟩ : Rw)]).length = M.rows.length + 1 := by simp
  refine ⟨h.size, ?_, ?_, fun k r hr => ?_⟩
  · show okT (M.rows ++ [(⟨[], 0⟩ : Rw)]).length _
    rw [hl]
    exact (h.now.mono (Nat.le_succ _)).set ⟨fun e => absurd e (nameOk_ne hs), fun e => by cases e⟩ (fun k hk => by cases hk; omega) (fun _ j q _ hq => find_none hf j q hq) (fun _ => hs)
  · show okT (M.rows ++ [(⟨[], 0⟩ : Rw)]).length _
    rw [hl]
    exact h.safe.mono (Nat.le_succ _)
  · rcases Nat.lt_or_ge k M.rows.length with hk | hk
    · rw [List.getElem?_append_left hk] at hr
      exact h.rl k r hr
    · rw [List.getElem?_append_right hk] at hr
      have := List.getElem?_eq_some_iff.1 hr
      obtain ⟨h1, rfl⟩ := this
      have h0 : k - M.rows.length = 0 := by simpa using h1
      simp [h0]
theorem Dm.ok.remove {M : Dm} (h : M.ok) (i : Nat) : Dm.ok { M with now := M.now.set i free } := ⟨h.size, h.now.gone i, h.safe, h.rl⟩
theorem Dm.ok.setRow {M : Dm} (h : M.ok) {k : Nat} {r : Rw} (h1 : r.l.length ≤ 1048576) (h2 : r.m ≤ r.l.length) (h3 : ∀ b ∈ r.l, b < 256) : Dm.ok { M with rows := M.rows.set k r } := by
  refine ⟨h.size, ?_, ?_, fun j q hq => ?_⟩
  · show okT (M.rows.set k r).length _
    rw [List.length_set]; exact h.now
  · show okT (M.rows.set k r).length _
    rw [List.length_set]; exact h.safe
  · rw [List.getElem?_set] at hq
    split at hq
    · split at hq
      · cases hq; exact ⟨h1, h2, h3⟩
      · cases hq
    · exact h.rl j q hq
theorem Dm.ok.names {M : Dm} (h : M.ok) : M.names.ok := ⟨h.size, h.now, h.now, h.rl⟩
theorem new0_ok {n : Nat} (h1 : 1 ≤ n) (h2 : n ≤ 8388608) : (new0 n).ok := ⟨⟨h1, h2⟩, okT.free0 _, okT.free0 _, fun k r hr => by simp [new0] at hr⟩
end Go.Proofs.YtidhlbhfhfonoaaGreatDoor
namespace Go.Proofs.YtidhlbhfhfonoaaGreatDoor

abbrev noRow : Rw := ⟨[], 0⟩
def failRow (keep : Nat) (r : Rw) : Rw := ⟨r.l.take (r.m + min keep (r.l.length - r.m)), r.m + min keep (r.l.length - r.m)⟩
/-- One place more of the disk that is left. -/
def failStep (M : Dm) (keep : Nat) (x : List Pl × List Rw) (p : Pl) : List Pl × List Rw := match p.file with
  | none => (x.1 ++ [p], x.2)
  | some k => (x.1 ++ [⟨p.name, some x.2.length⟩], x.2 ++ [failRow keep (M.rows.getD k noRow)])
def failT (M : Dm) (keep : Nat) (t : List Pl) : List Pl × List Rw := t.foldl (failStep M keep) ([], [])
theorem failT_snoc (M : Dm) (keep : Nat) (t : List Pl) (p : Pl) : failT M keep (t ++ [p]) = failStep M keep (failT M keep t) p := by simp [failT]
theorem failT_take {M : Dm} {keep : Nat} {t : List Pl} {i : Nat} {p : Pl} (h : t[i]? = some p) : failT M keep (t.take (i + 1)) = failStep M keep (failT M keep (t.take i)) p := by
  rw [List.take_add_one, h]
  exact failT_snoc M keep _ p
/-- What a table shows: names, and what their files hold. -/
def view (rows : List Rw) (t : List Pl) : List (ByteArray × Option Rw) := t.map fun p => (p.name, p.file.map fun k => rows.getD k noRow)
theorem view_append (rows : List Rw) (t u : List Pl) : view rows (t ++ u) = view rows t ++ view rows u := by simp [view]
def failView (keep : Nat) (v : List (ByteArray × Option Rw)) : List (ByteArray × Option Rw) := v.map fun x => (x.1, x.2.map (failRow keep))
structure FailOk (M : Dm) (keep : Nat) (t : List Pl) (x : List Pl × List Rw) : Prop where
  names : x.1.map Pl.name = t.map Pl.name
  file : ∀ p ∈ x.1, (p.name = noName ↔ p.file = none) ∧ ∀ k, p.file = some k → k < x.2.length
  view : view x.2 x.1 = failView keep (view M.rows t)
  rows : ∀ (k : Nat) (r : Rw), x.2[k]? = some r → r.l.length ≤ 1048576 ∧ r.m ≤ r.l.length ∧ ∀ b ∈ r.l, b < 256
theorem failRow_ok {r : Rw} (keep : Nat) (h : r.l.length ≤ 1048576 ∧ r.m ≤ r.l.length ∧ ∀ b ∈ r.l, b < 256) : (failRow keep r).l.length ≤ 1048576 ∧ (failRow keep r).m ≤ (failRow keep r).l.length ∧ (∀ b ∈ (failRow keep r).l, b < 256) ∧ (failRow keep r).l.length = (failRow keep r).m := by
  obtain ⟨h1, h2, h3⟩ := h
  have h4 : (r.l.take (r.m + min keep (r.l.length - r.m))).length = r.m + min keep (r.l.length - r.m) := by rw [List.length_take]; omega
  refine ⟨?_, ?_, fun b hb => h3 b (List.take_subset _ _ hb), h4⟩
  · show (r.l.take _).length ≤ _
    rw [List.length_take]
    omega
  · show _ ≤ (r.l.take _).length
    rw [h4]
    exact Nat.le_refl _
theorem view_grow {rows : List Rw} (r : Rw) {t : List Pl} (h : ∀ p ∈ t, ∀ k, p.file = some k → k < rows.length) : view (rows ++ [r]) t = view rows t := by
  unfold view
  refine List.map_congr_left fun p hp => ?_
  congr 1
  cases hf : p.file with
  | none => rfl
  | some k =>
    have := h p hp k hf
    simp only [Option.map_some, List.getD_eq_getElem?_getD]
    rw [List.getElem?_append_left this]
theorem failT_ok {M : Dm} (h : M.ok) (keep : Nat) (t : List Pl) (ht : ∀ p ∈ t, (p.name = noName ↔ p.file = none) ∧ ∀ k, p.file = some k → k < M.rows.length) : FailOk M keep t (failT M keep t) := by
  suffices H : ∀ (n : Nat) (t : List Pl), t.length = n → (∀ p ∈ t, (p.name = noName ↔ p.file = none) ∧ ∀ k, p.file = some k → k < M.rows.length) → FailOk M keep t (failT M keep t) from H _ t rfl ht
  clear ht t
  intro n
  induction n with
  | zero =>
    intro t hl _
    have : t = [] := List.length_eq_zero_iff.1 hl
    subst this
    exact ⟨rfl, fun p hp => by simp [failT] at hp, rfl, fun k r hr => by simp [failT] at hr⟩
  | succ n ih =>
    intro t hl ht
    obtain ⟨u, p, rfl⟩ : ∃ u p, t = u ++ [p] := by
      have hne : t ≠ [] := by rintro rfl; simp at hl
      exact ⟨t.dropLast, t.getLast hne, (List.dropLast_concat_getLast hne).symm⟩
    have hu := ih u (by simpa using hl) fun q hq => ht q (List.mem_append_left _ hq)
    have hp := ht p (List.mem_append_right _ (List.mem_singleton.2 rfl))
    rw [failT_snoc]
    obtain ⟨h1, h2, h3, h4⟩ := hu
    unfold failStep
    cases hf : p.file with
    | none =>
      refine ⟨by simp [h1], fun q hq => ?_, ?_, h4⟩
      · rcases List.mem_append.1 hq with hq | hq
        · exact h2 q hq
        · rw [List.mem_singleton.1 hq]
          exact ⟨hp.1, fun k hk => by rw [hf] at hk; cases hk⟩
      · simp only [view_append, h3, failView, List.map_append]
        simp [view, hf]
    | some k =>
      have hk := hp.2 k hf
      have hr := List.getElem?_eq_getElem hk
      have hg : M.rows.getD k noRow = M.rows[k] := by rw [List.getD_eq_getElem?_getD, hr]; rfl
      have hro := failRow_ok keep (h.rl k _ hr)
      refine ⟨by simp [h1], fun q hq => ?_, ?_, fun j r hj => ?_⟩
      · rcases List.mem_append.1 hq with hq | hq
        · exact ⟨(h2 q hq).1, fun j hj => by have := (h2 q hq).2 j hj; simp; omega⟩
        · rw [List.mem_singleton.1 hq]
          refine ⟨⟨fun e => ?_, fun e => by cases e⟩, fun j hj => by cases hj; simp⟩
          have := hp.1.1 e
          rw [hf] at this
          cases this
      · simp only [view_append, failView, List.map_append]
        rw [view_grow _ fun q hq j hj => (h2 q hq).2 j hj, h3]
        simp [failView, view, hf, List.getD_eq_getElem?_getD]
      · rcases Nat.lt_or_ge j (failT M keep u).2.length with hjl | hjl
        · rw [List.getElem?_append_left hjl] at hj
          exact h4 j r hj
        · rw [List.getElem?_append_right hjl] at hj
          obtain ⟨_, hj⟩ := List.getElem?_eq_some_iff.1 hj
          rw [List.getElem_singleton, hg] at hj
          rw [← hj]
          exact ⟨hro.1, hro.2.1, hro.2.2.1⟩
/-- What is left of a disk, its names not safe yet. -/
def Dm.left0 (M : Dm) (keep : Nat) (names : Bool) : Dm :=
  ⟨M.size, (failT M keep (if names then M.now else M.safe)).1, List.replicate 64 free, (failT M keep (if names then M.now else M.safe)).2⟩
def Dm.fail (M : Dm) (keep : Nat) (names : Bool) : Dm := (M.left0 keep names).names
theorem Dm.ok.tab {M : Dm} (h : M.ok) (names : Bool) : okT M.rows.length (if names then M.now else M.safe) := by cases names; exact h.safe; exact h.now
theorem okT.mem {n : Nat} {t : List Pl} (h : okT n t) : ∀ p ∈ t, (p.name = noName ↔ p.file = none) ∧ ∀ k, p.file = some k → k < n := fun p hp => by
  obtain ⟨i, hi⟩ := List.mem_iff_getElem?.1 hp
  exact h.file i p hi
theorem Dm.ok.left0 {M : Dm} (h : M.ok) (keep : Nat) (names : Bool) : (M.left0 keep names).ok := by
  have ht := h.tab names
  have hf := failT_ok h keep _ ht.mem
  refine ⟨h.size, ?_, okT.free0 _, hf.rows⟩
  unfold Dm.left0
  generalize (if names then M.now else M.safe) = t at ht hf ⊢
  have hn : ∀ (i : Nat) (p : Pl), (failT M keep t).1[i]? = some p → ∃ q, t[i]? = some q ∧ q.name = p.name := by
    intro i p hp
    have h1 := congrArg (fun l => l[i]?) hf.names
    simp only [List.getElem?_map, hp, Option.map_some] at h1
    cases hq : t[i]? with
    | none => rw [hq] at h1; cases h1
    | some q => rw [hq] at h1; exact ⟨q, rfl, (Option.some.inj h1).symm⟩
  refine ⟨?_, fun i p hp => hf.file p (List.mem_of_getElem? hp), fun i j p q hp hq he hne => ?_, fun i p hp hne => ?_⟩
  · have := congrArg List.length hf.names
    rw [List.length_map, List.length_map, ht.len] at this
    exact this
  · obtain ⟨p', hp', e1⟩ := hn i p hp
    obtain ⟨q', hq', e2⟩ := hn j q hq
    exact ht.one i j p' q' hp' hq' (by rw [e1, e2, he]) (by rw [e1]; exact hne)
  · obtain ⟨p', hp', e1⟩ := hn i p hp
    rw [← e1] at hne ⊢
    exact ht.may i p' hp' hne
end Go.Proofs.YtidhlbhfhfonoaaGreatDoor
namespace Go.Proofs.YtidhlbhfhfonoaaGreatDoor

/-- The reference's disk. -/
structure Rf where
  size : Nat
  rows : List ByteArray
  marks : List Nat
  now : List (ByteArray × Nat)
  safe : List (ByteArray × Nat)

def num8 (s : ByteArray) : List Nat := s.data.toList.map UInt8.toNat
theorem num8_length (s : ByteArray) : (num8 s).length = s.size := by
  unfold num8
  rw [List.length_map]
  rfl
theorem num8_append (a b : ByteArray) : num8 (a ++ b) = num8 a ++ num8 b := by simp [num8]
def place (l : List (ByteArray × Nat)) (s : ByteArray) : Nat := l.findIdx fun p => decide (p.1 = s)
def Rf.is (R : Rf) (s : ByteArray) : Nat × Nat := if nameOk s then (if place R.now s = R.now.length then (0, 7) else (place R.now s, 0)) else (0, 1)
def Rf.row (R : Rf) (j : Nat) : Nat := (R.now.getD j (noName, 0)).2
def Rf.text (R : Rf) (j : Nat) : ByteArray := R.rows.getD (R.row j) noName
def Rf.create (R : Rf) (s : ByteArray) : Rf × Nat :=
  if (R.is s).2 = 0 then (R, 8) else if (R.is s).2 = 1 then (R, 1) else if R.now.length = 64 then (R, 6)
  else ({ R with now := R.now ++ [(s, R.rows.length)], rows := R.rows ++ [noName], marks := R.marks ++ [0] }, 0)
def Rf.remove (R : Rf) (s : ByteArray) : Rf × Nat := if (R.is s).2 = 0 then ({ R with now := R.now.eraseIdx (R.is s).1 }, 0) else (R, (R.is s).2)
def total (rows : List ByteArray) (l : List (ByteArray × Nat)) : Nat := (l.map fun p => (rows.getD p.2 noName).size).sum
def Rf.left (R : Rf) : Nat := R.size - total R.rows R.now
def Rf.append (R : Rf) (s b : ByteArray) : Rf × Nat :=
  if (R.is s).2 = 0 then (if b.size ≤ R.left ∧ (R.text (R.is s).1).size + b.size ≤ 1048576 then ({ R with rows := R.rows.set (R.row (R.is s).1) (R.text (R.is s).1 ++ b) }, 0) else (R, 6)) else (R, (R.is s).2)
def Rf.readE (R : Rf) (s : ByteArray) (at_ n : Int) : List Nat × Nat :=
  if 0 ≤ at_ ∧ 0 ≤ n then
    if (R.is s).2 = 0 then
      if at_ ≤ (R.text (R.is s).1).size ∧ n ≤ (R.text (R.is s).1).size - at_ then (((num8 (R.text (R.is s).1)).drop at_.toNat).take n.toNat, 0) else ([], 5)
    else ([], (R.is s).2)
  else ([], 1)
def Rf.sizeE (R : Rf) (s : ByteArray) : Nat × Nat := if (R.is s).2 = 0 then ((R.text (R.is s).1).size, 0) else (0, (R.is s).2)
def Rf.sync (R : Rf) (s : ByteArray) : Rf × Nat := if (R.is s).2 = 0 then ({ R with marks := R.marks.set (R.row (R.is s).1) (R.text (R.is s).1).size }, 0) else (R, (R.is s).2)
def Rf.names (R : Rf) : Rf := { R with safe := R.now }
def cut8 (keep : Nat) (s : ByteArray) (m : Nat) : ByteArray := if keep < s.size - m then s.extract 0 (s.size - (s.size - m) + keep) else s
def Rf.cuts (R : Rf) (keep : Nat) (l : List (ByteArray × Nat)) : List ByteArray := l.map fun p => cut8 keep (R.rows.getD p.2 noName) (R.marks.getD p.2 0)
def numbered (l : List (ByteArray × Nat)) : List (ByteArray × Nat) := (l.map Prod.fst).zipIdx
def Rf.fail (R : Rf) (keep : Nat) (names : Bool) : Rf :=
  ⟨R.size, R.cuts keep (if names then R.now else R.safe), (R.cuts keep (if names then R.now else R.safe)).map ByteArray.size, numbered (if names then R.now else R.safe), numbered (if names then R.now else R.safe)⟩
def newR (n : Nat) : Rf := ⟨n, [], [], [], []⟩

/-! ### The table's names, each with its row's number -/
def one8 (f : Nat → Nat) (p : Pl) : List (ByteArray × Nat) := (p.file.map fun k => (p.name, f k)).toList
def prs (f : Nat → Nat) (t : List Pl) : List (ByteArray × Nat) := t.flatMap (one8 f)
theorem one8_mem {f : Nat → Nat} {p : Pl} {x : ByteArray × Nat} : x ∈ one8 f p ↔ ∃ k, p.file = some k ∧ x = (p.name, f k) := by
  unfold one8
  cases p.file with
  | none => simp
  | some k => simp
theorem prs_mem {f : Nat → Nat} {t : List Pl} {x : ByteArray × Nat} : x ∈ prs f t ↔ ∃ p ∈ t, ∃ k, p.file = some k ∧ x = (p.name, f k) := by
  unfold prs
  rw [List.mem_flatMap]
  simp only [one8_mem]
theorem prs_set (f : Nat → Nat) {t : List Pl} {i : Nat} {q : Pl} (h : t[i]? = some q) (p : Pl) : ∃ A B, prs f t = A ++ (one8 f q ++ B) ∧ prs f (t.set i p) = A ++ (one8 f p ++ B) := by
  obtain ⟨hi, hq⟩ := List.getElem?_eq_some_iff.1 h
  refine ⟨prs f (t.take i), prs f (t.drop (i + 1)), ?_, ?_⟩
  · conv => lhs; rw [← List.take_append_drop i t, List.drop_eq_getElem_cons hi, hq]
    simp [prs]
  · rw [List.set_eq_take_append_cons_drop, if_pos hi]
    simp [prs]
/-- A place goes. -/
theorem prs_gone (f : Nat → Nat) {t : List Pl} {i k : Nat} {s : ByteArray} (h : t[i]? = some ⟨s, some k⟩) : (prs f t).Perm ((s, f k) :: prs f (t.set i free)) := by
  obtain ⟨A, B, h1, h2⟩ := prs_set f h free
  rw [h1, h2]
  simp only [one8, Option.map_some, Option.toList_some, Option.map_none, Option.toList_none, List.nil_append, List.cons_append]
  exact List.perm_middle
/-- A free place is taken. -/
theorem prs_come (f : Nat → Nat) {t : List Pl} {i k : Nat} {q : Pl} {s : ByteArray} (h : t[i]? = some q) (hq : q.file = none) : (prs f (t.set i ⟨s, some k⟩)).Perm ((s, f k) :: prs f t) := by
  obtain ⟨A, B, h1, h2⟩ := prs_set f h ⟨s, some k⟩
  rw [h1, h2]
  have e : one8 f q = [] := by unfold one8; rw [hq]; rfl
  rw [e]
  simp only [one8, Option.map_some, Option.toList_some, List.nil_append, List.cons_append]
  exact List.perm_middle
theorem prs_congr {f g : Nat → Nat} {t : List Pl} (h : ∀ p ∈ t, ∀ k, p.file = some k → f k = g k) : prs f t = prs g t := by
  induction t with
  | nil => rfl
  | cons p t ih =>
    have e : ∀ f : Nat → Nat, prs f (p :: t) = one8 f p ++ prs f t := fun f => by simp [prs]
    rw [e, e, ih fun q hq => h q (List.mem_cons_of_mem _ hq)]
    congr 1
    unfold one8
    cases hf : p.file with
    | none => rfl
    | some k => simp [h p (List.mem_cons_self ..) k hf]
theorem prs_names (f : Nat → Nat) (t : List Pl) : (prs f t).map Prod.fst = (t.filter fun p => p.file.isSome).map Pl.name := by
  induction t with
  | nil => rfl
  | cons p t ih =>
    have e : prs f (p :: t) = one8 f p ++ prs f t := by simp [prs]
    rw [e, List.map_append, ih]
    unfold one8
    cases hf : p.file with
    | none => simp [hf]
    | some k => simp [hf]

structure Rel (M : Dm) (R : Rf) (f : Nat → Nat) : Prop where
  size : R.size = M.size
  now : R.now.Perm (prs f M.now)
  safe : R.safe.Perm (prs f M.safe)
  inj : ∀ a b, a < M.rows.length → b < M.rows.length → f a = f b → a = b
  row : ∀ k r, M.rows[k]? = some r → ∃ b, R.rows[f k]? = some b ∧ num8 b = r.l ∧ R.marks[f k]? = some r.m
  ml : R.marks.length = R.rows.length

theorem place_lt {l : List (ByteArray × Nat)} {s : ByteArray} {x : Nat} (h : (s, x) ∈ l) : place l s < l.length ∧ ∃ y, l[place l s]? = some (s, y) := by
  have h1 : place l s < l.length := List.findIdx_lt_length_of_exists ⟨_, h, by simp⟩
  refine ⟨h1, ?_⟩
  have h2 : decide ((l[place l s]).1 = s) = true := List.findIdx_getElem (p := fun p : ByteArray × Nat => decide (p.1 = s)) (w := h1)
  exact ⟨(l[place l s]).2, by rw [List.getElem?_eq_getElem h1]; exact congrArg some (Prod.ext (of_decide_eq_true h2) rfl)⟩
theorem place_none {l : List (ByteArray × Nat)} {s : ByteArray} (h : ∀ x, (s, x) ∉ l) : place l s = l.length := by
  unfold place
  rw [List.findIdx_eq_length]
  rintro ⟨a, x⟩ hx
  simp only [decide_eq_false_iff_not]
  rintro rfl
  exact h x hx
/-- A name in a table stands at one place. -/
theorem prs_one {f : Nat → Nat} {n : Nat} {t : List Pl} (ht : okT n t) {s : ByteArray} {i : Nat} {o : Option Nat} (h : t[i]? = some ⟨s, o⟩) (hs : s ≠ noName) {x : Nat} (hx : (s, x) ∈ prs f t) : ∃ k, o = some k ∧ x = f k := by
  obtain ⟨p, hp, k, hk, e⟩ := prs_mem.1 hx
  obtain ⟨j, hj⟩ := List.mem_iff_getElem?.1 hp
  injection e with e1 e2
  have := ht.one i j _ p h hj e1 hs
  subst this
  rw [h] at hj
  cases hj
  exact ⟨k, hk, e2⟩
section
variable {M : Dm} {R : Rf} {f : Nat → Nat}
theorem Rel.yes (H : Rel M R f) (ok : M.ok) {s : ByteArray} {i : Nat} (hs : nameOk s = true) (hf : find M.now s = some i) :
    ∃ k r j b, M.now[i]? = some ⟨s, some k⟩ ∧ M.rows[k]? = some r ∧ i < 64 ∧ M.file i = k ∧ M.row i = r ∧ R.now[j]? = some (s, f k) ∧ R.is s = (j, 0) ∧ R.row j = f k ∧ R.rows[f k]? = some b ∧ num8 b = r.l ∧ R.marks[f k]? = some r.m ∧ R.text j = b ∧ b.size = r.l.length := by
  obtain ⟨k, r, h1, h2, h3, h4, h5⟩ := ok.found hs hf
  have hm : (s, f k) ∈ R.now := H.now.mem_iff.2 (prs_mem.2 ⟨_, List.mem_of_getElem? h1, k, rfl, rfl⟩)
  obtain ⟨h6, y, h7⟩ := place_lt hm
  obtain ⟨k', e1, e2⟩ := prs_one ok.now h1 (nameOk_ne hs) (H.now.mem_iff.1 (List.mem_of_getElem? h7))
  cases e1
  subst e2
  obtain ⟨b, h8, h9, h10⟩ := H.row k r h2
  have hrow : R.row (place R.now s) = f k := by simp [Rf.row, List.getD, h7]
  refine ⟨k, r, place R.now s, b, h1, h2, h3, h4, h5, h7, ?_, hrow, h8, h9, h10, ?_, by rw [← num8_length, h9]⟩
  · unfold Rf.is
    rw [if_pos hs, if_neg (by omega)]
  · simp [Rf.text, hrow, List.getD, h8]
theorem Rel.no (H : Rel M R f) {s : ByteArray} (hs : nameOk s = true) (hf : find M.now s = none) : place R.now s = R.now.length ∧ R.is s = (0, 7) := by
  have h : place R.now s = R.now.length := place_none fun x hx => by
    obtain ⟨p, hp, k, _, e⟩ := prs_mem.1 (H.now.mem_iff.1 hx)
    injection e with e1 _
    obtain ⟨j, hj⟩ := List.mem_iff_getElem?.1 hp
    exact find_none hf j p hj e1.symm
  exact ⟨h, by unfold Rf.is; rw [if_pos hs, if_pos h]⟩
theorem Rf.is_bad {s : ByteArray} (R : Rf) (hs : ¬ nameOk s = true) : R.is s = (0, 1) := by unfold Rf.is; rw [if_neg hs]
theorem Rel.lt (H : Rel M R f) {k : Nat} (hk : k < M.rows.length) : f k < R.rows.length := by
  obtain ⟨b, h, _⟩ := H.row k _ (List.getElem?_eq_getElem hk)
  exact (List.getElem?_eq_some_iff.1 h).1
theorem Rel.is_err (H : Rel M R f) (ok : M.ok) (s : ByteArray) : (R.is s).2 = (if nameOk s then (match find M.now s with | none => 7 | some _ => 0) else 1) := by
  by_cases hs : nameOk s = true
  · rw [if_pos hs]
    cases hf : find M.now s with
    | none => rw [(H.no hs hf).2]
    | some i => obtain ⟨_, _, j, _, _, _, _, _, _, _, h, _⟩ := H.yes ok hs hf; rw [h]
  · rw [R.is_bad hs, if_neg hs]
theorem prs_length_le (f : Nat → Nat) (t : List Pl) : (prs f t).length ≤ t.length := by
  have := congrArg List.length (prs_names f t)
  rw [List.length_map, List.length_map] at this
  rw [this]
  exact List.length_filter_le ..
theorem prs_full (f : Nat → Nat) {t : List Pl} (h : ∀ p ∈ t, p.file ≠ none) : (prs f t).length = t.length := by
  have := congrArg List.length (prs_names f t)
  rw [List.length_map, List.length_map] at this
  rw [this, List.filter_eq_self.2 fun p hp => by cases hf : p.file with | none => exact absurd hf (h p hp) | some _ => rfl]
theorem prs_lack (f : Nat → Nat) {t : List Pl} {i : Nat} {q : Pl} (h : t[i]? = some q) (hq : q.file = none) : (prs f t).length < t.length := by
  have h1 := (prs_come f (k := 0) (s := noName) h hq).length_eq
  have h2 := prs_length_le f (t.set i ⟨noName, some 0⟩)
  rw [h1, List.length_cons, List.length_set] at h2
  omega
theorem Rel.create (H : Rel M R f) (ok : M.ok) (s : ByteArray) : (R.create s).2 = (M.create s).2 ∧ ∃ g, Rel (M.create s).1 (R.create s).1 g := by
  unfold Rf.create Dm.create
  rw [H.is_err ok s]
  by_cases hs : nameOk s = true
  · simp only [if_pos hs]
    cases hf : find M.now s with
    | some i => exact ⟨rfl, f, H⟩
    | none =>
      rw [if_neg (by decide), if_neg (by decide)]
      cases he : find M.now noName with
      | none =>
        have h64 : R.now.length = 64 := by
          rw [H.now.length_eq, prs_full f fun p hp e => ?_, ok.nl]
          obtain ⟨j, hj⟩ := List.mem_iff_getElem?.1 hp
          exact find_none he j p hj ((ok.now.file j p hj).1.2 e)
        rw [if_pos h64]
        exact ⟨rfl, f, H⟩
      | some i =>
        obtain ⟨o, hi, hlt⟩ := find_get he
        have ho : o = none := (ok.now.file i _ hi).1.1 rfl
        subst ho
        have h64 : R.now.length ≠ 64 := by
          have := prs_lack f hi rfl
          rw [ok.nl] at this
          rw [H.now.length_eq]
          omega
        rw [if_neg h64]
        refine ⟨rfl, fun k => if k = M.rows.length then R.rows.length else f k, ⟨H.size, ?_, ?_, fun a b ha hb e => ?_, fun k r hk => ?_, ?_⟩⟩
        · refine List.Perm.trans ?_ (prs_come _ hi rfl).symm
          refine List.Perm.trans (List.perm_append_singleton _ _) ?_
          simp only [if_pos]
          refine List.Perm.cons _ (H.now.trans (List.Perm.of_eq ?_))
          exact prs_congr fun p hp k hk => by rw [if_neg (fun e => by obtain ⟨j, hj⟩ := List.mem_iff_getElem?.1 hp; have := (ok.now.file j p hj).2 k hk; omega)]
        · refine H.safe.trans (List.Perm.of_eq ?_)
          exact prs_congr fun p hp k hk => by rw [if_neg (fun e => by obtain ⟨j, hj⟩ := List.mem_iff_getElem?.1 hp; have := (ok.safe.file j p hj).2 k hk; omega)]
        · simp only [List.length_append, List.length_cons, List.length_nil] at ha hb
          split at e <;> split at e
          · omega
          · have := H.lt (k := b) (by omega); omega
          · have := H.lt (k := a) (by omega); omega
          · exact H.inj a b (by omega) (by omega) e
        · dsimp only at hk ⊢
          rcases Nat.lt_or_ge k M.rows.length with hl | hl
          · rw [List.getElem?_append_left hl] at hk
            rw [if_neg (by omega)]
            obtain ⟨b, h1, h2, h3⟩ := H.row k r hk
            exact ⟨b, by rw [List.getElem?_append_left (H.lt hl)]; exact h1, h2, by rw [List.getElem?_append_left (by rw [H.ml]; exact H.lt hl)]; exact h3⟩
          · rw [List.getElem?_append_right hl] at hk
            obtain ⟨h0, hk⟩ := List.getElem?_eq_some_iff.1 hk
            have hk0 : k - M.rows.length = 0 := by simpa using h0
            have hkk : k = M.rows.length := by omega
            subst hkk
            simp only [Nat.sub_self, List.getElem_cons_zero] at hk
            subst hk
            rw [if_pos rfl]
            refine ⟨noName, by simp, rfl, ?_⟩
            rw [← H.ml]
            simp
        · simp [H.ml]
  · simp only [if_neg hs]
    exact ⟨rfl, f, H⟩
theorem erase_perm {l m : List (ByteArray × Nat)} {j : Nat} {x : ByteArray × Nat} (h : l[j]? = some x) (hp : l.Perm (x :: m)) : (l.eraseIdx j).Perm m := by
  obtain ⟨hj, e⟩ := List.getElem?_eq_some_iff.1 h
  refine List.Perm.cons_inv (a := x) (List.Perm.trans ?_ hp)
  rw [List.eraseIdx_eq_take_drop_succ]
  conv => rhs; rw [← List.take_append_drop j l, List.drop_eq_getElem_cons hj, e]
  exact List.perm_middle.symm
theorem Rel.remove (H : Rel M R f) (ok : M.ok) (s : ByteArray) : (R.remove s).2 = (M.remove s).2 ∧ ∃ g, Rel (M.remove s).1 (R.remove s).1 g := by
  unfold Rf.remove Dm.remove Dm.at
  by_cases hs : nameOk s = true
  · simp only [if_pos hs]
    cases hf : find M.now s with
    | none => rw [(H.no hs hf).2]; exact ⟨rfl, f, H⟩
    | some i =>
      obtain ⟨k, r, j, b, h1, h2, h3, h4, h5, h6, h7, _⟩ := H.yes ok hs hf
      rw [h7]
      exact ⟨rfl, f, ⟨H.size, erase_perm h6 (H.now.trans (prs_gone f h1)), H.safe, H.inj, H.row, H.ml⟩⟩
  · rw [R.is_bad hs]
    simp only [if_neg hs]
    exact ⟨rfl, f, H⟩
theorem Rel.rowOf (H : Rel M R f) {p : Pl} {k : Nat} (hk : p.file = some k) (hl : k < M.rows.length) : (R.rows.getD (f k) noName).size = (rowOf M p).l.length := by
  obtain ⟨b, h1, h2, _⟩ := H.row k _ (List.getElem?_eq_getElem hl)
  unfold Go.Proofs.YtidhlbhfhfonoaaGreatDoor.rowOf
  rw [hk]
  simp only [List.getD_eq_getElem?_getD, h1, List.getElem?_eq_getElem hl, Option.getD_some]
  rw [← h2, num8_length]
theorem total_prs (H : Rel M R f) : ∀ (t : List Pl), (∀ p ∈ t, ∀ k, p.file = some k → k < M.rows.length) → total R.rows (prs f t) = used M t
  | [], _ => rfl
  | p :: t, h => by
    have ih := total_prs H t fun q hq => h q (List.mem_cons_of_mem _ hq)
    have e : prs f (p :: t) = one8 f p ++ prs f t := by simp [prs]
    unfold total used at ih ⊢
    rw [e, List.map_append, List.sum_append, ih, List.map_cons, List.sum_cons]
    congr 1
    unfold one8
    cases hf : p.file with
    | none => simp [rowOf, hf]
    | some k =>
      have := H.rowOf hf (h p (List.mem_cons_self ..) k hf)
      simpa using this
theorem Rel.total (H : Rel M R f) (ok : M.ok) : total R.rows R.now = used M M.now := by
  rw [← total_prs H M.now fun p hp => (ok.now.mem p hp).2]
  unfold Go.Proofs.YtidhlbhfhfonoaaGreatDoor.total
  exact (H.now.map _).sum_nat
theorem Rel.left (H : Rel M R f) (ok : M.ok) : R.left = M.left := by
  unfold Rf.left Dm.left
  rw [H.size, H.total ok]
theorem Rel.setRow (H : Rel M R f) {k : Nat} {r : Rw} {b : ByteArray} (hk : k < M.rows.length) (hb : num8 b = r.l) (hm : R.marks[f k]? = some r.m) : Rel { M with rows := M.rows.set k r } { R with rows := R.rows.set (f k) b } f := by
  refine ⟨H.size, H.now, H.safe, fun a b ha hb e => H.inj a b (by simpa using ha) (by simpa using hb) e, fun j q hj => ?_, by simp [H.ml]⟩
  dsimp only at hj ⊢
  rcases Nat.decEq k j with hne | rfl
  · rw [List.getElem?_set_ne hne] at hj
    obtain ⟨b', h1, h2, h3⟩ := H.row j q hj
    have hjl := (List.getElem?_eq_some_iff.1 hj).1
    exact ⟨b', by rw [List.getElem?_set_ne fun e => hne (H.inj k j hk hjl e)]; exact h1, h2, h3⟩
  · rw [List.getElem?_set_self hk] at hj
    cases hj
    exact ⟨b, by rw [List.getElem?_set_self (H.lt hk)], hb, hm⟩
theorem Rel.setMark (H : Rel M R f) {k : Nat} {r : Rw} (hk : M.rows[k]? = some r) (m : Nat) : Rel { M with rows := M.rows.set k ⟨r.l, m⟩ } { R with marks := R.marks.set (f k) m } f := by
  have hkl := (List.getElem?_eq_some_iff.1 hk).1
  refine ⟨H.size, H.now, H.safe, fun a b ha hb e => H.inj a b (by simpa using ha) (by simpa using hb) e, fun j q hj => ?_, by simp [H.ml]⟩
  dsimp only at hj ⊢
  rcases Nat.decEq k j with hne | rfl
  · rw [List.getElem?_set_ne hne] at hj
    obtain ⟨b', h1, h2, h3⟩ := H.row j q hj
    have hjl := (List.getElem?_eq_some_iff.1 hj).1
    exact ⟨b', h1, h2, by rw [List.getElem?_set_ne fun e => hne (H.inj k j hkl hjl e)]; exact h3⟩
  · rw [List.getElem?_set_self hkl] at hj
    cases hj
    obtain ⟨b', h1, h2, h3⟩ := H.row k r hk
    exact ⟨b', h1, h2, by rw [List.getElem?_set_self (by rw [H.ml]; exact H.lt hkl)]⟩
theorem Rel.append (H : Rel M R f) (ok : M.ok) (s b : ByteArray) : (R.append s b).2 = (M.append s (num8 b)).2 ∧ ∃ g, Rel (M.append s (num8 b)).1 (R.append s b).1 g := by
  unfold Rf.append Dm.append Dm.at
  by_cases hs : nameOk s = true
  · simp only [if_pos hs]
    cases hf : find M.now s with
    | none => rw [(H.no hs hf).2]; exact ⟨rfl, f, H⟩
    | some i =>
      obtain ⟨k, r, j, t, h1, h2, h3, h4, h5, h6, h7, h8, h9, h10, h11, h12, h13⟩ := H.yes ok hs hf
      rw [h7]
      simp only [if_true]
      rw [H.left ok, h12, h13, h5, num8_length, h8, h4]
      split
      · exact ⟨rfl, f, H.setRow (List.getElem?_eq_some_iff.1 h2).1 (by rw [num8_append, h10]) h11⟩
      · exact ⟨rfl, f, H⟩
  · rw [R.is_bad hs]
    simp only [if_neg hs]
    exact ⟨rfl, f, H⟩
theorem Rel.sync (H : Rel M R f) (ok : M.ok) (s : ByteArray) : (R.sync s).2 = (M.sync s).2 ∧ ∃ g, Rel (M.sync s).1 (R.sync s).1 g := by
  unfold Rf.sync Dm.sync Dm.at
  by_cases hs : nameOk s = true
  · simp only [if_pos hs]
    cases hf : find M.now s with
    | none => rw [(H.no hs hf).2]; exact ⟨rfl, f, H⟩
    | some i =>
      obtain ⟨k, r, j, t, h1, h2, h3, h4, h5, h6, h7, h8, h9, h10, h11, h12, h13⟩ := H.yes ok hs hf
      rw [h7]
      simp only [if_true]
      rw [h12, h13, h5, h8, h4]
      exact ⟨trivial, f, H.setMark h2 _⟩
  · rw [R.is_bad hs]
    simp only [if_neg hs]
    exact ⟨rfl, f, H⟩
theorem Rel.names (H : Rel M R f) : Rel M.names R.names f := ⟨H.size, H.now, H.now, H.inj, H.row, H.ml⟩
theorem new_rel (n : Nat) : Rel (new0 n) (newR n) id := by
  have h : prs id (List.replicate 64 free) = [] := by
    unfold prs
    rw [List.flatMap_eq_nil_iff]
    intro p hp
    rw [List.eq_of_mem_replicate hp]
    rfl
  refine ⟨rfl, ?_, ?_, fun a b ha => by simp [new0] at ha, fun k r hk => by simp [new0] at hk, rfl⟩
  · show List.Perm [] (prs id (List.replicate 64 free)); rw [h]
  · show List.Perm [] (prs id (List.replicate 64 free)); rw [h]
theorem names_nodup : ∀ (t : List Pl), dist t → (∀ p ∈ t, p.file.isSome = true → p.name ≠ noName) → ((t.filter fun p => p.file.isSome).map Pl.name).Nodup
  | [], _, _ => List.nodup_nil
  | p :: t, hd, hn => by
    have ih := names_nodup t (fun i j a b ha hb e ne => by have := hd (i + 1) (j + 1) a b (by simpa using ha) (by simpa using hb) e ne; omega) fun q hq => hn q (List.mem_cons_of_mem _ hq)
    by_cases hp : p.file.isSome = true
    · rw [List.filter_cons_of_pos (p := fun p : Pl => p.file.isSome) hp, List.map_cons, List.nodup_cons]
      refine ⟨fun hm => ?_, ih⟩
      obtain ⟨q, hq, e⟩ := List.mem_map.1 hm
      obtain ⟨j, hj⟩ := List.mem_iff_getElem?.1 (List.mem_filter.1 hq).1
      have := hd (j + 1) 0 q p (by simpa using hj) rfl e (by rw [e]; exact hn p (List.mem_cons_self ..) hp)
      omega
    · rw [List.filter_cons_of_neg (p := fun p : Pl => p.file.isSome) hp]
      exact ih
theorem prs_nodup {n : Nat} {t : List Pl} (ht : okT n t) (f : Nat → Nat) : ((prs f t).map Prod.fst).Nodup := by
  rw [prs_names]
  refine names_nodup t ht.one fun p hp hs e => ?_
  rw [(ht.mem p hp).1.1 e] at hs
  cases hs
theorem prs_id (f : Nat → Nat) (t : List Pl) : prs f t = (prs id t).map fun x => (x.1, f x.2) := by
  induction t with
  | nil => rfl
  | cons p t ih =>
    have e : ∀ f : Nat → Nat, prs f (p :: t) = one8 f p ++ prs f t := fun f => by simp [prs]
    rw [e, e, ih, List.map_append]
    congr 1
    unfold one8
    cases p.file <;> rfl
theorem prs_app (f : Nat → Nat) (t u : List Pl) : prs f (t ++ u) = prs f t ++ prs f u := by simp [prs]
theorem fail_list (M : Dm) (keep : Nat) : ∀ (n : Nat) (t : List Pl), t.length = n → (failT M keep t).2 = (prs id t).map (fun x => failRow keep (M.rows.getD x.2 noRow)) ∧ prs id (failT M keep t).1 = ((prs id t).map Prod.fst).zipIdx := by
  intro n
  induction n with
  | zero =>
    intro t ht
    obtain rfl := List.length_eq_zero_iff.1 ht
    exact ⟨rfl, rfl⟩
  | succ n ih =>
    intro t ht
    obtain ⟨u, p, rfl⟩ : ∃ u p, t = u ++ [p] := by
      have hne : t ≠ [] := by rintro rfl; simp at ht
      exact ⟨t.dropLast, t.getLast hne, (List.dropLast_concat_getLast hne).symm⟩
    obtain ⟨h1, h2⟩ := ih u (by simpa using ht)
    rw [failT_snoc, prs_app]
    have e1 : prs id [p] = one8 id p := by simp [prs]
    rw [e1]
    unfold failStep
    cases hf : p.file with
    | none =>
      have e2 : one8 id p = [] := by unfold one8; rw [hf]; rfl
      dsimp only
      rw [e2, List.append_nil, prs_app, e1, e2, List.append_nil]
      exact ⟨h1, h2⟩
    | some k =>
      have e2 : one8 id p = [(p.name, k)] := by unfold one8; rw [hf]; rfl
      dsimp only
      rw [e2, prs_app, h2, h1]
      refine ⟨by simp, ?_⟩
      simp [prs, one8, List.zipIdx_append]
theorem numbered_eq {l : List (ByteArray × Nat)} (h : (l.map Prod.fst).Nodup) : numbered l = l.map fun y => (y.1, place l y.1) := by
  unfold numbered
  refine List.ext_getElem? fun i => ?_
  rw [List.getElem?_zipIdx, List.getElem?_map, List.getElem?_map]
  cases hi : l[i]? with
  | none => rfl
  | some y =>
    obtain ⟨h1, z, h2⟩ := place_lt (s := y.1) (x := y.2) (List.mem_of_getElem? hi)
    have hil := (List.getElem?_eq_some_iff.1 hi).1
    have : place l y.1 = i := (List.getElem_inj (xs := l.map Prod.fst) (h₀ := by simpa using h1) (h₁ := by simpa using hil) h).1 (by
      rw [List.getElem_map, List.getElem_map, (List.getElem?_eq_some_iff.1 h2).2, (List.getElem?_eq_some_iff.1 hi).2])
    simp [this]
theorem cut8_num {s : ByteArray} {r : Rw} {keep : Nat} (h : num8 s = r.l) (hm : r.m ≤ r.l.length) : num8 (cut8 keep s r.m) = (failRow keep r).l ∧ (cut8 keep s r.m).size = (failRow keep r).m := by
  have hs : s.size = r.l.length := by rw [← h, num8_length]
  have hl : (failRow keep r).l.length = (failRow keep r).m := by
    show (r.l.take _).length = _
    rw [List.length_take]
    show min (r.m + min keep (r.l.length - r.m)) r.l.length = r.m + min keep (r.l.length - r.m)
    omega
  have hn : num8 (cut8 keep s r.m) = (failRow keep r).l := by
    show _ = r.l.take (r.m + min keep (r.l.length - r.m))
    unfold cut8
    split
    · rw [show min keep (r.l.length - r.m) = keep by omega, show s.size - (s.size - r.m) + keep = r.m + keep by omega, ← h]
      unfold num8
      rw [ByteArray.data_extract, Array.toList_extract]
      simp
    · rw [h, List.take_of_length_le (by omega)]
  exact ⟨hn, by rw [← num8_length, hn, hl]⟩
theorem Rel.tab (H : Rel M R f) (names : Bool) : (if names then R.now else R.safe).Perm (prs f (if names then M.now else M.safe)) := by cases names; exact H.safe; exact H.now
theorem Rel.fail (H : Rel M R f) (ok : M.ok) (keep : Nat) (names : Bool) : ∃ g, Rel (M.fail keep names) (R.fail keep names) g := by
  have ht := ok.tab names
  have hp := H.tab names
  have hf : M.fail keep names = ⟨M.size, (failT M keep (if names then M.now else M.safe)).1, (failT M keep (if names then M.now else M.safe)).1, (failT M keep (if names then M.now else M.safe)).2⟩ := rfl
  rw [hf]
  unfold Rf.fail
  generalize (if names then M.now else M.safe) = t at ht hp ⊢
  generalize (if names then R.now else R.safe) = l at hp ⊢
  obtain ⟨h1, h2⟩ := fail_list M keep _ t rfl
  have hN : ((prs f t).map Prod.fst).Nodup := prs_nodup ht f
  have hL : (l.map Prod.fst).Nodup := ((hp.map Prod.fst).nodup_iff).2 hN
  obtain ⟨Q, hQ⟩ : ∃ Q, Q = prs id t := ⟨_, rfl⟩
  have hP : prs f t = Q.map fun x => (x.1, f x.2) := by rw [hQ]; exact prs_id f t
  rw [← hQ] at h1 h2
  have hQn : (Q.map Prod.fst).Nodup := by
    have := hN
    rw [hP, List.map_map] at this
    exact this
  have hat : ∀ (j : Nat) (x : ByteArray × Nat), Q[j]? = some x → place l x.1 < l.length ∧ l[place l x.1]? = some (x.1, f x.2) := fun j x hj => by
    have hm : (x.1, f x.2) ∈ l := hp.mem_iff.2 (by rw [hP]; exact List.mem_map.2 ⟨x, List.mem_of_getElem? hj, rfl⟩)
    obtain ⟨h3, y, h4⟩ := place_lt hm
    refine ⟨h3, ?_⟩
    obtain ⟨a, ha⟩ := List.mem_iff_getElem?.1 hm
    have hal := (List.getElem?_eq_some_iff.1 ha).1
    have : place l x.1 = a := (List.getElem_inj (xs := l.map Prod.fst) (h₀ := by simpa using h3) (h₁ := by simpa using hal) hL).1 (by
      rw [List.getElem_map, List.getElem_map, (List.getElem?_eq_some_iff.1 h4).2, (List.getElem?_eq_some_iff.1 ha).2])
    rw [this]
    exact ha
  have hnow : (numbered l).Perm (prs (fun j => place l (Q.getD j (noName, 0)).1) (failT M keep t).1) := by
    rw [numbered_eq hL, prs_id, h2]
    have e : ((Q.map Prod.fst).zipIdx.map fun x => (x.1, place l (Q.getD x.2 (noName, 0)).1)) = (prs f t).map fun y => (y.1, place l y.1) := by
      rw [hP, List.map_map]
      refine List.ext_getElem? fun i => ?_
      rw [List.getElem?_map, List.getElem?_zipIdx, List.getElem?_map, List.getElem?_map]
      cases hi : Q[i]? with
      | none => rfl
      | some x => simp [List.getD, hi]
    rw [e]
    exact hp.map _
  refine ⟨fun j => place l (Q.getD j (noName, 0)).1, ⟨H.size, hnow, hnow, fun a b ha hb e => ?_, fun k r hk => ?_, by simp⟩⟩
  · dsimp only at ha hb
    rw [h1, List.length_map] at ha hb
    have ea : Q[a]? = some Q[a] := List.getElem?_eq_getElem ha
    have eb : Q[b]? = some Q[b] := List.getElem?_eq_getElem hb
    simp only [List.getD, ea, eb, Option.getD_some] at e
    obtain ⟨_, k1⟩ := hat a _ ea
    obtain ⟨_, k2⟩ := hat b _ eb
    rw [e, k2] at k1
    injection k1 with k1
    injection k1 with k1 _
    exact (List.getElem_inj (xs := Q.map Prod.fst) (h₀ := by simpa using ha) (h₁ := by simpa using hb) hQn).1 (by rw [List.getElem_map, List.getElem_map, k1])
  · dsimp only at hk ⊢
    rw [h1, List.getElem?_map] at hk
    cases hq : Q[k]? with
    | none => rw [hq] at hk; cases hk
    | some x =>
      rw [hq] at hk
      injection hk with hk
      subst hk
      obtain ⟨_, k1⟩ := hat k x hq
      have hxk : x.2 < M.rows.length := by
        have hm : x ∈ prs id t := by rw [← hQ]; exact List.mem_of_getElem? hq
        obtain ⟨p, hpm, j, hj, e⟩ := prs_mem.1 hm
        have := (ht.mem p hpm).2 j hj
        rw [e]
        exact this
      have hr := List.getElem?_eq_getElem hxk
      obtain ⟨b, k2, k3, k4⟩ := H.row x.2 _ hr
      obtain ⟨k5, k6⟩ := cut8_num (keep := keep) k3 (ok.rl x.2 _ hr).2.1
      have eg : M.rows.getD x.2 noRow = M.rows[x.2] := by simp [List.getD, hr]
      simp only [List.getD, hq, Option.getD_some]
      unfold Rf.cuts
      refine ⟨cut8 keep b M.rows[x.2].m, ?_, ?_, ?_⟩
      · rw [List.getElem?_map, k1]
        simp [List.getD, k2, k4]
      · rw [k5, hr]; rfl
      · rw [List.getElem?_map, List.getElem?_map, k1]
        simp only [Option.map_some, List.getD, k2, k4, Option.getD_some]
        rw [k6, hr]; rfl
end
/-- A reference's disk that is one. -/
structure RfOk (R : Rf) : Prop where
  size : 1 ≤ R.size ∧ R.size ≤ 8388608
  nl : R.now.length ≤ 64
  sl : R.safe.length ≤ 64
  now : ∀ p ∈ R.now, nameOk p.1 = true ∧ ∃ b m, R.rows[p.2]? = some b ∧ b.size ≤ 1048576 ∧ R.marks[p.2]? = some m ∧ m ≤ b.size
  safe : ∀ p ∈ R.safe, nameOk p.1 = true ∧ ∃ b m, R.rows[p.2]? = some b ∧ b.size ≤ 1048576 ∧ R.marks[p.2]? = some m ∧ m ≤ b.size
  ml : R.marks.length = R.rows.length
  nd : (R.now.map Prod.fst).Nodup
theorem prs_fine {M : Dm} {R : Rf} {f : Nat → Nat} (H : Rel M R f) (ok : M.ok) {t : List Pl} (ht : okT M.rows.length t) {p : ByteArray × Nat} (hp : p ∈ prs f t) : nameOk p.1 = true ∧ ∃ b m, R.rows[p.2]? = some b ∧ b.size ≤ 1048576 ∧ R.marks[p.2]? = some m ∧ m ≤ b.size := by
  obtain ⟨q, hq, k, hk, rfl⟩ := prs_mem.1 hp
  obtain ⟨i, hi⟩ := List.mem_iff_getElem?.1 hq
  have h1 := ht.mem q hq
  have hn : q.name ≠ noName := fun e => by rw [h1.1.1 e] at hk; cases hk
  have hkl := h1.2 k hk
  obtain ⟨b, h2, h3, h4⟩ := H.row k _ (List.getElem?_eq_getElem hkl)
  have h5 := ok.rl k _ (List.getElem?_eq_getElem hkl)
  have h6 : b.size = M.rows[k].l.length := by rw [← num8_length, h3]
  exact ⟨ht.may i q hi hn, b, _, h2, by omega, h4, by omega⟩
theorem Rel.okR {M : Dm} {R : Rf} {f : Nat → Nat} (H : Rel M R f) (ok : M.ok) : RfOk R :=
  ⟨by rw [H.size]; exact ok.size, by rw [H.now.length_eq, ← ok.nl]; exact prs_length_le f _, by rw [H.safe.length_eq, ← ok.sl]; exact prs_length_le f _,
    fun p hp => prs_fine H ok ok.now (H.now.mem_iff.1 hp), fun p hp => prs_fine H ok ok.safe (H.safe.mem_iff.1 hp), H.ml, ((H.now.map Prod.fst).nodup_iff).2 (prs_nodup ok.now f)⟩
theorem RfOk.no0 {R : Rf} (h : RfOk R) : noName ∉ R.now.map Prod.fst := fun hm => by
  obtain ⟨p, hp, e⟩ := List.mem_map.1 hm
  exact nameOk_ne (h.now p hp).1 e
theorem RfOk.at {R : Rf} (h : RfOk R) {s : ByteArray} (hs : (R.is s).2 = 0) : nameOk s = true ∧ (R.is s).1 < R.now.length ∧ ∃ k b m, R.now[(R.is s).1]? = some (s, k) ∧ R.row (R.is s).1 = k ∧ R.rows[k]? = some b ∧ R.text (R.is s).1 = b ∧ b.size ≤ 1048576 ∧ R.marks[k]? = some m ∧ m ≤ b.size ∧ k < R.rows.length ∧ (R.is s).1 = place R.now s := by
  unfold Rf.is at hs ⊢
  by_cases h1 : nameOk s = true
  · rw [if_pos h1] at hs ⊢
    by_cases h2 : place R.now s = R.now.length
    · rw [if_pos h2] at hs; cases hs
    · rw [if_neg h2]
      have h3 : place R.now s < R.now.length := by
        have : place R.now s ≤ R.now.length := List.findIdx_le_length
        omega
      have h4 : decide ((R.now[place R.now s]).1 = s) = true := List.findIdx_getElem (p := fun p : ByteArray × Nat => decide (p.1 = s)) (w := h3)
      have h5 := List.getElem?_eq_getElem h3
      obtain ⟨_, b, m, h6, h7, h8, h9⟩ := h.now _ (List.mem_of_getElem? h5)
      refine ⟨h1, h3, _, b, m, by rw [h5]; exact congrArg some (Prod.ext (of_decide_eq_true h4) rfl), ?_, h6, ?_, h7, h8, h9, (List.getElem?_eq_some_iff.1 h6).1, rfl⟩
      · simp [Rf.row, List.getD, h5]
      · simp [Rf.text, Rf.row, List.getD, h5, h6]
  · rw [if_neg h1] at hs; cases hs
end Go.Proofs.YtidhlbhfhfonoaaGreatDoor
namespace Go.Proofs.YtidhlbhfhfonoaaGreatDoor
abbrev key8 (s : ByteArray) : List UInt8 := s.data.toList
theorem key8_inj {a b : ByteArray} (h : key8 a = key8 b) : a = b := by
  cases a; cases b
  simpa [key8] using h
def pickB (last : ByteArray) (b s : ByteArray) : ByteArray := if key8 last < key8 s ∧ (b = noName ∨ key8 s < key8 b) then s else b
def leastB (last : ByteArray) (L : List ByteArray) : ByteArray := L.foldl (pickB last) noName
theorem leastB_take {last : ByteArray} {L : List ByteArray} {i : Nat} {s : ByteArray} (h : L[i]? = some s) : leastB last (L.take (i + 1)) = pickB last (leastB last (L.take i)) s := by
  unfold leastB
  rw [List.take_add_one, h, List.foldl_append]
  rfl
theorem least_spec (last : ByteArray) : ∀ (L : List ByteArray) (b : ByteArray), noName ∉ L →
    (L.foldl (pickB last) b = b ∨ (L.foldl (pickB last) b ∈ L ∧ key8 last < key8 (L.foldl (pickB last) b))) ∧ (b ≠ noName → key8 (L.foldl (pickB last) b) ≤ key8 b) ∧
    ∀ s ∈ L, key8 last < key8 s → L.foldl (pickB last) b ≠ noName ∧ key8 (L.foldl (pickB last) b) ≤ key8 s
  | [], b, _ => ⟨.inl rfl, fun _ => List.le_refl _, fun s hs => absurd hs (List.not_mem_nil)⟩
  | s :: L, b, h0 => by
    have hs0 : s ≠ noName := fun e => h0 (by rw [e]; exact List.mem_cons_self ..)
    have hL0 : noName ∉ L := fun e => h0 (List.mem_cons_of_mem _ e)
    obtain ⟨h1, h2, h3⟩ := least_spec last L (pickB last b s) hL0
    have e : (s :: L).foldl (pickB last) b = L.foldl (pickB last) (pickB last b s) := rfl
    rw [e]
    generalize hc : L.foldl (pickB last) (pickB last b s) = c at h1 h2 h3 ⊢
    by_cases hp : key8 last < key8 s ∧ (b = noName ∨ key8 s < key8 b)
    · have hq : pickB last b s = s := by unfold pickB; rw [if_pos hp]
      rw [hq] at h1 h2
      have hc0 : c ≠ noName := by
        rcases h1 with h1 | h1
        · rw [h1]; exact hs0
        · exact fun e => hL0 (by rw [← e]; exact h1.1)
      refine ⟨.inr ?_, fun hb => ?_, fun x hx hl => ?_⟩
      · rcases h1 with h1 | h1
        · rw [h1]; exact ⟨List.mem_cons_self .., hp.1⟩
        · exact ⟨List.mem_cons_of_mem _ h1.1, h1.2⟩
      · exact List.le_trans (h2 hs0) (List.le_of_lt (hp.2.resolve_left hb))
      · rcases List.mem_cons.1 hx with rfl | hx
        · exact ⟨hc0, h2 hs0⟩
        · exact h3 x hx hl
    · have hq : pickB last b s = b := by unfold pickB; rw [if_neg hp]
      rw [hq] at h1 h2
      refine ⟨?_, h2, fun x hx hl => ?_⟩
      · rcases h1 with h1 | h1
        · exact .inl h1
        · exact .inr ⟨List.mem_cons_of_mem _ h1.1, h1.2⟩
      · rcases List.mem_cons.1 hx with rfl | hx
        · have hb : b ≠ noName := fun e => hp ⟨hl, .inl e⟩
          have hn : ¬ key8 x < key8 b := fun e => hp ⟨hl, .inr e⟩
          refine ⟨?_, List.le_trans (h2 hb) (List.not_lt.1 hn)⟩
          rcases h1 with h1 | h1
          · rw [h1]; exact hb
          · exact fun e => hL0 (by rw [← e]; exact h1.1)
        · exact h3 x hx hl
def ordB (L : List ByteArray) : List ByteArray := ((L.map key8).mergeSort fun x y => decide (x ≤ y)).map fun l => ⟨l.toArray⟩
theorem ordB_perm (L : List ByteArray) : (ordB L).Perm L := by
  have h := (List.mergeSort_perm (L.map key8) fun x y => decide (x ≤ y)).map fun l => (⟨l.toArray⟩ : ByteArray)
  rw [List.map_map] at h
  have e : L.map ((fun l => (⟨l.toArray⟩ : ByteArray)) ∘ key8) = L := by
    conv => rhs; rw [← List.map_id L]
    exact List.map_congr_left fun s _ => by cases s; rfl
  rw [e] at h
  exact h
theorem ordB_le (L : List ByteArray) : (ordB L).Pairwise fun x y => key8 x ≤ key8 y := by
  unfold ordB
  rw [List.pairwise_map]
  refine (List.pairwise_mergeSort (le := fun x y : List UInt8 => decide (x ≤ y)) (fun a b c h1 h2 => ?_) (fun a b => ?_) _).imp fun {a b} h => by simpa [key8] using h
  · exact decide_eq_true (List.le_trans (of_decide_eq_true h1) (of_decide_eq_true h2))
  · rcases List.le_total a b with h | h <;> simp [h]
theorem least_next {L : List ByteArray} (hd : L.Nodup) (h0 : noName ∉ L) {k : Nat} {s : ByteArray} (hk : (ordB L)[k]? = some s) : leastB (if k = 0 then noName else (ordB L).getD (k - 1) noName) L = s := by
  have hp := ordB_perm L
  have hle := ordB_le L
  have hdT : (ordB L).Nodup := hp.nodup_iff.2 hd
  obtain ⟨T, hT⟩ : ∃ T, T = ordB L := ⟨_, rfl⟩
  rw [← hT] at hp hle hdT hk ⊢
  obtain ⟨hkl, hs⟩ := List.getElem?_eq_some_iff.1 hk
  have hsL : s ∈ L := hp.mem_iff.1 (List.mem_of_getElem? hk)
  have hs0 : s ≠ noName := fun e => h0 (by rw [← e]; exact hsL)
  have lt_of : ∀ {a b : ByteArray}, key8 a ≤ key8 b → a ≠ b → key8 a < key8 b := fun {a b} h hn => List.not_le.1 fun h' => hn (key8_inj (List.le_antisymm h h'))
  have idx : ∀ i j (hi : i < T.length) (hj : j < T.length), i < j → key8 T[i] < key8 T[j] := fun i j hi hj hij => lt_of (List.pairwise_iff_getElem.1 hle i j hi hj hij) fun e => by
    have := (List.getElem_inj hdT).1 e
    omega
  obtain ⟨last, hl⟩ : ∃ last, last = (if k = 0 then noName else T.getD (k - 1) noName) := ⟨_, rfl⟩
  rw [← hl]
  have hlt : key8 last < key8 s := by
    rw [hl]
    by_cases h : k = 0
    · rw [if_pos h]
      cases hq : key8 s with
      | nil => exact absurd (key8_inj (b := noName) hq) hs0
      | cons x l => exact List.nil_lt_cons x l
    · rw [if_neg h, List.getD_eq_getElem?_getD, List.getElem?_eq_getElem (by omega), Option.getD_some, ← hs]
      exact idx (k - 1) k (by omega) hkl (by omega)
  have hmin : ∀ x ∈ L, key8 last < key8 x → key8 s ≤ key8 x := fun x hx hx' => by
    obtain ⟨j, hj⟩ := List.mem_iff_getElem?.1 (hp.mem_iff.2 hx)
    obtain ⟨hjl, rfl⟩ := List.getElem?_eq_some_iff.1 hj
    rcases Nat.lt_trichotomy j k with h | h | h
    · exfalso
      have hk0 : k ≠ 0 := by omega
      rw [hl, if_neg hk0, List.getD_eq_getElem?_getD, List.getElem?_eq_getElem (by omega), Option.getD_some] at hx'
      by_cases h' : j = k - 1
      · subst h'; exact List.lt_irrefl _ hx'
      · exact List.lt_irrefl _ (List.lt_trans hx' (idx j (k - 1) hjl (by omega) (by omega)))
    · subst h; rw [hs]; exact List.le_refl _
    · rw [← hs]; exact List.le_of_lt (idx k j hkl hjl h)
  obtain ⟨h1, _, h3⟩ := least_spec last L noName h0
  obtain ⟨h4, h5⟩ := h3 s hsL hlt
  have hc := h1.resolve_left h4
  exact key8_inj (List.le_antisymm h5 (hmin _ hc.1 hc.2))
end Go.Proofs.YtidhlbhfhfonoaaGreatDoor
