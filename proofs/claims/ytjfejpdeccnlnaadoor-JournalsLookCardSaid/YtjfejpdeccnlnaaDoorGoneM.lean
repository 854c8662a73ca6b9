/- Layer 17 (files), in plain words: disks with one file. -/
import Derived.Test.YtjfejpdeccnlnaaDoorFm
import Derived.KernelRfl
namespace Go.Proofs.YtjfejpdeccnlnaaDoor

theorem append_ok {M : Dm} {s : ByteArray} {i k : Nat} {r : Rw} {b : List Nat} (hs : nameOk s = true) (hf : find M.now s = some i) (hk : M.file i = k) (hr : M.row i = r) (h1 : b.length ≤ M.left) (h2 : r.l.length + b.length ≤ 1048576) :
    M.append s b = ({ M with rows := M.rows.set k ⟨r.l ++ b, r.m⟩ }, 0) := by
  unfold Dm.append Dm.at
  rw [if_pos hs, hf]
  dsimp only
  rw [hk, hr, if_pos ⟨h1, h2⟩]
theorem sync_ok {M : Dm} {s : ByteArray} {i k : Nat} {r : Rw} (hs : nameOk s = true) (hf : find M.now s = some i) (hk : M.file i = k) (hr : M.row i = r) : M.sync s = ({ M with rows := M.rows.set k ⟨r.l, r.l.length⟩ }, 0) := by
  unfold Dm.sync Dm.at
  rw [if_pos hs, hf]
  dsimp only
  rw [hk, hr]
theorem remove_ok {M : Dm} {s : ByteArray} {i : Nat} (hs : nameOk s = true) (hf : find M.now s = some i) : M.remove s = ({ M with now := M.now.set i free }, 0) := by
  unfold Dm.remove Dm.at
  rw [if_pos hs, hf]
theorem create_ok {M : Dm} {s : ByteArray} {i : Nat} (hs : nameOk s = true) (hf : find M.now s = none) (hn : find M.now noName = some i) : M.create s = ({ M with now := M.now.set i ⟨s, some M.rows.length⟩, rows := M.rows ++ [⟨[], 0⟩] }, 0) := by
  unfold Dm.create
  rw [if_pos hs, hf, hn]
theorem used_free (M : Dm) : ∀ n, used M (List.replicate n free) = 0
  | 0 => rfl
  | n + 1 => by
    have := used_free M n
    simp only [used, List.replicate_succ, List.map_cons, List.sum_cons] at this ⊢
    rw [this]
    rfl
theorem used_cons (M : Dm) (p : Pl) (t : List Pl) : used M (p :: t) = (rowOf M p).l.length + used M t := by simp [used]
/-- A table with one name. -/
def tab1 (s : ByteArray) (k : Nat) : List Pl := ⟨s, some k⟩ :: List.replicate 63 free
def one1 (n : Nat) (s : ByteArray) (k : Nat) (safe : List Pl) (rows : List Rw) : Dm := ⟨n, tab1 s k, safe, rows⟩
theorem find_tab1 {s : ByteArray} {k : Nat} : find (tab1 s k) s = some 0 := by
  unfold find tab1
  rw [List.findIdx?_cons]
  simp
theorem one1_file (n : Nat) (s : ByteArray) (k : Nat) (safe : List Pl) (rows : List Rw) : (one1 n s k safe rows).file 0 = k := rfl
theorem one1_row {n : Nat} {s : ByteArray} {k : Nat} {safe : List Pl} {rows : List Rw} {r : Rw} (h : rows[k]? = some r) : (one1 n s k safe rows).row 0 = r := by
  show rows.getD k _ = r
  rw [List.getD_eq_getElem?_getD, h]
  rfl
theorem one1_left {n : Nat} {s : ByteArray} {k : Nat} {safe : List Pl} {rows : List Rw} {r : Rw} (h : rows[k]? = some r) : (one1 n s k safe rows).left = n - r.l.length := by
  show n - used (one1 n s k safe rows) (tab1 s k) = _
  unfold tab1
  rw [used_cons, used_free]
  have : rowOf (one1 n s k safe rows) ⟨s, some k⟩ = r := by
    show rows.getD k _ = r
    rw [List.getD_eq_getElem?_getD, h]
    rfl
  rw [this, Nat.add_zero]
theorem one1_see {n n' : Nat} {s : ByteArray} {k k' : Nat} {safe safe' : List Pl} {rows rows' : List Rw} {r : Rw} (h : rows[k]? = some r) (h' : rows'[k']? = some r) : (one1 n s k safe rows).see = (one1 n' s k' safe' rows').see := by
  have e : ∀ (n : Nat) (k : Nat) (safe : List Pl) (rows : List Rw), rows[k]? = some r → (one1 n s k safe rows).see = (s, some r) :: List.replicate 63 (noName, none) := by
    intro n k safe rows h
    show view rows (tab1 s k) = _
    unfold view tab1
    rw [List.map_cons, List.map_replicate]
    congr 2
    show some (rows.getD k noRow) = some r
    rw [List.getD_eq_getElem?_getD, h]
    rfl
  rw [e n k safe rows h, e n' k' safe' rows' h']
theorem free_see (rows rows' : List Rw) : view rows (List.replicate 64 free) = view rows' (List.replicate 64 free) := by
  simp [view]
theorem free_find {s : ByteArray} (hs : s ≠ noName) : find (List.replicate 64 free) s = none := find_none_of fun j hj => by
  rw [List.getElem_replicate]
  exact fun e => hs e.symm
theorem free_spot : find (List.replicate 64 free) noName = some 0 := find_of (by simp) (by simp) fun j hj => absurd hj (Nat.not_lt_zero _)
theorem free_set (s : ByteArray) (k : Nat) : (List.replicate 64 free).set 0 ⟨s, some k⟩ = tab1 s k := rfl
theorem tab1_set (s : ByteArray) (k : Nat) : (tab1 s k).set 0 free = List.replicate 64 free := rfl
/-- A file is made on a disk without names. -/
theorem free_create {n : Nat} {s : ByteArray} {safe : List Pl} {rows : List Rw} (hs : nameOk s = true) : (⟨n, List.replicate 64 free, safe, rows⟩ : Dm).create s = (one1 n s rows.length safe (rows ++ [⟨[], 0⟩]), 0) := by
  rw [create_ok (i := 0) hs (free_find (nameOk_ne hs)) free_spot]
  rfl
theorem one1_append {n : Nat} {s : ByteArray} {k : Nat} {safe : List Pl} {rows : List Rw} {r : Rw} {b : List Nat} (hs : nameOk s = true) (h : rows[k]? = some r) (h1 : b.length ≤ n - r.l.length) (h2 : r.l.length + b.length ≤ 1048576) :
    (one1 n s k safe rows).append s b = (one1 n s k safe (rows.set k ⟨r.l ++ b, r.m⟩), 0) := by
  rw [append_ok (i := 0) (k := k) (r := r) hs find_tab1 rfl (one1_row h) (by rw [one1_left h]; exact h1) h2]
  rfl
theorem one1_sync {n : Nat} {s : ByteArray} {k : Nat} {safe : List Pl} {rows : List Rw} {r : Rw} (hs : nameOk s = true) (h : rows[k]? = some r) : (one1 n s k safe rows).sync s = (one1 n s k safe (rows.set k ⟨r.l, r.l.length⟩), 0) := by
  rw [sync_ok (i := 0) (k := k) (r := r) hs find_tab1 rfl (one1_row h)]
  rfl
theorem one1_remove {n : Nat} {s : ByteArray} {k : Nat} {safe : List Pl} {rows : List Rw} (hs : nameOk s = true) : (one1 n s k safe rows).remove s = (⟨n, List.replicate 64 free, safe, rows⟩, 0) := by
  rw [remove_ok (i := 0) hs find_tab1]
  rfl
theorem left_free (n : Nat) (safe : List Pl) (rows : List Rw) : (⟨n, List.replicate 64 free, safe, rows⟩ : Dm).left = n := by
  show n - used _ (List.replicate 64 free) = n
  rw [used_free, Nat.sub_zero]
end Go.Proofs.YtjfejpdeccnlnaaDoor
