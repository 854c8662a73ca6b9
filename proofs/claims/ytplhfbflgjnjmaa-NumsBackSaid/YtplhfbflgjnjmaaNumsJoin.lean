/- Layer 1 (nums): the walk of NumsJoin: it returns true. -/
import Derived.Test.YtplhfbflgjnjmaaNumsOrder
import Derived.Deep.DeepFit
namespace Go.Proofs.Ytplhfbflgjnjmaa
open Go.ChangeShapes Go.WideShapes Go.ChangeAt Go.RowKit

/-- Two slices of bytes in one block. -/
def Box2 (w : World) (b : Nat) (u v : Value) : Prop := w.cell? ⟨b, 0, none⟩ = some u ∧ w.cell? ⟨b, 1, none⟩ = some v
theorem Box2.later {w w' : World} {b n : Nat} {u v : Value} (h : Box2 w b u v) (hn : n = w.heap.size) (hb : Below n w w') : Box2 w' b u v := by
  subst hn
  exact ⟨cell_al h.1 hb, cell_al h.2 hb⟩
theorem Box2.new (w : World) (u v : Value) (t : TypeId) : Box2 (w.alloc (.cells #[u, v] t)) w.heap.size u v := ⟨by simp, by simp⟩
theorem KAt.shapeK {k : IntKind} {w : World} {v : Value} {l : List Nat} (h : KAt k w v l) : ∃ a c, v = .slice a l.length c ∧ l.length ≤ c := by
  obtain ⟨ao, cap, h1, h2, _⟩ := h
  exact ⟨ao, cap, h1, h2⟩
def relB (l : List Nat) (n : Nat) : Rel := ⟨fun x => .slice x.a n x.c, fun x w => KAt .u8 w (.slice x.a n x.c) l, fun _ _ _ hb h => h.later hb⟩
theorem own_rel {w : World} {f : FuncId} {args : Array Value} {l : List Nat} {n : Nat} (hn : l.length = n) (h : Calls Try.prog f args w fun e w' => ∃ v', e = .returned v' ∧ Own w' w.heap.size v' l ∧ Below w.heap.size w w') :
    Calls Try.prog f args w fun e w' => ∃ v, e = .returned v ∧ Below w.heap.size w w' ∧ ∃ x : Lt, v = (relB l n).val x ∧ x.lo = w.heap.size ∧ x.hi = w'.heap.size ∧ (relB l n).post x w' := by
  refine h.mono ?_
  rintro _ w' ⟨v, rfl, ho, hb⟩
  obtain ⟨a, c, rfl⟩ := own_shape (n := n) ho hn
  exact ⟨_, rfl, hb, ⟨a, 0, c, w.heap.size, w'.heap.size⟩, rfl, rfl, rfl, ho.at_⟩
/-- Bytes with their number ahead. -/
def lb (l : List Nat) : List Nat := be 4 l.length ++ l
theorem lb_length (l : List Nat) : (lb l).length = 4 + l.length := by simp [lb, be_length]
theorem lb_bytes {l : List Nat} (h : Bytes l) : Bytes (lb l) := bytes_append (be_bytes _ _) h
theorem num_lb {l m : List Nat} (h : l.length < 4294967296) : num ((lb l ++ m).take 4) = l.length := by
  have e : (lb l ++ m).take 4 = be 4 l.length := by
    rw [lb, List.append_assoc]
    exact List.take_left' (be_length _ _)
  rw [e, num_be, Nat.mod_eq_of_lt h]
theorem drop_lb (l m : List Nat) : ((lb l ++ m).drop 4).take l.length = l := by
  rw [lb, List.append_assoc, List.drop_left' (be_length _ _)]
  exact List.take_left' rfl
theorem two_at (w : World) (x y : Nat) (t : TypeId) : KAt .i64 (w.alloc (.cells #[.int .i64 x, .int .i64 y] t)) (.slice (some ⟨w.heap.size, 0, none⟩) 2 2) [x, y] := by
  refine ⟨_, _, rfl, Nat.le_refl _, by unfold maxLen; simp, (fun h => by cases h), fun _ => ⟨_, _, rfl, fun i z hz => ?_⟩⟩
  match i, hz with
  | 0, hz => simp at hz; subst hz; simp
  | 1, hz => simp at hz; subst hz; simp
theorem putB_rel {b l : List Nat} {v u : Value} (w : World) (r : List Nat) (n : Nat) (hr : b ++ lb l = r) (hn : r.length = n) (hv : KAt .u8 w v b) (hu : KAt .u8 w u l) (hsz : b.length + 8 + l.length ≤ 140737488355328) :
    Calls Try.prog 13 #[v, u] w fun e w' => ∃ v, e = .returned v ∧ Below w.heap.size w w' ∧ ∃ x : Lt, v = (relB r n).val x ∧ x.lo = w.heap.size ∧ x.hi = w'.heap.size ∧ (relB r n).post x w' := by
  subst hr
  exact own_rel hn (PutBytes_any w hv hu hsz)
def joinT : List (List Nat) := [[], [0], [0, 1], [], [3], [0, 1, 2, 3, 4], [0, 1, 2, 3, 4, 5]]
def joinR (l m : List Nat) (nl nm : Nat) (j : Nat) : Option Rel := if j = 2 then some (relB l nl) else if j = 5 then some (relB m nm) else none
theorem joinR_is (l m : List Nat) (nl nm : Nat) (j : Nat) : (joinR l m nl nm j).isSome = (j == 2 || j == 5) := by
  unfold joinR
  by_cases h : j = 2
  · simp [h]
  · by_cases h' : j = 5
    · simp [h']
    · simp [h, h']
/-- A slice against itself. -/
theorem same_self {l : List Nat} {u v : Value} (w : World) (hu : KAt .u8 w u l) (hv : KAt .u8 w v l) :
    Calls Try.prog 10 #[u, v] w fun e w' => e = .returned (.bool true) ∧ ∃ n, w' = w.drewN n := by
  have h := same_any w hu hv
  simpa using h

set_option maxRecDepth 40000 in
set_option maxHeartbeats 2000000 in
theorem numsJoin_small (l0 l1 : List Nat) (n0 n1 N : Nat) (E0 : Hid (l0.length = n0)) (E1 : Hid (l1.length = n1)) (E : Hid ((lb l0 ++ lb l1).length = N)) (e1 : N ≤ 8 + n0 + n1) (e2 : 8 + n0 + n1 ≤ N) (a0 a1 : Option Addr) (c0 c1 : Nat) (cut : Nat) (w : World)
    (H0 : Hid (KAt .u8 w (.slice a0 n0 c0) l0)) (H1 : Hid (KAt .u8 w (.slice a1 n1 c1) l1)) (B0 : Hid (Bytes l0)) (B1 : Hid (Bytes l1)) (hsm : n0 + n1 ≤ 1048576) (hc : cut < 65536)
    (HY : Hid (∀ (w : World) (b : Nat), b = w.heap.size → Calls Try.prog 7 #[.slice (some ⟨b, 0, none⟩) 2 2] (w.alloc (.cells #[.int .i64 n0, .int .i64 n1] 3)) fun e w' => e = .returned (.bool false) ∧ w.alloc (.cells #[.int .i64 n0, .int .i64 n1] 3) = w')) :
    Calls Try.prog 4 #[.agg #[.slice a0 n0 c0, .slice a1 n1 c1], .int .u16 cut] w fun e w' => e = .returned (.bool true) ∧ Below w.heap.size w w' := by
  have HN := Lib.hid (Box2.new w (.slice a0 n0 c0) (.slice a1 n1 c1))
  go_enter Try.func4, Try.ntmps4
  go_wp2_with fail
  refine (alive_any _).mono ?_
  rintro _ w1 ⟨rfl, hb1⟩
  have hbox1 := (HN.out _).later (by simp) hb1
  obtain ⟨p0, p1⟩ := hbox1
  have HB1 := Lib.hid ((((Below.refl w.heap.size w).alloc (Nat.le_refl _) _)).trans (hb1.mono (by simp)))
  clear hb1
  go_wp2_with fail
  refine (HY.out _ _ (by simp)).mono ?_
  rintro _ w2 ⟨rfl, rfl⟩
  go_wp2_with fail
  have H3 : ∃ w3 : World, w3 = w1.alloc (.cells #[.int .i64 n0, .int .i64 n1] 3) := ⟨_, rfl⟩
  obtain ⟨w3, e3⟩ := H3
  have hb3 : Below w.heap.size w w3 := by rw [e3]; exact HB1.out.alloc HB1.out.size _
  have hx3 : Box2 w3 w.heap.size (.slice a0 n0 c0) (.slice a1 n1 c1) := by rw [e3]; exact Box2.later ⟨p0, p1⟩ rfl ((Below.refl _ w1).alloc (Nat.le_refl _) _)
  rw [← e3]
  clear e3 p0 p1 HB1 HN
  have K0 := Lib.hid (H0.out.later hb3)
  have K1 := Lib.hid (H1.out.later hb3)
  have HB3 := Lib.hid hb3
  have HX3 := Lib.hid hx3
  clear hb3 hx3 H0 H1 HY
  refine wp_region_seq 6 (fun j => j == 2 || j == 5) (joinR (lb l0) (lb l0 ++ lb l1) (4 + n0) N) joinT [.seg 2 [], .one [], .seg 2 [], .one [2]] (by kernel_rfl) (by kernel_rfl) (joinR_is _ _ _ _) (fun _ _ _ _ _ h => h) (fun xs => ?_)
  unfold wpS
  intro F hn9 hcl hC
  have bx := fun X9 : Wd F => (HX3.out.later rfl (hC _ X9.fact).1).1
  clear hC
  simp only [List.take_succ_cons, List.take_zero, List.drop_succ_cons, List.drop_zero, Nat.reduceAdd]
  repeat (go_big_quiet_step (fail))
  refine wpQuiet_nil ?_
  clear hcl hn9 bx
  refine wpS_one (v := .slice (xs 2).a (4 + n0) (xs 2).c) 31 rfl rfl rfl rfl (by go_simp) (fun w4 h4 hD => does_call (by go_simp) (putB_rel w4 (lb l0) _ rfl (by rw [lb_length, E0.out]) (KAt.nil _ _) (K0.out.later h4) (by have := E0.out; simp; omega))) (by go_simp; rfl) ?_
  unfold wpS
  intro F hn9 hcl hC
  have bx := fun X9 : Wd F => (HX3.out.later rfl (hC _ X9.fact).1).2
  clear hC
  simp only [List.take_succ_cons, List.take_zero, List.drop_succ_cons, List.drop_zero, Nat.reduceAdd]
  repeat (go_big_quiet_step (fail))
  refine wpQuiet_nil ?_
  clear hcl hn9 bx
  refine wpS_one (v := .slice (xs 5).a N (xs 5).c) 34 rfl rfl rfl rfl (by go_simp) (fun w4 h4 hD => does_call (by go_simp) (putB_rel w4 (lb l0 ++ lb l1) _ rfl E.out (hD 2 (by simp) (relB (lb l0) (4 + n0)) rfl) (K1.out.later h4) (by have := E0.out; have := E1.out; simp [lb_length]; omega))) (by go_simp; rfl) ?_
  unfold wpS
  intro w5 hb5 hall hap
  have hk : KAt .u8 w5 (.slice (xs 5).a N (xs 5).c) (lb l0 ++ lb l1) := hall 5 (by omega) (relB (lb l0 ++ lb l1) N) rfl
  clear hall hap
  generalize (xs 5).a = a5 at hk ⊢
  generalize (xs 5).c = c5 at hk ⊢
  obtain ⟨g, o, rfl, -, hc5, hm5, hcell⟩ := kat_some hk (by rw [E.out]; omega)
  rw [E.out] at hc5
  unfold maxLen at hm5
  have HK := Lib.hid hk
  have HC := Lib.hid hcell
  have HB5 := Lib.hid (below_later HB3.out hb5)
  have HX5 := Lib.hid (HX3.out.later rfl hb5)
  have L0 := Lib.hid (K0.out.later hb5)
  have L1 := Lib.hid (K1.out.later hb5)
  clear hk hcell hb5 HB3 HX3 K0 K1
  have HG := Lib.hid (GetBytes_ok w5 HK.out (bytes_append (lb_bytes B0.out) (lb_bytes B1.out)) n0 (by rw [num_lb (by rw [E0.out]; omega), E0.out]) (by rw [E.out]; omega) (by rw [E.out]; omega))
  go_wp2_with fail
  refine HG.out.mono ?_
  rintro _ w6 ⟨v6, rfl, ho, hb6⟩
  clear HG
  have e6 : ((lb l0 ++ lb l1).drop 4).take n0 = l0 := by rw [← E0.out]; exact drop_lb _ _
  rw [e6] at ho
  clear e6
  obtain ⟨a6, c6, rfl⟩ := own_shape (n := n0) ho E0.out
  have K6 := Lib.hid ho.at_
  have HB6 := Lib.hid (below_later HB5.out hb6)
  have HX6 := Lib.hid (HX5.out.later rfl hb6)
  have M0 := Lib.hid (L0.out.later hb6)
  have M1 := Lib.hid (L1.out.later hb6)
  have HC6 := Lib.hid (fun (i x : Nat) (hx : (lb l0 ++ lb l1)[i]? = some x) => cell_al (HC.out i x hx) hb6)
  clear ho hb6 HB5 HX5 L0 L1 HC HK
  have p0 := HX6.out.1
  go_wp2_with fail
  refine (same_self _ K6.out M0.out).mono ?_
  rintro _ w7 ⟨rfl, n7, rfl⟩
  clear p0 K6 M0
  have hd := KAt.drop HC6.out (by rw [E.out]; exact hc5) (by unfold maxLen; exact hm5) (4 + n0) (by rw [E.out]; omega)
  rw [E.out, show (lb l0 ++ lb l1).drop (4 + n0) = lb l1 from by rw [← E0.out]; exact List.drop_left' (lb_length _)] at hd
  have HD := Lib.hid hd
  clear hd
  have HG := Lib.hid (GetBytes_ok (w6.drewN n7) HD.out (lb_bytes B1.out) n1 (by have h := num_lb (l := l1) (m := []) (by rw [E1.out]; omega); rw [List.append_nil] at h; rw [h, E1.out]) (by rw [lb_length, E1.out]; omega) (by rw [lb_length, E1.out]; omega))
  go_wp2_with fail
  refine HG.out.mono ?_
  rintro _ w8 ⟨v8, rfl, ho, hb8⟩
  clear HG
  have e6 : ((lb l1).drop 4).take n1 = l1 := by
    have h := drop_lb l1 []
    rw [List.append_nil, E1.out] at h
    exact h
  rw [e6] at ho
  clear e6
  obtain ⟨a8, c8, rfl⟩ := own_shape (n := n1) ho E1.out
  have K8 := Lib.hid ho.at_
  have HB8 := Lib.hid (below_later HB6.out (below_later (below_drewN w6 n7) hb8))
  have HX8 := Lib.hid (HX6.out.later rfl (below_later (below_drewN w6 n7) hb8))
  have M8 := Lib.hid (M1.out.later (below_later (below_drewN w6 n7) hb8))
  have HC8 := Lib.hid (fun (i x : Nat) (hx : (lb l1)[i]? = some x) => cell_al (by
    have h := HC6.out (4 + n0 + i) x (by rw [← E0.out, ← lb_length, List.getElem?_append_right (by omega), show (lb l0).length + i - (lb l0).length = i by omega]; exact hx)
    rw [← Nat.add_assoc] at h
    exact h) (below_later (below_drewN w6 n7) hb8))
  clear ho hb8 HB6 HX6 M1 HC6 HD
  obtain ⟨k, K, hk⟩ : ∃ k : Nat, Hid (cut % (4 + n1) = k) ∧ k < 4 + n1 := ⟨_, Lib.hid rfl, Nat.mod_lt _ (by omega)⟩
  have hki : (cut : Int) % (4 + (n1 : Int)) = (k : Int) := by rw [← K.out]; simp
  have HS := Lib.hid (GetBytes_short (b := (lb l1).take k) (v := .slice (some ⟨g, o + (4 + n0), none⟩) k (c5 - (4 + n0))) w8
    ⟨_, _, by rw [List.length_take, lb_length, E1.out, Nat.min_eq_left (by omega)], by rw [List.length_take, lb_length, E1.out]; omega, by unfold maxLen; omega, (fun h => by cases h), fun _ => ⟨_, _, rfl, fun i x hx => HC8.out i x (by
      rw [List.getElem?_take] at hx
      split at hx
      · exact hx
      · cases hx)⟩⟩ (fun y hy => lb_bytes B1.out y (List.take_subset _ _ hy)) (by
      rw [List.length_take, lb_length, E1.out, Nat.min_eq_left (by omega)]
      by_cases h4 : k < 4
      · exact .inl h4
      · right
        rw [List.take_take, Nat.min_eq_left (by omega)]
        have h := num_lb (l := l1) (m := []) (by rw [E1.out]; omega)
        rw [List.append_nil, E1.out] at h
        rw [h]
        exact hk))
  go_wp2_with fail
  refine HS.out.mono ?_
  rintro _ w9 ⟨rfl, rfl⟩
  clear HS hki
  have p1 := HX8.out.2
  go_wp2_with fail
  refine (same_self _ K8.out M8.out).mono ?_
  rintro _ w9 ⟨rfl, n9, rfl⟩
  clear p1
  go_wp2_with fail
  go_ret
  exact ⟨rfl, below_later HB8.out (below_drewN _ _)⟩

theorem beyond_two (x y : Nat) (hx : x ≤ 9223372036854775807 - 1048576) (hy : y ≤ 9223372036854775807 - 1048576) (w : World) (b : Nat) (hb : b = w.heap.size) :
    Calls Try.prog 7 #[.slice (some ⟨b, 0, none⟩) 2 2] (w.alloc (.cells #[.int .i64 x, .int .i64 y] 3)) fun e w' => e = .returned (.bool (decide (1048576 < x + y))) ∧ w.alloc (.cells #[.int .i64 x, .int .i64 y] 3) = w' := by
  subst hb
  have h := beyond_any (l := [x, y]) _ (two_at w x y 3) (by simp) (by simp; omega)
  rw [show [x, y].sum = x + y from by simp] at h
  exact h

set_option maxRecDepth 40000 in
set_option maxHeartbeats 2000000 in
theorem numsJoin_big (n0 n1 : Nat) (a0 a1 : Option Addr) (c0 c1 : Nat) (cut : Nat) (w : World)
    (HY : Hid (∀ (w : World) (b : Nat), b = w.heap.size → Calls Try.prog 7 #[.slice (some ⟨b, 0, none⟩) 2 2] (w.alloc (.cells #[.int .i64 n0, .int .i64 n1] 3)) fun e w' => e = .returned (.bool true) ∧ w.alloc (.cells #[.int .i64 n0, .int .i64 n1] 3) = w')) :
    Calls Try.prog 4 #[.agg #[.slice a0 n0 c0, .slice a1 n1 c1], .int .u16 cut] w fun e w' => e = .returned (.bool true) ∧ Below w.heap.size w w' := by
  have HN := Lib.hid (Box2.new w (.slice a0 n0 c0) (.slice a1 n1 c1))
  go_enter Try.func4, Try.ntmps4
  go_wp2_with fail
  refine (alive_any _).mono ?_
  rintro _ w1 ⟨rfl, hb1⟩
  have hbox1 := (HN.out _).later (by simp) hb1
  obtain ⟨p0, p1⟩ := hbox1
  have HB1 := Lib.hid ((((Below.refl w.heap.size w).alloc (Nat.le_refl _) _)).trans (hb1.mono (by simp)))
  clear hb1
  go_wp2_with fail
  refine (HY.out _ _ (by simp)).mono ?_
  rintro _ w2 ⟨rfl, rfl⟩
  go_wp2_with fail
  refine (alive_any _).mono ?_
  rintro _ w3 ⟨rfl, hb3⟩
  have HB3 := Lib.hid (below_later (HB1.out.alloc HB1.out.size _) hb3)
  clear hb3
  go_wp2_with fail
  go_ret
  exact ⟨rfl, HB3.out⟩

theorem numsJoin_walk (l0 l1 : List Nat) (v0 v1 : Value) (cut : Nat) (w : World) (h0 : KAt .u8 w v0 l0) (h1 : KAt .u8 w v1 l1) (hb0 : Bytes l0) (hb1 : Bytes l1) (s0 : l0.length ≤ 140737488351232) (s1 : l1.length ≤ 140737488351232) (hc : cut < 65536) :
    Calls Try.prog 4 #[.agg #[v0, v1], .int .u16 cut] w fun e w' => e = .returned (.bool true) ∧ Below w.heap.size w w' := by
  obtain ⟨a0, c0, rfl, _⟩ := h0.shapeK
  obtain ⟨a1, c1, rfl, _⟩ := h1.shapeK
  have hy := beyond_two l0.length l1.length (by omega) (by omega)
  by_cases hbig : 1048576 < l0.length + l1.length
  · rw [decide_eq_true hbig] at hy
    exact numsJoin_big _ _ _ _ _ _ _ _ (Lib.hid hy)
  · rw [decide_eq_false hbig] at hy
    exact numsJoin_small l0 l1 _ _ _ (Lib.hid rfl) (Lib.hid rfl) (Lib.hid rfl) (by simp [lb_length]; omega) (by simp [lb_length]; omega) a0 a1 c0 c1 cut w (Lib.hid h0) (Lib.hid h1) (Lib.hid hb0) (Lib.hid hb1) (by omega) hc (Lib.hid hy)
end Go.Proofs.Ytplhfbflgjnjmaa
