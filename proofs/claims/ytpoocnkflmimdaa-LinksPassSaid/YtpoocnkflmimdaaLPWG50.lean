/- What LinksPass stands on, in plain words and in memory; LinksPass: the walk -/
import Derived.Test.YtpoocnkflmimdaaLPWG47
import Derived.Test.YtpoocnkflmimdaaLPWG49
import Derived.Laws.BytesArg
import Derived.Shelf.Bytes.SlSmallAll
namespace Go.Proofs.Ytpoocnkflmimdaa
open Go.ChangeShapes Go.WideShapes Go.ChangeAt Go.RowKit
/-- A pass, as a value. -/
def passV (gp gq gg gh lg : Nat) (fa se : Int) (ks : Value) (f0 t0 : Nat) (bv : Value) : Value := .agg #[.int .u64 (dgt W64 gp 0), .int .u64 (dgt W64 gp 1), .int .u64 (dgt W64 gp 2), .int .u64 (dgt W64 gp 3), .int .u64 (dgt W64 gq 0), .int .u64 (dgt W64 gq 1), .int .u64 (dgt W64 gq 2), .int .u64 (dgt W64 gq 3), .int .u64 (dgt W64 gg 0), .int .u64 (dgt W64 gg 1), .int .u64 (dgt W64 gg 2), .int .u64 (dgt W64 gg 3), .int .u64 (dgt W64 gh 0), .int .u64 (dgt W64 gh 1), .int .u64 (dgt W64 gh 2), .int .u64 (dgt W64 gh 3), .int .u64 (dgt W64 lg 0), .int .u64 (dgt W64 lg 1), .int .u64 (dgt W64 lg 2), .int .u64 (dgt W64 lg 3), .int .i64 fa, .int .i64 se, ks, .int .u8 f0, .int .u8 t0, bv]
def zero23 : Array Value := #[.int .u64 0, .int .u64 0, .int .u64 0, .int .u64 0, .int .u64 0, .int .u64 0, .int .u64 0, .int .u64 0, .int .u64 0, .int .u64 0, .int .u64 0, .int .u64 0, .int .u64 0, .int .u64 0, .int .u64 0, .int .u64 0, .int .u64 0, .int .u64 0, .int .u64 0, .int .u64 0, .int .i64 0, .int .i64 0, .slice none 0 0]
def bstr (l : List Nat) : ByteArray := ⟨(l.map UInt8.ofNat).toArray⟩
theorem conv_any {w : World} {v : Value} {l : List Nat} (h : KAt .u8 w v l) : (convert 46 9 v).run Try.prog w = .ok (.string (bstr l)) w := by
  obtain ⟨ao, cap, rfl, h1, h2, h3, h4⟩ := h
  by_cases h0 : 0 < l.length
  · obtain ⟨b, o, rfl, hc⟩ := h4 h0
    have := run_convert_bytes_arg (P := Try.prog) w 46 5 Try.underlying46 Try.underlying5 b o l.length cap (l.map fun x : Nat => (x : Int)) (by simp) (fun i hi => by
      rw [hc i l[i] (List.getElem?_eq_getElem hi)]
      simp [hi]) 9 Try.underlying9
    rw [this]
    simp [strOfNums, bstr, Function.comp_def]
  · have : l = [] := List.length_eq_zero_iff.1 (by omega)
    subst this
    exact run_convert_bytes_zero w 46 5 Try.underlying46 Try.underlying5 ao cap 9 Try.underlying9
theorem FrAt.of_row {w : World} {b fr tt : Nat} {bv : Value} {c s : Nat} {t : TypeId} (h : w.heap[b]? = some (.cells #[.int .u8 fr, .int .u8 tt, bv, .int .u64 (dgt W64 c 0), .int .u64 (dgt W64 c 1), .int .u64 (dgt W64 c 2), .int .u64 (dgt W64 c 3), .int .u64 (dgt W64 s 0), .int .u64 (dgt W64 s 1), .int .u64 (dgt W64 s 2), .int .u64 (dgt W64 s 3)] t (0, 0))) : FrAt w b fr tt bv c s :=
  ⟨by rw [cell_of_row _ _ _ _ _ _ h]; rfl, by rw [cell_of_row _ _ _ _ _ _ h]; rfl, by rw [cell_of_row _ _ _ _ _ _ h]; rfl,
    fun j hj => by rw [cell_of_row _ _ _ _ _ _ h]; rcases (show j = 0 ∨ j = 1 ∨ j = 2 ∨ j = 3 by omega) with rfl | rfl | rfl | rfl <;> rfl,
    fun j hj => by rw [cell_of_row _ _ _ _ _ _ h]; rcases (show j = 0 ∨ j = 1 ∨ j = 2 ∨ j = 3 by omega) with rfl | rfl | rfl | rfl <;> rfl,
    fun j hj => by simp [World.frozen?, h]⟩
theorem FrAt.setTo {w : World} {b fr tt : Nat} {bv : Value} {c s : Nat} (h : FrAt w b fr tt bv c s) (x : Nat) : FrAt (w.setCell ⟨b, 1, none⟩ (.int .u8 x)) b fr x bv c s :=
  ⟨cell_set_ne h.fr (by decide), World.cell?_setCell_same _ _ _ h.tt, cell_set_ne h.bv (by decide), fun j hj => cell_set_ne (h.c j hj) (by omega), fun j hj => cell_set_ne (h.s j hj) (by omega), h.free.set _ _⟩
theorem set_facts {gp gq gg gh n : Nat} {fa se : Int} {ks : List (Nat × Nat)} (h : settingB gp gq gg gh fa se n ks = true) : inG gp gq gg ∧ gg ≠ 1 := by
  unfold settingB at h
  by_cases h8 : (badK gp gq gg || badK gp gq gh) = true
  · exfalso
    rw [if_pos h8] at h
    simp at h
  have h9 : badK gp gq gg = false := by
    revert h8
    cases badK gp gq gg <;> simp
  unfold badK at h9
  simp at h9
  exact h9
/-- What is signed with a node's secret holds. -/
theorem pass_key {gp gq gg x : Nat} (hg : inG gp gq gg) (h1 : gg ≠ 1) (hp : PrimeN gq) (h0 : x ≠ 0) (hx : x < gq) : inG gp gq (gg ^ x % gp) ∧ gg ^ x % gp ≠ 1 := by
  have hp1 : 1 < gp := hg.1.1
  refine ⟨⟨⟨hp1, pow_ne hp1 (by omega) hg.2 x, Nat.mod_lt _ (by omega)⟩, key_in hp1 hg.2⟩, pow_not_one hp1 hg.1.2.2 hg.2 h1 hp h0 hx⟩
theorem pass_sig {gp gq gg x d : Nat} {h : List Nat} (hg : inG gp gq gg) (hq : 1 < gq) : signC gp gq gg x d h = challenge gq (gg ^ x % gp) (backR gp gq gg (gg ^ x % gp) (signC gp gq gg x d h) (signS gp gq gg x d h)) h := by
  have hc : signC gp gq gg x d h ≤ gq := Nat.le_of_lt (by unfold signC challenge numberN; exact Nat.mod_lt _ (by omega))
  have h9 := backR_sign (x := x) (d := d) hg.1.1 hg.2 hc
  conv => rhs; rw [show signS gp gq gg x d h = (d + x * signC gp gq gg x d h % gq) % gq from rfl, h9]
  rfl
theorem ends_yes {n x y : Nat} (h1 : 1 ≤ x) (h2 : 1 ≤ y) (h3 : x ≤ n) (h4 : y ≤ n) (h5 : x ≠ y) : endsB n x y = true := by
  unfold endsB
  rw [if_neg (by omega), if_neg (by omega), if_neg (by omega), if_neg (by omega), if_neg h5]
theorem ends_same {n x : Nat} : endsB n x x = false := by
  unfold endsB
  simp
end Go.Proofs.Ytpoocnkflmimdaa
namespace Go.Proofs.Ytpoocnkflmimdaa
open Go.ChangeShapes Go.WideShapes Go.ChangeAt Go.RowKit
set_option linter.unusedSimpArgs false in
set_option linter.unusedVariables false in
set_option maxRecDepth 20000 in
set_option maxHeartbeats 4000000 in
theorem linksPass_walk {gp gq gg gh lg n cap : Nat} {fa se : Int} {ao : Option Addr} {sk : List (Nat × Nat)} {f0 t0 : Nat} {bv : Value} {bl : List Nat} (hgp : gp < M256) (hgq : gq < M256) (hgg : gg < M256) (hlg : lg < M256) (hfa : -9223372036854775808 ≤ fa ∧ fa ≤ 9223372036854775807) (hse : -9223372036854775808 ≤ se ∧ se ≤ 9223372036854775807) (hsk : ∀ k ∈ sk, k.1 < M256 ∧ k.2 < M256) (hn : n = sk.length) (hcap : n ≤ cap) (hcm : cap ≤ maxLen) (hf0 : f0 < 256) (ht0 : t0 < 256) (hby : Bytes bl) (w : World) (hk : 0 < n → ∃ b o, ao = some ⟨b, o, none⟩ ∧ KeysAt w b o sk) (hb : KAt .u8 w bv bl) :
  Calls Try.prog 4 #[passV gp gq gg gh lg fa se (.slice ao n cap) f0 t0 bv] w fun e w' => e = .returned (.bool true) ∧ Below w.heap.size w w' := by
 have CW := Lib.hid (fun (W : World) (hb : Below w.heap.size w W) => by have h9 := lawset_any (gh := gh) hgp hgq hgg hlg hfa hse hsk hn hcap hcm W (fun h0 => by obtain ⟨b, o, h1, h2⟩ := hk h0; exact ⟨b, o, h1, h2.later hb⟩); simp only [castV, setV] at h9; exact h9)
 obtain ⟨ab, cb, rfl, hbx, hby9, _⟩ := id hb
 obtain ⟨m, hm⟩ : ∃ m, m = bl.length := ⟨_, rfl⟩
 rw [← hm] at hb hbx ⊢
 have KB := Lib.hid hb
 have HM := Lib.hid hm
 have HGP := Lib.hid hgp
 have HGG := Lib.hid hgg
 have HGQ := Lib.hid hgq
 have HFA := Lib.hid hfa
 have HSE := Lib.hid hse
 have HSK := Lib.hid hsk
 have HN := Lib.hid hn
 have HBY := Lib.hid hby
 have HK := Lib.hid hk
 have g1 : (0 : Int) ≤ (f0 : Int) := by omega
 have g2 : (f0 : Int) < 256 := by omega
 have g3 : (0 : Int) ≤ (t0 : Int) := by omega
 have g4 : (t0 : Int) < 256 := by omega
 have hcx : cap ≤ 9223372036854775807 := by unfold maxLen at hcm; omega
 have hnx : n ≤ 9223372036854775807 := by omega
 have hmx : m ≤ 9223372036854775807 := by unfold maxLen at hby9; omega
 have HF0 := Lib.hid hf0
 have HT0 := Lib.hid ht0
 clear hgp hgq hgg hlg hfa hse hsk hn hcap hcm hk hb hby hf0 ht0 hm hbx hby9
 unfold passV
 go_enter Try.func4, Try.ntmps4
 go_upto_region 1 with fail
 obtain ⟨v_0, e0⟩ : ∃ w9, w9 = w.alloc (.cells #[.int .u64 (dgt W64 gp 0), .int .u64 (dgt W64 gp 1), .int .u64 (dgt W64 gp 2), .int .u64 (dgt W64 gp 3), .int .u64 (dgt W64 gq 0), .int .u64 (dgt W64 gq 1), .int .u64 (dgt W64 gq 2), .int .u64 (dgt W64 gq 3), .int .u64 (dgt W64 gg 0), .int .u64 (dgt W64 gg 1), .int .u64 (dgt W64 gg 2), .int .u64 (dgt W64 gg 3), .int .u64 (dgt W64 gh 0), .int .u64 (dgt W64 gh 1), .int .u64 (dgt W64 gh 2), .int .u64 (dgt W64 gh 3), .int .u64 (dgt W64 lg 0), .int .u64 (dgt W64 lg 1), .int .u64 (dgt W64 lg 2), .int .u64 (dgt W64 lg 3), .int .i64 fa, .int .i64 se, .slice ao n cap, .int .u8 f0, .int .u8 t0, .slice ab m cb] 48) := ⟨_, rfl⟩
 have b0 : Below w.heap.size w v_0 := by rw [e0]; exact (Below.refl _ _).alloc (Nat.le_refl _) _
 have f0_ : GrpAt v_0 w.heap.size gp gq gg gh := by rw [e0]; exact grp_cells fun j v hj => by rw [cell_of_row _ _ _ _ _ _ (heap_alloc_new _ _)]; have hl := (List.getElem?_eq_some_iff.1 hj).1; simp only [List.length_cons, List.length_nil] at hl; rcases (show j = 0 ∨ j = 1 ∨ j = 2 ∨ j = 3 ∨ j = 4 ∨ j = 5 ∨ j = 6 ∨ j = 7 ∨ j = 8 ∨ j = 9 ∨ j = 10 ∨ j = 11 ∨ j = 12 ∨ j = 13 ∨ j = 14 ∨ j = 15 by omega) with rfl | rfl | rfl | rfl | rfl | rfl | rfl | rfl | rfl | rfl | rfl | rfl | rfl | rfl | rfl | rfl <;> exact hj
 have f1_ : NumO v_0 w.heap.size 16 lg := fun j hj => by rw [e0, cell_of_row _ _ _ _ _ _ (heap_alloc_new _ _)]; rcases (show j = 0 ∨ j = 1 ∨ j = 2 ∨ j = 3 by omega) with rfl | rfl | rfl | rfl <;> rfl
 have f20 : v_0.cell? ⟨w.heap.size, 20, none⟩ = some (.int .i64 fa) := by rw [e0, cell_of_row _ _ _ _ _ _ (heap_alloc_new _ _)]; rfl
 have f21 : v_0.cell? ⟨w.heap.size, 21, none⟩ = some (.int .i64 se) := by rw [e0, cell_of_row _ _ _ _ _ _ (heap_alloc_new _ _)]; rfl
 have f22 : v_0.cell? ⟨w.heap.size, 22, none⟩ = some (.slice ao n cap) := by rw [e0, cell_of_row _ _ _ _ _ _ (heap_alloc_new _ _)]; rfl
 have f23 : v_0.cell? ⟨w.heap.size, 23, none⟩ = some (.int .u8 f0) := by rw [e0, cell_of_row _ _ _ _ _ _ (heap_alloc_new _ _)]; rfl
 have f24 : v_0.cell? ⟨w.heap.size, 24, none⟩ = some (.int .u8 t0) := by rw [e0, cell_of_row _ _ _ _ _ _ (heap_alloc_new _ _)]; rfl
 have f25 : v_0.cell? ⟨w.heap.size, 25, none⟩ = some (.slice ab m cb) := by rw [e0, cell_of_row _ _ _ _ _ _ (heap_alloc_new _ _)]; rfl
 rw [← e0]
 obtain ⟨PB, hPB⟩ : ∃ b, b = w.heap.size := ⟨_, rfl⟩
 rw [← hPB] at f0_ f1_ f20 f21 f22 f23 f24 f25 ⊢
 have HC := Lib.hid f0_
 have HLg := Lib.hid f1_
 have C20 := Lib.hid f20
 have C21 := Lib.hid f21
 have C22 := Lib.hid f22
 have P23 := Lib.hid f23
 have P24 := Lib.hid f24
 have P25 := Lib.hid f25
 have HB := Lib.hid b0
 clear e0 b0 f0_ f1_ f20 f21 f22 f23 f24 f25 hPB
 refine wp_region_lit ?_
 refine wpList_val (v := .pointer (some ⟨PB, 0, none⟩)) rfl (by kernel_rfl) ?_
 simp only [Act.put, pa, pb, pc]
 refine wpList_val rfl (run_value_of (loadC9 HC.out HLg.out C20.out C21.out C22.out)) ?_
 simp only [Act.put, pa, pb, pc]
 refine wpList_made (v := .pointer (some ⟨v_0.heap.size, 0, none⟩)) (w' := v_0.alloc (.cells zero23 29)) rfl (by kernel_rfl) ?_
 simp only [Act.put, pa, pb, pc]
 refine wpList_store_new rfl _ _ _ rfl zero23 #[.int .u64 (dgt W64 gp 0), .int .u64 (dgt W64 gp 1), .int .u64 (dgt W64 gp 2), .int .u64 (dgt W64 gp 3), .int .u64 (dgt W64 gq 0), .int .u64 (dgt W64 gq 1), .int .u64 (dgt W64 gq 2), .int .u64 (dgt W64 gq 3), .int .u64 (dgt W64 gg 0), .int .u64 (dgt W64 gg 1), .int .u64 (dgt W64 gg 2), .int .u64 (dgt W64 gg 3), .int .u64 (dgt W64 gh 0), .int .u64 (dgt W64 gh 1), .int .u64 (dgt W64 gh 2), .int .u64 (dgt W64 gh 3), .int .u64 (dgt W64 lg 0), .int .u64 (dgt W64 lg 1), .int .u64 (dgt W64 lg 2), .int .u64 (dgt W64 lg 3), .int .i64 fa, .int .i64 se, .slice ao n cap] rfl rfl (by rw [info_c9]; rfl) rfl (by kernel_rfl) ?_
 simp only [Act.put, pa, pb, pc]
 clear HC HLg C20 C21 C22
 obtain ⟨v_1, e9⟩ : ∃ w9, w9 = v_0.alloc (.cells #[.int .u64 (dgt W64 gp 0), .int .u64 (dgt W64 gp 1), .int .u64 (dgt W64 gp 2), .int .u64 (dgt W64 gp 3), .int .u64 (dgt W64 gq 0), .int .u64 (dgt W64 gq 1), .int .u64 (dgt W64 gq 2), .int .u64 (dgt W64 gq 3), .int .u64 (dgt W64 gg 0), .int .u64 (dgt W64 gg 1), .int .u64 (dgt W64 gg 2), .int .u64 (dgt W64 gg 3), .int .u64 (dgt W64 gh 0), .int .u64 (dgt W64 gh 1), .int .u64 (dgt W64 gh 2), .int .u64 (dgt W64 gh 3), .int .u64 (dgt W64 lg 0), .int .u64 (dgt W64 lg 1), .int .u64 (dgt W64 lg 2), .int .u64 (dgt W64 lg 3), .int .i64 fa, .int .i64 se, .slice ao n cap] 29) := ⟨_, rfl⟩
 obtain ⟨CB, h9⟩ : ∃ b, b = v_0.heap.size := ⟨_, rfl⟩
 have hb : Below v_0.heap.size v_0 v_1 := by rw [e9]; exact (Below.refl _ _).alloc (Nat.le_refl _) _
 have HC := Lib.hid (show GrpAt v_1 CB gp gq gg gh by rw [e9, h9]; exact cast_grp)
 have HLg := Lib.hid (show NumO v_1 CB 16 lg by rw [e9, h9]; exact fun j hj => by rw [cell_of_row _ _ _ _ _ _ (heap_alloc_new _ _)]; rcases (show j = 0 ∨ j = 1 ∨ j = 2 ∨ j = 3 by omega) with rfl | rfl | rfl | rfl <;> rfl)
 have C20 := Lib.hid (show v_1.cell? ⟨CB, 20, none⟩ = some (.int .i64 fa) by rw [e9, h9]; rw [cell_of_row _ _ _ _ _ _ (heap_alloc_new _ _)]; rfl)
 have C21 := Lib.hid (show v_1.cell? ⟨CB, 21, none⟩ = some (.int .i64 se) by rw [e9, h9]; rw [cell_of_row _ _ _ _ _ _ (heap_alloc_new _ _)]; rfl)
 have C22 := Lib.hid (show v_1.cell? ⟨CB, 22, none⟩ = some (.slice ao n cap) by rw [e9, h9]; rw [cell_of_row _ _ _ _ _ _ (heap_alloc_new _ _)]; rfl)
 have LCB := Lib.hid (show CB < v_1.heap.size by rw [e9, h9]; simp)
 have WCB := Lib.hid (show v_0.heap.size = CB from h9.symm)
 rw [← e9, ← h9]
 clear e9 h9
 have P23 := Lib.hid (cell_on P23.out hb)
 have P24 := Lib.hid (cell_on P24.out hb)
 have P25 := Lib.hid (cell_on P25.out hb)
 have HB := Lib.hid (below_later HB.out hb)
 clear hb
 clear LCB WCB
 have p23 := P23.out
 have p24 := P24.out
 have p25 := P25.out
 go_upto_region 5 with fail
 clear p23 p24 p25 P23 P24 P25
 refine wp_region_lit ?_
 refine wpList_val rfl (run_value_of (loadC9 HC.out HLg.out C20.out C21.out C22.out)) ?_
 simp only [Act.put, pa, pb, pc]
 go_wp2_with fail
 refine (CW.out _ HB.out).mono ?_
 rintro _ v_2 ⟨p, q, g, h2, f9, s9, a9, n9, c9, ok, rfl, hok, hb⟩
 clear HC HLg C20 C21
 have HB := Lib.hid (below_later HB.out hb)
 have C22 := Lib.hid (cell_on C22.out hb)
 clear hb
 have HOK := Lib.hid hok
 clear hok CW
 dsimp only
 go_step
 refine wpList_val (v := .tuple #[.agg #[.int .u64 (dgt W64 p 0), .int .u64 (dgt W64 p 1), .int .u64 (dgt W64 p 2), .int .u64 (dgt W64 p 3), .int .u64 (dgt W64 q 0), .int .u64 (dgt W64 q 1), .int .u64 (dgt W64 q 2), .int .u64 (dgt W64 q 3), .int .u64 (dgt W64 g 0), .int .u64 (dgt W64 g 1), .int .u64 (dgt W64 g 2), .int .u64 (dgt W64 g 3), .int .u64 (dgt W64 h2 0), .int .u64 (dgt W64 h2 1), .int .u64 (dgt W64 h2 2), .int .u64 (dgt W64 h2 3), .int .i64 f9, .int .i64 s9, .slice a9 n9 c9], .bool ok]) rfl (by kernel_rfl) ?_
 simp only [Act.put, pa, pb, pc]
 refine wpList_val (v := .agg #[.int .u64 (dgt W64 p 0), .int .u64 (dgt W64 p 1), .int .u64 (dgt W64 p 2), .int .u64 (dgt W64 p 3), .int .u64 (dgt W64 q 0), .int .u64 (dgt W64 q 1), .int .u64 (dgt W64 q 2), .int .u64 (dgt W64 q 3), .int .u64 (dgt W64 g 0), .int .u64 (dgt W64 g 1), .int .u64 (dgt W64 g 2), .int .u64 (dgt W64 g 3), .int .u64 (dgt W64 h2 0), .int .u64 (dgt W64 h2 1), .int .u64 (dgt W64 h2 2), .int .u64 (dgt W64 h2 3), .int .i64 f9, .int .i64 s9, .slice a9 n9 c9]) rfl (by kernel_rfl) ?_
 simp only [Act.put, pa, pb, pc]
 refine wpList_val (v := .bool ok) rfl (by kernel_rfl) ?_
 simp only [Act.put, pa, pb, pc]
 refine wpList_made (v := .pointer (some ⟨v_2.heap.size, 0, none⟩)) (w' := v_2.alloc (.cells zero19 34)) rfl (by kernel_rfl) ?_
 simp only [Act.put, pa, pb, pc]
 refine wpList_store_new rfl _ _ _ rfl zero19 #[.int .u64 (dgt W64 p 0), .int .u64 (dgt W64 p 1), .int .u64 (dgt W64 p 2), .int .u64 (dgt W64 p 3), .int .u64 (dgt W64 q 0), .int .u64 (dgt W64 q 1), .int .u64 (dgt W64 q 2), .int .u64 (dgt W64 q 3), .int .u64 (dgt W64 g 0), .int .u64 (dgt W64 g 1), .int .u64 (dgt W64 g 2), .int .u64 (dgt W64 g 3), .int .u64 (dgt W64 h2 0), .int .u64 (dgt W64 h2 1), .int .u64 (dgt W64 h2 2), .int .u64 (dgt W64 h2 3), .int .i64 f9, .int .i64 s9, .slice a9 n9 c9] rfl rfl (by rw [info_st]; rfl) rfl (by kernel_rfl) ?_
 simp only [Act.put, pa, pb, pc]
 go_upto_region 6 with fail
 have HB2 := Lib.hid (Below.refl v_2.heap.size v_2)
 obtain ⟨v_3, e9⟩ : ∃ w9, w9 = v_2.alloc (.cells #[.int .u64 (dgt W64 p 0), .int .u64 (dgt W64 p 1), .int .u64 (dgt W64 p 2), .int .u64 (dgt W64 p 3), .int .u64 (dgt W64 q 0), .int .u64 (dgt W64 q 1), .int .u64 (dgt W64 q 2), .int .u64 (dgt W64 q 3), .int .u64 (dgt W64 g 0), .int .u64 (dgt W64 g 1), .int .u64 (dgt W64 g 2), .int .u64 (dgt W64 g 3), .int .u64 (dgt W64 h2 0), .int .u64 (dgt W64 h2 1), .int .u64 (dgt W64 h2 2), .int .u64 (dgt W64 h2 3), .int .i64 f9, .int .i64 s9, .slice a9 n9 c9] 34) := ⟨_, rfl⟩
 obtain ⟨SB, h9⟩ : ∃ b, b = v_2.heap.size := ⟨_, rfl⟩
 have hb : Below v_2.heap.size v_2 v_3 := by rw [e9]; exact (Below.refl _ _).alloc (Nat.le_refl _) _
 have HS := Lib.hid (show SAt v_3 SB p q g h2 f9 s9 (.slice a9 n9 c9) by rw [e9, h9]; exact SAt.new _ _ _ _ _ _ _ _ _)
 have LSB := Lib.hid (show SB < v_3.heap.size by rw [e9, h9]; simp)
 have WSB := Lib.hid (show v_2.heap.size = SB from h9.symm)
 rw [← e9, ← h9]
 clear e9 h9
 have HB := Lib.hid (below_later HB.out hb)
 have C22 := Lib.hid (cell_on C22.out hb)
 have HB2 := Lib.hid (below_later HB2.out hb)
 clear hb
 clear LSB
 cases ok
 ·go_wp2_with fail
  refine (Lv.lives_any _).mono ?_
  rintro _ v_4 ⟨rfl, hb⟩
  have HB := Lib.hid (below_later HB.out hb)
  clear hb
  go_wp2_with fail
  go_ret
  exact ⟨rfl, HB.out⟩
 obtain ⟨e1, e2, e3, e4, e5, e6, e7, hset⟩ := HOK.out rfl
 clear HOK
 have HE4 := Lib.hid e4
 have HSET := Lib.hid hset
 clear e4 hset
 subst e1 e2 e3 e5 e6 e7
 by_cases hn2 : n9 < 2
 ·have k2 : (n9 : Int) < 2 := by omega
  have y18 := HS.out.nd
  clear hn2
  go_wp2_with fail
  refine (Lv.lives_any _).mono ?_
  rintro _ v_4 ⟨rfl, hb⟩
  have HB := Lib.hid (below_later HB.out hb)
  clear hb
  go_wp2_with fail
  go_ret
  exact ⟨rfl, HB.out⟩
 have k2 : ¬ (n9 : Int) < 2 := by omega
 by_cases hm3 : 3000 < m
 ·have k3 : (3000 : Int) < (m : Int) := by omega
  have y18 := HS.out.nd
  clear hm3 hn2
  go_wp2_with fail
  refine (Lv.lives_any _).mono ?_
  rintro _ v_4 ⟨rfl, hb⟩
  have HB := Lib.hid (below_later HB.out hb)
  clear hb
  go_wp2_with fail
  go_ret
  exact ⟨rfl, HB.out⟩
 have k3 : ¬ (3000 : Int) < (m : Int) := by omega
 have y18 := HS.out.nd
 have HN2 := Lib.hid hn2
 have HM3 := Lib.hid hm3
 clear hn2 hm3
 go_upto_region 8 with fail
 clear y18 k2 k3
 have hn7 : n9 ≤ 7 := HSET.out.le
 have HZN := Lib.hid (show ¬ n9 = 0 by have := HN2.out; omega)
 clear hn7
 obtain ⟨jx, hjx⟩ : ∃ j, j = f0 % n9 := ⟨_, rfl⟩
 have HJx := Lib.hid (show jx < n9 by rw [hjx]; exact Nat.mod_lt _ (by have := HZN.out; omega))
 have HTx := Lib.hid (show (f0 : Int).tmod (n9 : Int) = (jx : Int) by rw [hjx]; rfl)
 have HWx := Lib.hid (show IntKind.i64.wrap (f0 : Int) = (f0 : Int) by have := HF0.out; simp [IntKind.wrap, IntKind.bits, IntKind.signed]; omega)
 obtain ⟨x, hxx⟩ : ∃ x, x = jx + 1 := ⟨_, rfl⟩
 have HXx := Lib.hid hxx
 have HAx := Lib.hid (show IntKind.i64.wrap (1 + (jx : Int)) = (x : Int) by have := HJx.out; have := HSET.out.le; simp [IntKind.wrap, IntKind.bits, IntKind.signed]; omega)
 have HUx := Lib.hid (show IntKind.u8.wrap (x : Int) = (x : Int) by have := HJx.out; have := HSET.out.le; simp [IntKind.wrap, IntKind.bits, IntKind.signed]; omega)
 have HBx := Lib.hid (show IntKind.i64.wrap ((x : Int) - 1) = (jx : Int) by have := HJx.out; have := HSET.out.le; rw [hxx]; simp [IntKind.wrap, IntKind.bits, IntKind.signed]; omega)
 clear hjx hxx
 refine wp_region_lit ?_
 refine wpList_val (v := .int .u8 f0) rfl (by kernel_rfl) ?_
 simp only [Act.put, pa, pb, pc]
 refine wpList_val (v := .int .i64 f0) rfl (by have e9 := HWx.out; simp [go_sem, e9]) ?_
 simp only [Act.put, pa, pb, pc]
 refine wpList_val (v := .pointer (some ⟨SB, 18, none⟩)) rfl (by kernel_rfl) ?_
 simp only [Act.put, pa, pb, pc]
 refine wpList_val (v := .slice a9 n9 c9) rfl (run_value_of (loadSk HS.out.nd)) ?_
 simp only [Act.put, pa, pb, pc]
 refine wpList_val (v := .int .i64 n9) rfl (by kernel_rfl) ?_
 simp only [Act.put, pa, pb, pc]
 refine wpList_val (v := .int .i64 jx) rfl (by have e9 := HTx.out; have z9 := HZN.out; simp [go_sem, e9, z9]) ?_
 simp only [Act.put, pa, pb, pc]
 refine wpList_val (v := .int .i64 x) rfl (by have e9 := HAx.out; simp [go_sem, e9]) ?_
 simp only [Act.put, pa, pb, pc]
 go_upto_region 9 with fail
 obtain ⟨jy, hjy⟩ : ∃ j, j = t0 % n9 := ⟨_, rfl⟩
 have HJy := Lib.hid (show jy < n9 by rw [hjy]; exact Nat.mod_lt _ (by have := HZN.out; omega))
 have HTy := Lib.hid (show (t0 : Int).tmod (n9 : Int) = (jy : Int) by rw [hjy]; rfl)
 have HWy := Lib.hid (show IntKind.i64.wrap (t0 : Int) = (t0 : Int) by have := HT0.out; simp [IntKind.wrap, IntKind.bits, IntKind.signed]; omega)
 obtain ⟨y, hxx⟩ : ∃ x, x = jy + 1 := ⟨_, rfl⟩
 have HXy := Lib.hid hxx
 have HAy := Lib.hid (show IntKind.i64.wrap (1 + (jy : Int)) = (y : Int) by have := HJy.out; have := HSET.out.le; simp [IntKind.wrap, IntKind.bits, IntKind.signed]; omega)
 have HUy := Lib.hid (show IntKind.u8.wrap (y : Int) = (y : Int) by have := HJy.out; have := HSET.out.le; simp [IntKind.wrap, IntKind.bits, IntKind.signed]; omega)
 have HBy := Lib.hid (show IntKind.i64.wrap ((y : Int) - 1) = (jy : Int) by have := HJy.out; have := HSET.out.le; rw [hxx]; simp [IntKind.wrap, IntKind.bits, IntKind.signed]; omega)
 clear hjy hxx
 refine wp_region_lit ?_
 refine wpList_val (v := .int .u8 t0) rfl (by kernel_rfl) ?_
 simp only [Act.put, pa, pb, pc]
 refine wpList_val (v := .int .i64 t0) rfl (by have e9 := HWy.out; simp [go_sem, e9]) ?_
 simp only [Act.put, pa, pb, pc]
 refine wpList_val (v := .pointer (some ⟨SB, 18, none⟩)) rfl (by kernel_rfl) ?_
 simp only [Act.put, pa, pb, pc]
 refine wpList_val (v := .slice a9 n9 c9) rfl (run_value_of (loadSk HS.out.nd)) ?_
 simp only [Act.put, pa, pb, pc]
 refine wpList_val (v := .int .i64 n9) rfl (by kernel_rfl) ?_
 simp only [Act.put, pa, pb, pc]
 refine wpList_val (v := .int .i64 jy) rfl (by have e9 := HTy.out; have z9 := HZN.out; simp [go_sem, e9, z9]) ?_
 simp only [Act.put, pa, pb, pc]
 refine wpList_val (v := .int .i64 y) rfl (by have e9 := HAy.out; simp [go_sem, e9]) ?_
 simp only [Act.put, pa, pb, pc]
 go_upto_region 10 with fail
 obtain ⟨b, o, rfl, hks⟩ := HK.out (by have := HN2.out; omega)
 obtain ⟨⟨x1, x2⟩, hx⟩ : ∃ x, sk[jx]? = some x := ⟨_, List.getElem?_eq_getElem (by rw [← HN.out]; exact HJx.out)⟩
 have HKI := Lib.hid hx
 have HK1 := Lib.hid (NumO.later HB.out (hks.num hx))
 have hjI : (jx : Int) < (n9 : Int) := by have := HJx.out; omega
 obtain ⟨nb, no, rfl, hnk⟩ := HSET.out.nodes (by have := HN2.out; omega)
 have HNK := Lib.hid hnk
 obtain ⟨ks, hkss⟩ : ∃ ks, ks = sk.map (fun k => (g ^ k.1 % p, (g ^ lg % p) ^ k.2 % p)) := ⟨_, rfl⟩
 rw [← hkss] at hnk
 have HNK := Lib.hid hnk
 have HKS := Lib.hid hkss
 clear hks hx hnk hkss
 have HOK := Lib.hid (show settingB p q g h2 f9 s9 n9 ks = true by rw [HKS.out, HE4.out]; exact HSET.out.ok)
 have HKX := Lib.hid (show ∀ k ∈ ks, k.1 < M256 ∧ k.2 < M256 from fun k hk => by
  rw [HKS.out] at hk
  obtain ⟨k0, _, rfl⟩ := List.mem_map.1 hk
  have hp0 : 0 < p := by have := HSET.out.may.1; omega
  exact ⟨Nat.lt_trans (Nat.mod_lt _ hp0) HGP.out, Nat.lt_trans (Nat.mod_lt _ hp0) HGP.out⟩)
 have HH2 := Lib.hid (show h2 < M256 by rw [HE4.out]; exact Nat.lt_trans (Nat.mod_lt _ (by have := HSET.out.may.1; omega)) HGP.out)
 have HNL := Lib.hid (show n9 = ks.length by rw [HKS.out, List.length_map]; exact HN.out)
 by_cases hxy : x = y
 ·have CS := Lib.hid (fun (W : World) (hk9 : KeysAt W nb no ks) (hb9 : KAt .u8 W (.slice ab m cb) bl) => by
   have h9 := Seal_bad (fr := x) (tt := y) (cap := c9) (secret := x1) HKX.out HGQ.out HGP.out HGG.out HH2.out HNL.out HFA.out HSE.out HSET.out.le HOK.out (by have := HJx.out; have := HSET.out.le; have := HXx.out; omega) (by have := HJy.out; have := HSET.out.le; have := HXy.out; omega) (by rw [hxy]; exact ends_same) W (fun _ => ⟨nb, no, rfl, hk9⟩) hb9
   unfold setV numV words at h9
   exact h9)
  have hxyI : ((x : Int) == (y : Int)) = true := by simp; omega
  clear hxy
  refine wp_region_tree (.take 0 (.take 1 (.take 2 (.take 3 (.take 4 (.take 5 (.take 6 (.take 7 (.take 8 (.take 9 (.take 10 (.take 11 (.take 12 (.fork 13 (.take 14 (.take 15 (.take 16 (.step 17 (.step 18 (.take 19 .done)))))) 17 (.step 13 (.take 14 (.take 15 (.take 16 (.step 18 (.take 19 .done)))))))))))))))))))) (fun w8 => SAt w8 SB p q g h2 f9 s9 (.slice (some ⟨nb, no, none⟩) n9 c9) ∧ w8.cell? ⟨CB, 22, none⟩ = some (.slice (some ⟨b, o, none⟩) n9 cap) ∧ NumO w8 b (o + jx * 8) x1) (by kernel_rfl) (by kernel_rfl) (fun _ _ _ _ _ h => h) (⟨HS.out.later ((Below.refl _ _).drew), cell_on C22.out ((Below.refl _ _).drew), NumO.later ((Below.refl _ _).drew) HK1.out⟩) (fun hHeld => ?_)
  obtain ⟨x_1, e1⟩ : ∃ y9, y9 = v_3.drew := ⟨_, rfl⟩
  rw [← e1]
  have hb : Below v_3.heap.size v_3 x_1 := by rw [e1]; exact (Below.refl _ _).drew
  have HK1 := Lib.hid (NumO.later hb HK1.out)
  have HB := Lib.hid (below_later HB.out hb)
  have C22 := Lib.hid (cell_on C22.out hb)
  have HB2 := Lib.hid (below_later HB2.out hb)
  have HS := Lib.hid (HS.out.later hb)
  clear hb e1
  refine WT.take rfl (Or.inl ⟨by rfl, fun w8 hSw => run_value_of (loadS9 hSw.1)⟩) ?_
  try simp only [Act.put, pa, pb, pc]
  refine WT.take (v := ?_) rfl (Or.inl ⟨by rfl, ?_⟩) ?_
  rotate_left
  ·intro w8 hSw
   (try dsimp only at hSw)
   go_simp
   any_goals with_reducible rfl
  try simp only [Act.put, pa, pb, pc]
  refine WT.take (v := .int .u8 x) rfl (Or.inl ⟨by rfl, fun w8 hSw => by have e9 := HUx.out; simp [go_sem, e9]⟩) ?_
  try simp only [Act.put, pa, pb, pc]
  refine WT.take (v := ?_) rfl (Or.inl ⟨by rfl, ?_⟩) ?_
  rotate_left
  ·intro w8 hSw
   (try dsimp only at hSw)
   go_simp
   any_goals with_reducible rfl
  try simp only [Act.put, pa, pb, pc]
  refine WT.take (v := .int .u8 y) rfl (Or.inl ⟨by rfl, fun w8 hSw => by have e9 := HUy.out; simp [go_sem, e9]⟩) ?_
  try simp only [Act.put, pa, pb, pc]
  refine WT.take (v := ?_) rfl (Or.inl ⟨by rfl, ?_⟩) ?_
  rotate_left
  ·intro w8 hSw
   (try dsimp only at hSw)
   go_simp
   any_goals with_reducible rfl
  try simp only [Act.put, pa, pb, pc]
  refine WT.take (v := ?_) rfl (Or.inl ⟨by rfl, ?_⟩) ?_
  rotate_left
  ·intro w8 hSw
   (try dsimp only at hSw)
   go_simp
   any_goals with_reducible rfl
  try simp only [Act.put, pa, pb, pc]
  refine WT.take (v := .slice (some ⟨b, o, none⟩) n9 cap) rfl (Or.inl ⟨by rfl, fun w8 hSw => run_value_of (loadSl hSw.2.1)⟩) ?_
  try simp only [Act.put, pa, pb, pc]
  refine WT.take (v := ?_) rfl (Or.inl ⟨by rfl, ?_⟩) ?_
  rotate_left
  ·intro w8 hSw
   (try dsimp only at hSw)
   go_simp
   any_goals with_reducible rfl
  try simp only [Act.put, pa, pb, pc]
  refine WT.take (v := .int .i64 jx) rfl (Or.inl ⟨by rfl, fun w8 hSw => by have e9 := HBx.out; simp [go_sem, e9]⟩) ?_
  try simp only [Act.put, pa, pb, pc]
  refine WT.take (v := .pointer (some ⟨b, o + jx * 8, none⟩)) rfl (Or.inl ⟨by rfl, fun w8 hSw => by simp [go_sem, hjI]⟩) ?_
  try simp only [Act.put, pa, pb, pc]
  refine WT.take (v := .pointer (some ⟨b, o + jx * 8, none⟩)) rfl (Or.inl ⟨by rfl, fun w8 hSw => by simp [go_sem]⟩) ?_
  try simp only [Act.put, pa, pb, pc]
  refine WT.take rfl (Or.inl ⟨by rfl, fun w8 hSw => run_value_of (loadNo hSw.2.2)⟩) ?_
  try simp only [Act.put, pa, pb, pc]
  refine WT.fork rfl rfl (fun K hK => ?_) (fun K hK => ?_)
  ·go_simp
   refine (CS.out _ (HNK.out.later HB2.out) (KB.out.later HB.out)).mono ?_
   rintro _ x_2 ⟨rfl, hb⟩
   have HK1 := Lib.hid (NumO.later hb HK1.out)
   have HB := Lib.hid (below_later HB.out hb)
   have C22 := Lib.hid (cell_on C22.out hb)
   have HB2 := Lib.hid (below_later HB2.out hb)
   have HS := Lib.hid (HS.out.later hb)
   clear hb
   refine hK.out _ _ (⟨HS.out, C22.out, HK1.out⟩) (fun hHeld => ?_)
   clear hK K
   try simp only [Act.put, pa, pb, pc]
   refine WT.take (v := ?_) rfl (Or.inl ⟨by rfl, ?_⟩) ?_
   rotate_left
   ·intro w8 hSw
    (try dsimp only at hSw)
    go_simp
    any_goals with_reducible rfl
   try simp only [Act.put, pa, pb, pc]
   refine WT.take (v := ?_) rfl (Or.inl ⟨by rfl, ?_⟩) ?_
   rotate_left
   ·intro w8 hSw
    (try dsimp only at hSw)
    go_simp
    any_goals with_reducible rfl
   try simp only [Act.put, pa, pb, pc]
   refine WT.take (v := ?_) rfl (Or.inl ⟨by rfl, ?_⟩) ?_
   rotate_left
   ·intro w8 hSw
    (try dsimp only at hSw)
    go_simp
    any_goals with_reducible rfl
   try simp only [Act.put, pa, pb, pc]
   refine WT.step rfl (fun K hK => ?_)
   go_simp
   obtain ⟨x_3, e9⟩ : ∃ w9, w9 = x_2.alloc (.cells zero11 50) := ⟨_, rfl⟩
   obtain ⟨FB, h9⟩ : ∃ b, b = x_2.heap.size := ⟨_, rfl⟩
   have hb : Below x_2.heap.size x_2 x_3 := by rw [e9]; exact (Below.refl _ _).alloc (Nat.le_refl _) _
   have HFR := Lib.hid (show x_3.heap[FB]? = some (.cells zero11 50 (0, 0)) by rw [e9, h9]; exact heap_alloc_new _ _)
   have LFB := Lib.hid (show FB < x_3.heap.size by rw [e9, h9]; simp)
   have WFB := Lib.hid (show x_2.heap.size = FB from h9.symm)
   have NX := Lib.hid (show SB ≠ FB ∧ CB ≠ FB ∧ b ≠ FB ∧ w.heap.size ≤ FB ∧ v_2.heap.size ≤ FB by have a1 := HS.out.lt; have a3 : CB < x_2.heap.size := World.block_lt_of_cell? (a := ⟨CB, 22, none⟩) _ C22.out; have a4 := HK1.out.lt; have a5 := HB.out.size; have a6 := HB2.out.size; omega)
   unfold zero11 at e9; rw [← e9, ← h9]
   clear e9 h9
   have HK1 := Lib.hid (NumO.later hb HK1.out)
   have HB := Lib.hid (below_later HB.out hb)
   have C22 := Lib.hid (cell_on C22.out hb)
   have HB2 := Lib.hid (below_later HB2.out hb)
   have HS := Lib.hid (HS.out.later hb)
   clear hb
   refine hK.out _ _ (⟨HS.out, C22.out, HK1.out⟩) (fun hHeld => ?_)
   clear hK K
   try simp only [Act.put, pa, pb, pc]
   refine WT.step rfl (fun K hK => ?_)
   refine step_store_row (by kernel_rfl) _ _ _ rfl FB _ zero11 _ HFR.out (by kernel_rfl) (by kernel_rfl) (by rw [info_fr]; rfl) rfl (by simp [Value.oneCell', zero11]) ?_
   obtain ⟨x_4, e9⟩ : ∃ y9, y9 = x_3.setRow FB zero11 := ⟨_, rfl⟩
   have hgs : x_3.grownBy x_4 (some FB) := by rw [e9]; exact grown_setRow _ _ _
   have hr9 : x_4.heap[FB]? = some (.cells zero11 50 (0, 0)) := by rw [e9]; exact setRow_heap _ _ _ _ _ _ HFR.out
   have HFR := Lib.hid hr9
   rw [← e9]
   clear e9 hr9
   have HS := Lib.hid (HS.out.keep hgs (fun e => NX.out.1 (by injection e)))
   have C22 := Lib.hid (cell_keepR C22.out hgs (fun e => NX.out.2.1 (by injection e)))
   have HK1 := Lib.hid (show NumO x_4 b (o + jx * 8) x1 from fun j9 hj9 => hgs.cell (HK1.out j9 hj9) (fun e => NX.out.2.2.1 (by injection e)))
   have HB := Lib.hid (HB.out.grown hgs HB.out.size (fun q9 hq9 => by injection hq9 with hq9; have := NX.out.2.2.2.1; omega))
   have HB2 := Lib.hid (HB2.out.grown hgs HB2.out.size (fun q9 hq9 => by injection hq9 with hq9; have := NX.out.2.2.2.2; omega))
   clear hgs
   refine hK.out _ _ (⟨HS.out, C22.out, HK1.out⟩) (fun hHeld => ?_)
   clear hK K
   try simp only [Act.put, pa, pb, pc]
   refine WT.take (v := ?_) rfl (Or.inl ⟨by rfl, ?_⟩) ?_
   rotate_left
   ·intro w8 hSw
    (try dsimp only at hSw)
    go_simp
    any_goals with_reducible rfl
   try simp only [Act.put, pa, pb, pc]
   refine WT.done ?_
   clear hHeld
   go_wp2_with fail
   refine (Lv.lives_any _).mono ?_
   rintro _ y_1 ⟨rfl, hb⟩
   have HB := Lib.hid (below_later HB.out hb)
   clear hb
   go_wp2_with fail
   go_ret
   exact ⟨rfl, HB.out⟩
  ·go_simp
   obtain ⟨x_2, e9⟩ : ∃ w9, w9 = x_1.alloc (.cells zero11 50) := ⟨_, rfl⟩
   obtain ⟨FB, h9⟩ : ∃ b, b = x_1.heap.size := ⟨_, rfl⟩
   have hb : Below x_1.heap.size x_1 x_2 := by rw [e9]; exact (Below.refl _ _).alloc (Nat.le_refl _) _
   have HFR := Lib.hid (show x_2.heap[FB]? = some (.cells zero11 50 (0, 0)) by rw [e9, h9]; exact heap_alloc_new _ _)
   have LFB := Lib.hid (show FB < x_2.heap.size by rw [e9, h9]; simp)
   have WFB := Lib.hid (show x_1.heap.size = FB from h9.symm)
   have NX := Lib.hid (show SB ≠ FB ∧ CB ≠ FB ∧ b ≠ FB ∧ w.heap.size ≤ FB ∧ v_2.heap.size ≤ FB by have a1 := HS.out.lt; have a3 : CB < x_1.heap.size := World.block_lt_of_cell? (a := ⟨CB, 22, none⟩) _ C22.out; have a4 := HK1.out.lt; have a5 := HB.out.size; have a6 := HB2.out.size; omega)
   unfold zero11 at e9; rw [← e9, ← h9]
   clear e9 h9
   have HK1 := Lib.hid (NumO.later hb HK1.out)
   have HB := Lib.hid (below_later HB.out hb)
   have C22 := Lib.hid (cell_on C22.out hb)
   have HB2 := Lib.hid (below_later HB2.out hb)
   have HS := Lib.hid (HS.out.later hb)
   clear hb
   refine hK.out _ _ (⟨HS.out, C22.out, HK1.out⟩) (fun hHeld => ?_)
   clear hK K
   try simp only [Act.put, pa, pb, pc]
   refine WT.step rfl (fun K hK => ?_)
   go_simp
   refine (CS.out _ (HNK.out.later HB2.out) (KB.out.later HB.out)).mono ?_
   rintro _ x_3 ⟨rfl, hb⟩
   have HK1 := Lib.hid (NumO.later hb HK1.out)
   have HB := Lib.hid (below_later HB.out hb)
   have C22 := Lib.hid (cell_on C22.out hb)
   have HB2 := Lib.hid (below_later HB2.out hb)
   have HS := Lib.hid (HS.out.later hb)
   have HFR := Lib.hid ((hb.block _ (Array.getElem?_eq_some_iff.1 HFR.out).1).trans HFR.out)
   have LFB := Lib.hid (Nat.lt_of_lt_of_le LFB.out hb.size)
   clear hb
   refine hK.out _ _ (⟨HS.out, C22.out, HK1.out⟩) (fun hHeld => ?_)
   clear hK K
   try simp only [Act.put, pa, pb, pc]
   refine WT.take (v := ?_) rfl (Or.inl ⟨by rfl, ?_⟩) ?_
   rotate_left
   ·intro w8 hSw
    (try dsimp only at hSw)
    go_simp
    any_goals with_reducible rfl
   try simp only [Act.put, pa, pb, pc]
   refine WT.take (v := ?_) rfl (Or.inl ⟨by rfl, ?_⟩) ?_
   rotate_left
   ·intro w8 hSw
    (try dsimp only at hSw)
    go_simp
    any_goals with_reducible rfl
   try simp only [Act.put, pa, pb, pc]
   refine WT.take (v := ?_) rfl (Or.inl ⟨by rfl, ?_⟩) ?_
   rotate_left
   ·intro w8 hSw
    (try dsimp only at hSw)
    go_simp
    any_goals with_reducible rfl
   try simp only [Act.put, pa, pb, pc]
   refine WT.step rfl (fun K hK => ?_)
   refine step_store_row (by kernel_rfl) _ _ _ rfl FB _ zero11 _ HFR.out (by kernel_rfl) (by kernel_rfl) (by rw [info_fr]; rfl) rfl (by simp [Value.oneCell', zero11]) ?_
   obtain ⟨x_4, e9⟩ : ∃ y9, y9 = x_3.setRow FB zero11 := ⟨_, rfl⟩
   have hgs : x_3.grownBy x_4 (some FB) := by rw [e9]; exact grown_setRow _ _ _
   have hr9 : x_4.heap[FB]? = some (.cells zero11 50 (0, 0)) := by rw [e9]; exact setRow_heap _ _ _ _ _ _ HFR.out
   have HFR := Lib.hid hr9
   rw [← e9]
   clear e9 hr9
   have HS := Lib.hid (HS.out.keep hgs (fun e => NX.out.1 (by injection e)))
   have C22 := Lib.hid (cell_keepR C22.out hgs (fun e => NX.out.2.1 (by injection e)))
   have HK1 := Lib.hid (show NumO x_4 b (o + jx * 8) x1 from fun j9 hj9 => hgs.cell (HK1.out j9 hj9) (fun e => NX.out.2.2.1 (by injection e)))
   have HB := Lib.hid (HB.out.grown hgs HB.out.size (fun q9 hq9 => by injection hq9 with hq9; have := NX.out.2.2.2.1; omega))
   have HB2 := Lib.hid (HB2.out.grown hgs HB2.out.size (fun q9 hq9 => by injection hq9 with hq9; have := NX.out.2.2.2.2; omega))
   clear hgs
   refine hK.out _ _ (⟨HS.out, C22.out, HK1.out⟩) (fun hHeld => ?_)
   clear hK K
   try simp only [Act.put, pa, pb, pc]
   refine WT.take (v := ?_) rfl (Or.inl ⟨by rfl, ?_⟩) ?_
   rotate_left
   ·intro w8 hSw
    (try dsimp only at hSw)
    go_simp
    any_goals with_reducible rfl
   try simp only [Act.put, pa, pb, pc]
   refine WT.done ?_
   clear hHeld
   go_wp2_with fail
   refine (Lv.lives_any _).mono ?_
   rintro _ y_1 ⟨rfl, hb⟩
   have HB := Lib.hid (below_later HB.out hb)
   clear hb
   go_wp2_with fail
   go_ret
   exact ⟨rfl, HB.out⟩
 have HXY := Lib.hid hxy
 have HKF := Lib.hid (set_facts HOK.out)
 have HPK := Lib.hid (pass_key HKF.out.1 HKF.out.2 HSET.out.prime.2.2.2.2.1.1 (HSET.out.keys _ (List.mem_of_getElem? HKI.out)).1 (HSET.out.keys _ (List.mem_of_getElem? HKI.out)).2.2.1)
 obtain ⟨C, hC⟩ : ∃ C, C = signC p q g x1 (drawD q x1 (frameH x y bl)) (frameH x y bl) := ⟨_, rfl⟩
 obtain ⟨G, hG⟩ : ∃ G, G = signS p q g x1 (drawD q x1 (frameH x y bl)) (frameH x y bl) := ⟨_, rfl⟩
 have hsig := pass_sig (x := x1) (d := drawD q x1 (frameH x y bl)) (h := frameH x y bl) HKF.out.1 HSET.out.prime.2.1
 rw [← hC, ← hG] at hsig
 have hCq : C < q := by rw [hC]; unfold signC challenge numberN; exact Nat.mod_lt _ (by have := HSET.out.prime.2.1; omega)
 have hGq : G < q := by rw [hG]; unfold signS; exact Nat.mod_lt _ (by have := HSET.out.prime.2.1; omega)
 have hends : endsB n9 x y = true := ends_yes (by have := HXx.out; omega) (by have := HXy.out; omega) (by have := HXx.out; have := HJx.out; omega) (by have := HXy.out; have := HJy.out; omega) hxy
 have hki : ks[jx]? = some (g ^ x1 % p, (g ^ lg % p) ^ x2 % p) := by rw [HKS.out, List.getElem?_map, HKI.out]; rfl
 have CS := Lib.hid (fun (W : World) (hk9 : KeysAt W nb no ks) (hb9 : KAt .u8 W (.slice ab m cb) bl) => by
  have h9 := Seal_good (fr := x) (tt := y) (cap := c9) (secret := x1) HKX.out HGQ.out HGP.out HGG.out HH2.out HNL.out HFA.out HSE.out HSET.out.le HOK.out (by have := HJx.out; have := HSET.out.le; have := HXx.out; omega) (by have := HJy.out; have := HSET.out.le; have := HXy.out; omega) hends HBY.out (by have := HM.out; have := HM3.out; omega) HSET.out.may HSET.out.prime.2.1 (HSET.out.keys _ (List.mem_of_getElem? HKI.out)).1 (HSET.out.keys _ (List.mem_of_getElem? HKI.out)).2.2.1 W (fun _ => ⟨nb, no, rfl, hk9⟩) hb9
  rewrite [← hC, ← hG, ← HM.out] at h9
  unfold setV frameV numV words at h9
  exact h9)
 have COK := Lib.hid (fun (W : World) (a2 : Option Addr) (c2 : Nat) (hk9 : KeysAt W nb no ks) (hb9 : KAt .u8 W (.slice a2 m c2) bl) => by
  have h9 := LCheck_ok (fr := x) (tt := y) (cap := c9) (t := y) (ks := ks) HKX.out HGQ.out HGP.out HGG.out HH2.out HNL.out HFA.out HSE.out HSET.out.le HOK.out (by have := HJx.out; have := HSET.out.le; have := HXx.out; omega) (by have := HJy.out; have := HSET.out.le; have := HXy.out; omega) hends rfl HXx.out hki HBY.out (by have := HM.out; have := HM3.out; omega) HSET.out.may HSET.out.prime.2.1 HPK.out.1 HPK.out.2 hCq hGq hsig W (fun _ => ⟨nb, no, rfl, hk9⟩) hb9
  unfold setV frameV at h9
  exact h9)
 have CTO := Lib.hid (fun (W : World) (a2 : Option Addr) (c2 t : Nat) (ht : t < 256) (hne : y ≠ t) (hk9 : KeysAt W nb no ks) => by
  have h9 := LCheck_to (fr := x) (tt := y) (cap := c9) (t := t) (ks := ks) (ab := a2) (cb := c2) (m := m) (c := C) (s := G) HKX.out HGQ.out HGP.out HGG.out HH2.out HNL.out HFA.out HSE.out HSET.out.le HOK.out (by have := HJx.out; have := HSET.out.le; have := HXx.out; omega) (by have := HJy.out; have := HSET.out.le; have := HXy.out; omega) hends ht hne W (fun _ => ⟨nb, no, rfl, hk9⟩)
  unfold setV frameV at h9
  exact h9)
 have CEN := Lib.hid (fun (W : World) (a2 : Option Addr) (c2 : Nat) (hk9 : KeysAt W nb no ks) => by
  have h9 := LCheck_ends (cap := c9) (t := x) (fr := x) (tt := x) (ks := ks) (ab := a2) (cb := c2) (m := m) (c := C) (s := G) HKX.out HGQ.out HGP.out HGG.out HH2.out HNL.out HFA.out HSE.out HSET.out.le HOK.out (by have := HJx.out; have := HSET.out.le; have := HXx.out; omega) (by have := HJx.out; have := HSET.out.le; have := HXx.out; omega) ends_same W (fun _ => ⟨nb, no, rfl, hk9⟩)
  unfold setV frameV at h9
  exact h9)
 have hxyI : ((x : Int) == (y : Int)) = false := by simp; omega
 clear hxy hC hG hsig hCq hGq hends hki
 refine wp_region_tree (.take 0 (.take 1 (.take 2 (.take 3 (.take 4 (.take 5 (.take 6 (.take 7 (.take 8 (.take 9 (.take 10 (.take 11 (.take 12 (.fork 13 (.take 14 (.take 15 (.take 16 (.step 17 (.step 18 (.take 19 .done)))))) 17 (.step 13 (.take 14 (.take 15 (.take 16 (.step 18 (.take 19 .done)))))))))))))))))))) (fun w8 => SAt w8 SB p q g h2 f9 s9 (.slice (some ⟨nb, no, none⟩) n9 c9) ∧ w8.cell? ⟨CB, 22, none⟩ = some (.slice (some ⟨b, o, none⟩) n9 cap) ∧ NumO w8 b (o + jx * 8) x1) (by kernel_rfl) (by kernel_rfl) (fun _ _ _ _ _ h => h) (⟨HS.out.later ((Below.refl _ _).drew), cell_on C22.out ((Below.refl _ _).drew), NumO.later ((Below.refl _ _).drew) HK1.out⟩) (fun hHeld => ?_)
 obtain ⟨x_1, e1⟩ : ∃ y9, y9 = v_3.drew := ⟨_, rfl⟩
 rw [← e1]
 have hb : Below v_3.heap.size v_3 x_1 := by rw [e1]; exact (Below.refl _ _).drew
 have HK1 := Lib.hid (NumO.later hb HK1.out)
 have HB := Lib.hid (below_later HB.out hb)
 have C22 := Lib.hid (cell_on C22.out hb)
 have HB2 := Lib.hid (below_later HB2.out hb)
 have HS := Lib.hid (HS.out.later hb)
 clear hb e1
 refine WT.take rfl (Or.inl ⟨by rfl, fun w8 hSw => run_value_of (loadS9 hSw.1)⟩) ?_
 try simp only [Act.put, pa, pb, pc]
 refine WT.take (v := ?_) rfl (Or.inl ⟨by rfl, ?_⟩) ?_
 rotate_left
 ·intro w8 hSw
  (try dsimp only at hSw)
  go_simp
  any_goals with_reducible rfl
 try simp only [Act.put, pa, pb, pc]
 refine WT.take (v := .int .u8 x) rfl (Or.inl ⟨by rfl, fun w8 hSw => by have e9 := HUx.out; simp [go_sem, e9]⟩) ?_
 try simp only [Act.put, pa, pb, pc]
 refine WT.take (v := ?_) rfl (Or.inl ⟨by rfl, ?_⟩) ?_
 rotate_left
 ·intro w8 hSw
  (try dsimp only at hSw)
  go_simp
  any_goals with_reducible rfl
 try simp only [Act.put, pa, pb, pc]
 refine WT.take (v := .int .u8 y) rfl (Or.inl ⟨by rfl, fun w8 hSw => by have e9 := HUy.out; simp [go_sem, e9]⟩) ?_
 try simp only [Act.put, pa, pb, pc]
 refine WT.take (v := ?_) rfl (Or.inl ⟨by rfl, ?_⟩) ?_
 rotate_left
 ·intro w8 hSw
  (try dsimp only at hSw)
  go_simp
  any_goals with_reducible rfl
 try simp only [Act.put, pa, pb, pc]
 refine WT.take (v := ?_) rfl (Or.inl ⟨by rfl, ?_⟩) ?_
 rotate_left
 ·intro w8 hSw
  (try dsimp only at hSw)
  go_simp
  any_goals with_reducible rfl
 try simp only [Act.put, pa, pb, pc]
 refine WT.take (v := .slice (some ⟨b, o, none⟩) n9 cap) rfl (Or.inl ⟨by rfl, fun w8 hSw => run_value_of (loadSl hSw.2.1)⟩) ?_
 try simp only [Act.put, pa, pb, pc]
 refine WT.take (v := ?_) rfl (Or.inl ⟨by rfl, ?_⟩) ?_
 rotate_left
 ·intro w8 hSw
  (try dsimp only at hSw)
  go_simp
  any_goals with_reducible rfl
 try simp only [Act.put, pa, pb, pc]
 refine WT.take (v := .int .i64 jx) rfl (Or.inl ⟨by rfl, fun w8 hSw => by have e9 := HBx.out; simp [go_sem, e9]⟩) ?_
 try simp only [Act.put, pa, pb, pc]
 refine WT.take (v := .pointer (some ⟨b, o + jx * 8, none⟩)) rfl (Or.inl ⟨by rfl, fun w8 hSw => by simp [go_sem, hjI]⟩) ?_
 try simp only [Act.put, pa, pb, pc]
 refine WT.take (v := .pointer (some ⟨b, o + jx * 8, none⟩)) rfl (Or.inl ⟨by rfl, fun w8 hSw => by simp [go_sem]⟩) ?_
 try simp only [Act.put, pa, pb, pc]
 refine WT.take rfl (Or.inl ⟨by rfl, fun w8 hSw => run_value_of (loadNo hSw.2.2)⟩) ?_
 try simp only [Act.put, pa, pb, pc]
 refine WT.fork rfl rfl (fun K hK => ?_) (fun K hK => ?_)
 rotate_left
 focus
   go_simp
   obtain ⟨x_2, e9⟩ : ∃ w9, w9 = x_1.alloc (.cells zero11 50) := ⟨_, rfl⟩
   obtain ⟨FB, h9⟩ : ∃ b, b = x_1.heap.size := ⟨_, rfl⟩
   have hb : Below x_1.heap.size x_1 x_2 := by rw [e9]; exact (Below.refl _ _).alloc (Nat.le_refl _) _
   have HFR := Lib.hid (show x_2.heap[FB]? = some (.cells zero11 50 (0, 0)) by rw [e9, h9]; exact heap_alloc_new _ _)
   have LFB := Lib.hid (show FB < x_2.heap.size by rw [e9, h9]; simp)
   have WFB := Lib.hid (show x_1.heap.size = FB from h9.symm)
   have NX := Lib.hid (show SB ≠ FB ∧ CB ≠ FB ∧ b ≠ FB ∧ w.heap.size ≤ FB ∧ v_2.heap.size ≤ FB by have a1 := HS.out.lt; have a3 : CB < x_1.heap.size := World.block_lt_of_cell? (a := ⟨CB, 22, none⟩) _ C22.out; have a4 := HK1.out.lt; have a5 := HB.out.size; have a6 := HB2.out.size; omega)
   unfold zero11 at e9; rw [← e9, ← h9]
   clear e9 h9
   have HK1 := Lib.hid (NumO.later hb HK1.out)
   have HB := Lib.hid (below_later HB.out hb)
   have C22 := Lib.hid (cell_on C22.out hb)
   have HB2 := Lib.hid (below_later HB2.out hb)
   have HS := Lib.hid (HS.out.later hb)
   clear hb
   refine hK.out _ _ (⟨HS.out, C22.out, HK1.out⟩) (fun hHeld => ?_)
   clear hK K
   try simp only [Act.put, pa, pb, pc]
   refine WT.step rfl (fun K hK => ?_)
   go_simp
   refine (CS.out _ (HNK.out.later HB2.out) (KB.out.later HB.out)).mono ?_
   rintro _ x_3 ⟨a2, c2, rfl, ho2, hb⟩
   have HOF := Lib.hid ho2
   have HNF := Lib.hid (show (Value.slice a2 m c2).ownBlock ≠ some FB from fun e => by have h7 := (OwnV.lt ho2 _ e).1; have h8 := LFB.out; omega)
   have HK1 := Lib.hid (NumO.later hb HK1.out)
   have HB := Lib.hid (below_later HB.out hb)
   have C22 := Lib.hid (cell_on C22.out hb)
   have HB2 := Lib.hid (below_later HB2.out hb)
   have HS := Lib.hid (HS.out.later hb)
   have HFR := Lib.hid ((hb.block _ (Array.getElem?_eq_some_iff.1 HFR.out).1).trans HFR.out)
   have LFB := Lib.hid (Nat.lt_of_lt_of_le LFB.out hb.size)
   clear hb
   clear ho2
   refine hK.out _ _ (⟨HS.out, C22.out, HK1.out⟩) (fun hHeld => ?_)
   clear hK K
   try simp only [Act.put, pa, pb, pc]
   refine WT.take (v := ?_) rfl (Or.inl ⟨by rfl, ?_⟩) ?_
   rotate_left
   ·intro w8 hSw
    (try dsimp only at hSw)
    go_simp
    any_goals with_reducible rfl
   try simp only [Act.put, pa, pb, pc]
   refine WT.take (v := ?_) rfl (Or.inl ⟨by rfl, ?_⟩) ?_
   rotate_left
   ·intro w8 hSw
    (try dsimp only at hSw)
    go_simp
    any_goals with_reducible rfl
   try simp only [Act.put, pa, pb, pc]
   refine WT.take (v := ?_) rfl (Or.inl ⟨by rfl, ?_⟩) ?_
   rotate_left
   ·intro w8 hSw
    (try dsimp only at hSw)
    go_simp
    any_goals with_reducible rfl
   try simp only [Act.put, pa, pb, pc]
   refine WT.step rfl (fun K hK => ?_)
   refine step_store_row (by kernel_rfl) _ _ _ rfl FB _ #[.int .u8 x, .int .u8 y, .slice a2 m c2, .int .u64 (dgt W64 C 0), .int .u64 (dgt W64 C 1), .int .u64 (dgt W64 C 2), .int .u64 (dgt W64 C 3), .int .u64 (dgt W64 G 0), .int .u64 (dgt W64 G 1), .int .u64 (dgt W64 G 2), .int .u64 (dgt W64 G 3)] _ HFR.out (by kernel_rfl) (by kernel_rfl) (by rw [info_fr]; rfl) rfl (by simp [Value.oneCell', zero11]) ?_
   obtain ⟨x_4, e9⟩ : ∃ y9, y9 = x_3.setRow FB #[.int .u8 x, .int .u8 y, .slice a2 m c2, .int .u64 (dgt W64 C 0), .int .u64 (dgt W64 C 1), .int .u64 (dgt W64 C 2), .int .u64 (dgt W64 C 3), .int .u64 (dgt W64 G 0), .int .u64 (dgt W64 G 1), .int .u64 (dgt W64 G 2), .int .u64 (dgt W64 G 3)] := ⟨_, rfl⟩
   have hgs : x_3.grownBy x_4 (some FB) := by rw [e9]; exact grown_setRow _ _ _
   have hr9 : x_4.heap[FB]? = some (.cells #[.int .u8 x, .int .u8 y, .slice a2 m c2, .int .u64 (dgt W64 C 0), .int .u64 (dgt W64 C 1), .int .u64 (dgt W64 C 2), .int .u64 (dgt W64 C 3), .int .u64 (dgt W64 G 0), .int .u64 (dgt W64 G 1), .int .u64 (dgt W64 G 2), .int .u64 (dgt W64 G 3)] 50 (0, 0)) := by rw [e9]; exact setRow_heap _ _ _ _ _ _ HFR.out
   have HFR := Lib.hid hr9
   rw [← e9]
   clear e9 hr9
   have HS := Lib.hid (HS.out.keep hgs (fun e => NX.out.1 (by injection e)))
   have C22 := Lib.hid (cell_keepR C22.out hgs (fun e => NX.out.2.1 (by injection e)))
   have HK1 := Lib.hid (show NumO x_4 b (o + jx * 8) x1 from fun j9 hj9 => hgs.cell (HK1.out j9 hj9) (fun e => NX.out.2.2.1 (by injection e)))
   have HB := Lib.hid (HB.out.grown hgs HB.out.size (fun q9 hq9 => by injection hq9 with hq9; have := NX.out.2.2.2.1; omega))
   have HB2 := Lib.hid (HB2.out.grown hgs HB2.out.size (fun q9 hq9 => by injection hq9 with hq9; have := NX.out.2.2.2.2; omega))
   have HOF := Lib.hid (show Own x_4 _ (.slice a2 m c2) bl from HOF.out.kept hgs (.inr HNF.out))
   clear hgs
   refine hK.out _ _ (⟨HS.out, C22.out, HK1.out⟩) (fun hHeld => ?_)
   clear hK K
   try simp only [Act.put, pa, pb, pc]
   refine WT.take (v := ?_) rfl (Or.inl ⟨by rfl, ?_⟩) ?_
   rotate_left
   ·intro w8 hSw
    (try dsimp only at hSw)
    go_simp
    any_goals with_reducible rfl
   try simp only [Act.put, pa, pb, pc]
   refine WT.done ?_
 rotate_left
 focus
   go_simp
   refine (CS.out _ (HNK.out.later HB2.out) (KB.out.later HB.out)).mono ?_
   rintro _ x_2 ⟨a2, c2, rfl, ho2, hb⟩
   have HOF := Lib.hid ho2
   have HK1 := Lib.hid (NumO.later hb HK1.out)
   have HB := Lib.hid (below_later HB.out hb)
   have C22 := Lib.hid (cell_on C22.out hb)
   have HB2 := Lib.hid (below_later HB2.out hb)
   have HS := Lib.hid (HS.out.later hb)
   clear hb
   clear ho2
   refine hK.out _ _ (⟨HS.out, C22.out, HK1.out⟩) (fun hHeld => ?_)
   clear hK K
   try simp only [Act.put, pa, pb, pc]
   refine WT.take (v := ?_) rfl (Or.inl ⟨by rfl, ?_⟩) ?_
   rotate_left
   ·intro w8 hSw
    (try dsimp only at hSw)
    go_simp
    any_goals with_reducible rfl
   try simp only [Act.put, pa, pb, pc]
   refine WT.take (v := ?_) rfl (Or.inl ⟨by rfl, ?_⟩) ?_
   rotate_left
   ·intro w8 hSw
    (try dsimp only at hSw)
    go_simp
    any_goals with_reducible rfl
   try simp only [Act.put, pa, pb, pc]
   refine WT.take (v := ?_) rfl (Or.inl ⟨by rfl, ?_⟩) ?_
   rotate_left
   ·intro w8 hSw
    (try dsimp only at hSw)
    go_simp
    any_goals with_reducible rfl
   try simp only [Act.put, pa, pb, pc]
   refine WT.step rfl (fun K hK => ?_)
   go_simp
   obtain ⟨x_3, e9⟩ : ∃ w9, w9 = x_2.alloc (.cells zero11 50) := ⟨_, rfl⟩
   obtain ⟨FB, h9⟩ : ∃ b, b = x_2.heap.size := ⟨_, rfl⟩
   have hb : Below x_2.heap.size x_2 x_3 := by rw [e9]; exact (Below.refl _ _).alloc (Nat.le_refl _) _
   have HFR := Lib.hid (show x_3.heap[FB]? = some (.cells zero11 50 (0, 0)) by rw [e9, h9]; exact heap_alloc_new _ _)
   have LFB := Lib.hid (show FB < x_3.heap.size by rw [e9, h9]; simp)
   have WFB := Lib.hid (show x_2.heap.size = FB from h9.symm)
   have NX := Lib.hid (show SB ≠ FB ∧ CB ≠ FB ∧ b ≠ FB ∧ w.heap.size ≤ FB ∧ v_2.heap.size ≤ FB by have a1 := HS.out.lt; have a3 : CB < x_2.heap.size := World.block_lt_of_cell? (a := ⟨CB, 22, none⟩) _ C22.out; have a4 := HK1.out.lt; have a5 := HB.out.size; have a6 := HB2.out.size; omega)
   have HNF := Lib.hid (show (Value.slice a2 m c2).ownBlock ≠ some FB from fun e => by have h7 := (OwnV.lt HOF.out _ e).2; omega)
   unfold zero11 at e9; rw [← e9, ← h9]
   clear e9 h9
   have HK1 := Lib.hid (NumO.later hb HK1.out)
   have HB := Lib.hid (below_later HB.out hb)
   have C22 := Lib.hid (cell_on C22.out hb)
   have HB2 := Lib.hid (below_later HB2.out hb)
   have HS := Lib.hid (HS.out.later hb)
   have HOF := Lib.hid (HOF.out.later hb)
   clear hb
   refine hK.out _ _ (⟨HS.out, C22.out, HK1.out⟩) (fun hHeld => ?_)
   clear hK K
   try simp only [Act.put, pa, pb, pc]
   refine WT.step rfl (fun K hK => ?_)
   refine step_store_row (by kernel_rfl) _ _ _ rfl FB _ #[.int .u8 x, .int .u8 y, .slice a2 m c2, .int .u64 (dgt W64 C 0), .int .u64 (dgt W64 C 1), .int .u64 (dgt W64 C 2), .int .u64 (dgt W64 C 3), .int .u64 (dgt W64 G 0), .int .u64 (dgt W64 G 1), .int .u64 (dgt W64 G 2), .int .u64 (dgt W64 G 3)] _ HFR.out (by kernel_rfl) (by kernel_rfl) (by rw [info_fr]; rfl) rfl (by simp [Value.oneCell', zero11]) ?_
   obtain ⟨x_4, e9⟩ : ∃ y9, y9 = x_3.setRow FB #[.int .u8 x, .int .u8 y, .slice a2 m c2, .int .u64 (dgt W64 C 0), .int .u64 (dgt W64 C 1), .int .u64 (dgt W64 C 2), .int .u64 (dgt W64 C 3), .int .u64 (dgt W64 G 0), .int .u64 (dgt W64 G 1), .int .u64 (dgt W64 G 2), .int .u64 (dgt W64 G 3)] := ⟨_, rfl⟩
   have hgs : x_3.grownBy x_4 (some FB) := by rw [e9]; exact grown_setRow _ _ _
   have hr9 : x_4.heap[FB]? = some (.cells #[.int .u8 x, .int .u8 y, .slice a2 m c2, .int .u64 (dgt W64 C 0), .int .u64 (dgt W64 C 1), .int .u64 (dgt W64 C 2), .int .u64 (dgt W64 C 3), .int .u64 (dgt W64 G 0), .int .u64 (dgt W64 G 1), .int .u64 (dgt W64 G 2), .int .u64 (dgt W64 G 3)] 50 (0, 0)) := by rw [e9]; exact setRow_heap _ _ _ _ _ _ HFR.out
   have HFR := Lib.hid hr9
   rw [← e9]
   clear e9 hr9
   have HS := Lib.hid (HS.out.keep hgs (fun e => NX.out.1 (by injection e)))
   have C22 := Lib.hid (cell_keepR C22.out hgs (fun e => NX.out.2.1 (by injection e)))
   have HK1 := Lib.hid (show NumO x_4 b (o + jx * 8) x1 from fun j9 hj9 => hgs.cell (HK1.out j9 hj9) (fun e => NX.out.2.2.1 (by injection e)))
   have HB := Lib.hid (HB.out.grown hgs HB.out.size (fun q9 hq9 => by injection hq9 with hq9; have := NX.out.2.2.2.1; omega))
   have HB2 := Lib.hid (HB2.out.grown hgs HB2.out.size (fun q9 hq9 => by injection hq9 with hq9; have := NX.out.2.2.2.2; omega))
   have HOF := Lib.hid (show Own x_4 _ (.slice a2 m c2) bl from HOF.out.kept hgs (.inr HNF.out))
   clear hgs
   refine hK.out _ _ (⟨HS.out, C22.out, HK1.out⟩) (fun hHeld => ?_)
   clear hK K
   try simp only [Act.put, pa, pb, pc]
   refine WT.take (v := ?_) rfl (Or.inl ⟨by rfl, ?_⟩) ?_
   rotate_left
   ·intro w8 hSw
    (try dsimp only at hSw)
    go_simp
    any_goals with_reducible rfl
   try simp only [Act.put, pa, pb, pc]
   refine WT.done ?_
 all_goals (
  clear hHeld CS C22 HK1
  have HF := Lib.hid (FrAt.of_row HFR.out)
  clear HFR
  go_upto_region 13 with fail
  refine wp_region_lit ?_
  refine wpList_val (v := .int .i64 0) rfl (by kernel_rfl) ?_
  simp only [Act.put, pa, pb, pc]
  refine wpList_val (v := .bool false) rfl (by kernel_rfl) ?_
  simp only [Act.put, pa, pb, pc]
  refine wpList_val (v := .bool false) rfl (by kernel_rfl) ?_
  simp only [Act.put, pa, pb, pc]
  refine wpList_gval (by kernel_rfl) (run_value_of (loadS9 HS.out)) ?_
  simp only [Act.put, pa, pb, pc]
  refine wpList_gval (by kernel_rfl) (run_value_of (loadFr HF.out)) ?_
  simp only [Act.put, pa, pb, pc]
  refine wpList_gval (v := .int .i64 y) (by kernel_rfl) (by kernel_rfl) ?_
  simp only [Act.put, pa, pb, pc]
  refine wpList_gval (v := .int .u8 y) (by kernel_rfl) (by have e9 := HUy.out; simp [go_sem, e9]) ?_
  simp only [Act.put, pa, pb, pc]
  go_wp2_with fail
  refine (COK.out _ a2 c2 (HNK.out.later HB2.out) HOF.out.at_).mono ?_
  rintro _ z_1 ⟨rfl, hb⟩
  have HS := Lib.hid (HS.out.later hb)
  have HB := Lib.hid (below_later HB.out hb)
  have HB2 := Lib.hid (below_later HB2.out hb)
  have HOF := Lib.hid (HOF.out.later hb)
  have HF := Lib.hid (HF.out.later hb)
  clear hb
  go_wp2_with fail
  go_loopw [13] (fun i wr => ∃ k : Nat, k ≤ n9 + 2 ∧ i = .int .i64 k ∧ Hid (Below z_1.heap.size z_1 wr)) (fun i _ => n9 + 2 - (intOf i).toNat)
  case atStart => exact ⟨0, Nat.zero_le _, rfl, Lib.hid (Below.refl _ _)⟩
  case round =>
   obtain ⟨k, hk, rfl, HZ⟩ := hrel
   have HS := Lib.hid (HS.out.later HZ.out)
   have HF := Lib.hid (HF.out.later HZ.out)
   have HOF := Lib.hid (HOF.out.later HZ.out)
   have HB := Lib.hid (below_later HB.out HZ.out)
   have HB2 := Lib.hid (below_later HB2.out HZ.out)
   have h7 := HSET.out.le
   have HA1 := Lib.hid (show IntKind.i64.wrap ((n9 : Int) + 1) = (n9 : Int) + 1 by simp [IntKind.wrap, IntKind.bits, IntKind.signed]; omega)
   have HK8 := Lib.hid (show IntKind.u8.wrap (k : Int) = (k : Int) by simp [IntKind.wrap, IntKind.bits, IntKind.signed]; omega)
   have HKN := Lib.hid hk
   by_cases hlt : k < n9 + 2
   ·have HLT := Lib.hid hlt
    have hkI : (k : Int) ≤ (n9 : Int) + 1 := by omega
    have hk9 : (k : Int) ≤ 8 := by omega
    have y18 := HS.out.nd
    by_cases hky : k = y
    ·have kI : ((k : Int) != (y : Int)) = false := by simp; omega
     clear hky hlt hk
     go_wp2_with fail
     clear y18
     go_roundw
     case rel => exact ⟨k + 1, HLT.out, by go_num, HZ⟩
     case measure => simp [intOf]; have := HLT.out; omega
    have kI : ((k : Int) != (y : Int)) = true := by simp; omega
    have HKY := Lib.hid (show y ≠ k by omega)
    have HK256 := Lib.hid (show k < 256 by omega)
    clear hky hlt hk
    go_upto_region 18 with fail
    clear y18
    refine wp_region_lit ?_
    refine wpList_val (v := .int .i64 k) rfl (by kernel_rfl) ?_
    simp only [Act.put, pa, pb, pc]
    refine wpList_val (v := .int .i64 y) rfl (by kernel_rfl) ?_
    simp only [Act.put, pa, pb, pc]
    refine wpList_val (v := .bool true) rfl (by simp [go_sem, kI]) ?_
    simp only [Act.put, pa, pb, pc]
    refine wpList_val (v := .bool true) rfl (by kernel_rfl) ?_
    simp only [Act.put, pa, pb, pc]
    refine wpList_gval (by kernel_rfl) (run_value_of (loadS9 HS.out)) ?_
    simp only [Act.put, pa, pb, pc]
    refine wpList_gval (by kernel_rfl) (run_value_of (loadFr HF.out)) ?_
    simp only [Act.put, pa, pb, pc]
    refine wpList_gval (v := .int .i64 k) (by kernel_rfl) (by kernel_rfl) ?_
    simp only [Act.put, pa, pb, pc]
    refine wpList_gval (v := .int .u8 k) (by kernel_rfl) (by have e9 := HK8.out; simp [go_sem, e9]) ?_
    simp only [Act.put, pa, pb, pc]
    go_wp2_with fail
    refine (CTO.out _ a2 c2 k HK256.out HKY.out (HNK.out.later HB2.out)).mono ?_
    rintro _ z_2 ⟨rfl, hb⟩
    have HZ := Lib.hid (below_later HZ.out hb)
    clear hb
    go_wp2_with fail
    go_roundw
    case rel => exact ⟨k + 1, HLT.out, by go_num, HZ⟩
    case measure => simp [intOf]; have := HLT.out; omega
   have hkI : ¬ (k : Int) ≤ (n9 : Int) + 1 := by omega
   have y18 := HS.out.nd
   clear hk hlt
   go_upto_region 20 with fail
   clear y18 h7
   have e9 := HUx.out
   have c1 := HF.out.tt
   have d1 := HF.out.free 1 (by decide)
   go_upto_region 21 with fail
   clear e9 c1 d1
   obtain ⟨z_3, e9⟩ : ∃ y9, y9 = wr.setCell ⟨FB, 1, none⟩ (.int .u8 x) := ⟨_, rfl⟩
   have hgs : wr.grownBy z_3 (some FB) := by rw [e9]; exact only_setS (World.grownBy.refl _ _) 1 _
   have HF := Lib.hid (show FrAt z_3 FB x x (.slice a2 m c2) C G by rw [e9]; exact HF.out.setTo x)
   rw [← e9]
   clear e9
   have HS := Lib.hid (HS.out.keep hgs (fun e => NX.out.1 (by injection e)))
   have HB := Lib.hid (HB.out.grown hgs HB.out.size (fun q9 hq9 => by injection hq9 with hq9; have := NX.out.2.2.2.1; omega))
   have HB2 := Lib.hid (HB2.out.grown hgs HB2.out.size (fun q9 hq9 => by injection hq9 with hq9; have := NX.out.2.2.2.2; omega))
   have HOF := Lib.hid (show Own z_3 _ (.slice a2 m c2) bl from HOF.out.kept hgs (.inr HNF.out))
   clear hgs HZ
   refine wp_region_lit ?_
   refine wpList_val rfl (run_value_of (loadS9 HS.out)) ?_
   simp only [Act.put, pa, pb, pc]
   refine wpList_val rfl (run_value_of (loadFr HF.out)) ?_
   simp only [Act.put, pa, pb, pc]
   refine wpList_val (v := .int .i64 x) rfl (by kernel_rfl) ?_
   simp only [Act.put, pa, pb, pc]
   refine wpList_val (v := .int .u8 x) rfl (by have e9 := HUx.out; simp [go_sem, e9]) ?_
   simp only [Act.put, pa, pb, pc]
   go_wp2_with fail
   refine (CEN.out _ a2 c2 (HNK.out.later HB2.out)).mono ?_
   rintro _ z_4 ⟨rfl, hb⟩
   have HS := Lib.hid (HS.out.later hb)
   have HB := Lib.hid (below_later HB.out hb)
   have HB2 := Lib.hid (below_later HB2.out hb)
   have HOF := Lib.hid (HOF.out.later hb)
   have HF := Lib.hid (HF.out.later hb)
   clear hb
   have KB4 := Lib.hid (KB.out.later HB.out)
   dsimp only
   go_step
   refine wpList_val (v := .bool true) rfl (by kernel_rfl) ?_
   simp only [Act.put, pa, pb, pc]
   refine wpList_val (v := .bool true) rfl (by kernel_rfl) ?_
   simp only [Act.put, pa, pb, pc]
   refine wpList_gval (v := .pointer (some ⟨FB, 2, none⟩)) (by kernel_rfl) (by kernel_rfl) ?_
   simp only [Act.put, pa, pb, pc]
   refine wpList_gval (v := .slice a2 m c2) (by kernel_rfl) (run_value_of (loadBs HF.out.bv)) ?_
   simp only [Act.put, pa, pb, pc]
   refine wpList_gval (v := .string (bstr bl)) (by kernel_rfl) (run_value_of (conv_any HOF.out.at_)) ?_
   simp only [Act.put, pa, pb, pc]
   refine wpList_gval (v := .slice ab m cb) (by kernel_rfl) (by kernel_rfl) ?_
   simp only [Act.put, pa, pb, pc]
   refine wpList_gval (v := .string (bstr bl)) (by kernel_rfl) (run_value_of (conv_any KB4.out)) ?_
   simp only [Act.put, pa, pb, pc]
   refine wpList_gval (v := .bool true) (by kernel_rfl) (by simp [go_sem]) ?_
   simp only [Act.put, pa, pb, pc]
   refine wpList_val (v := .bool true) rfl (by kernel_rfl) ?_
   simp only [Act.put, pa, pb, pc]
   refine wpList_val (v := .bool true) rfl (by kernel_rfl) ?_
   simp only [Act.put, pa, pb, pc]
   go_wp2_with fail
   refine (Lv.lives_any _).mono ?_
   rintro _ z_5 ⟨rfl, hb⟩
   have HB := Lib.hid (below_later HB.out hb)
   clear hb
   go_wp2_with fail
   go_ret
   exact ⟨rfl, HB.out⟩)
end Go.Proofs.Ytpoocnkflmimdaa
