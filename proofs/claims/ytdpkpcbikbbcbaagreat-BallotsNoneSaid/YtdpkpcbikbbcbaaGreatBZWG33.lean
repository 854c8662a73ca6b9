/- Layer 19 (wires) -/
import Derived.Test.YtdpkpcbikbbcbaaGreatBZWG32
import Derived.RangeFuncBox
set_option maxHeartbeats 1500000
set_option maxRecDepth 20000
namespace Go.Proofs.YtdpkpcbikbbcbaaGreat
open Go.ChangeShapes Go.WideShapes Go.ChangeAt Go.RowKit
def WrAt (w : World) (S : Nat) (l : List Nat) : Prop := ∃ v, w.cell? ⟨S, 0, none⟩ = some v ∧ FreeN w S 2 ∧ Own w (S + 1) v l
theorem Zl (W : World) (b c : Nat) (v : Value) : W.grownBy (W.setCell ⟨b, c, none⟩ v) (some b) := ⟨rfl, rfl, rfl, (KeepsWalks.setCell W _ v).size, fun k _ hk => Below.heap_setCell _ _ _ k (fun e => hk (by rw [e]))⟩
theorem below_grown {w w' : World} (h : Below w.heap.size w w') (row : Option Nat) : w.grownBy w' row := ⟨h.os, h.tape, h.output, h.size, fun i hi _ => h.block i hi⟩
theorem Jq {w : World} {base e W n g : Nat} {v : Value} {xs : List Value} (h : OwnV w base e W v n xs) (hg : v.ownBlock = some g) : base ≤ g ∧ g < w.heap.size := by
 obtain ⟨_, h2⟩ := h
 rcases h2 with ⟨rfl, _⟩ | ⟨g', o, cap, cur, rfl, hb, hh, _⟩
 ·cases hg
 ·cases hg
  exact ⟨hb, (Array.getElem?_eq_some_iff.1 hh).1⟩
theorem ZL {S n k : Nat} {l : List Nat} (w : World) (h : WrAt w S l) (hk : k ≤ 8) (hsz : l.length ≤ 100000) :
  Calls Tryz.prog 89 #[.pointer (some ⟨S, 0, none⟩), .int .u64 n, .int .i64 k] w fun e w' => e = .returned (.tuple #[]) ∧ WrAt w' S (l ++ be k n) ∧ w.grownBy w' (some S) := by
 obtain ⟨v, hc, hf, ho⟩ := h; obtain ⟨a0, n0, c0, rfl⟩ := ho.shape; have hlt : S < w.heap.size := World.block_lt_of_cell? (a := ⟨S, 0, none⟩) _ hc; have HP := jh (Put_any w ho.at_ n k (by omega) (by omega) (by omega)); have hm : many (k : Int) = k := by unfold many; omega
 rw [hm] at HP; have hf0 := hf 0 (by decide); have HF := jh hf; have HL := jh hlt; have HC := jh hc; clear ho hf hm hlt
 go_enter Tryz.func89, Tryz.ntmps89
 go_wp2_with (first
  | (go_at_call 113; refine (HP.out).mono ?_; rintro e w1 ⟨v1, rfl, ho, hb⟩; obtain ⟨a1, n1, c1, rfl⟩ := ho.shape; have HO := jh ho; have HB := jh hb; have hc1 := jj HC.out hb; have hf1 := (hb.frozen (p := ⟨S, 0, none⟩) HL.out).trans hf0; clear ho hb))
 go_end0
 have hS : S < w1.heap.size := Nat.lt_of_lt_of_le HL.out HB.out.size; refine ⟨rfl, ⟨_, World.cell?_setCell_same' w1 _ _ (by rw [hc1]; rfl), fun j hj => ?_, OwnV.block (OwnV.base HO.out (Nat.succ_le_of_lt HL.out)) fun g hg => (Zl w1 S 0 _).block g (Jq HO.out hg).2 fun e => ?_⟩, zC (below_grown HB.out _) (Zl _ _ _ _)⟩
 ·rw [World.frozen?_setCell]; exact (HB.out.frozen (p := ⟨S, j, none⟩) HL.out).trans (HF.out j hj)
 ·have h1 := (Jq HO.out hg).1; have h2 := HL.out; injection e with e
  omega
theorem slice_h (g : Nat) (W : World) : (Instr.sliceAt 48 (.pointer (some ⟨g, 0, none⟩)) none none none).run Tryz.prog W = .ok (.slice (some ⟨g, 0, none⟩) 32 32) W := by
 have e1 : Tryz.prog.arrayLen 48 = 32 := by kernel_rfl
 have e2 : Tryz.prog.elem 48 = 5 := by kernel_rfl
 have e3 : (sizeOf (Tryz.prog.elem 48)).run Tryz.prog W = .ok 1 W := by
  rw [e2]
  go_simp
 rw [run_sliceAt_array_all W _ _ (by kernel_rfl), e3]; unfold slicedAt; simp only [e1]
 show Result.ok _ W = _
 rw [if_neg (by omega)]
 simp [Addr.add_lit]
theorem JD {S : Nat} {w w' : World} {row : Option Nat} (h : w.grownBy w' row) (hr : ∀ g, row = some g → S ≤ g) (hS : S ≤ w.heap.size) : Below S w w' :=
 ⟨h.os, h.tape, h.output, h.size, fun k hk => h.block k (Nat.lt_of_lt_of_le hk hS) fun e => by have := hr k e.symm; omega⟩
theorem whash_any {S : Nat} {l h : List Nat} (w : World) (hw : WrAt w S l) (hl : h.length = 32) (hsz : l.length ≤ 100000) :
  Calls Tryz.prog 90 #[.pointer (some ⟨S, 0, none⟩), .agg (jq .u8 h).toArray] w fun e w' => e = .returned (.tuple #[]) ∧ WrAt w' S (l ++ h) ∧ Below S w w' := by
 obtain ⟨v, hc, hf, ho⟩ := hw; obtain ⟨i0, hi, hz0, hz1, hz2⟩ := info_parts infoB; have HI := jh hi; obtain ⟨ao, cap, rfl, q1, q2, q3, -⟩ := ho.at_; have hlt : S < w.heap.size := World.block_lt_of_cell? (a := ⟨S, 0, none⟩) _ hc; obtain ⟨T, hT⟩ := je ((jq .u8 h).toArray); have hszT : (Tryz.prog.info? 48).map (·.size) = some T.size := by rw [qC, hT]; simp [js, hl]
 have HO1 := jh (fun (W : World) (hb : Below (w.alloc (.cells T 48)).heap.size (w.alloc (.cells T 48)) W) => OwnV.later (OwnV.later ho ((Below.refl _ w).alloc (Nat.le_refl _) (.cells T 48))) hb)
 have HS := jh (fun (W : World) (hb : Below (w.alloc (.cells T 48)).heap.size (w.alloc (.cells T 48)) W) => KAt.src (k := .u8) (l := h) (v := .slice (some ⟨w.heap.size, 0, none⟩) h.length 32) (w := W) ⟨_, 32, rfl, by omega, by decide, (fun q => by cases q), fun _ => ⟨w.heap.size, 0, rfl, fun i x hx => by
  refine jj ?_ hb; rw [Nat.zero_add, cell_of_row _ _ _ _ _ _ (heap_alloc_new _ _), hT]
  simp [qr, hx]⟩⟩)
 have HF := jh hf; have HL := jh hlt; have HC := jh hc; have HSL := jh hsz; have HHL := jh hl; have sl := slice_h w.heap.size; rw [← hT]; rw [hl] at HS; clear hc hf ho hi hl hsz hT q1 q2 q3 hlt
 go_enter Tryz.func90, Tryz.ntmps90
 go_upto_region 1 with fail
 obtain ⟨w1, e1⟩ := je (w.alloc (.cells T 48)); have hs1 : w1.heap.size = w.heap.size + 1 := by rw [e1]; simp
 have hb1 := jc e1; rw [← e1] at HO1 HS ⊢; have hc1 := jj HC.out hb1; have HB1 := jh hb1; have HS1 := jh hs1; clear e1 hb1 hs1; have hbs : S + 1 ≤ w1.heap.size := by have := HL.out; have := HS1.out; omega
 go_region_law (first
  | (refine Zv rfl (.tmp 8) (.tmp 9) 116 rfl (S + 1) 5 i0 (.int .u8 0) 1 1 Tryz.underlying116 HI.out hz0 hz1 hz2 rfl (.slice ao l.length cap) l.length (jq .u8 l) rfl (HO1.out _ (Below.refl _ _).drew) (.slice (some ⟨w.heap.size, 0, none⟩) 32 32) 32 (jq .u8 h) rfl (HS.out _ (Below.refl _ _).drew) (by have := HSL.out; unfold maxLen; omega) (by have := HSL.out; omega) (by simpa using hbs) ?_
     intro v2 w2 ho2 hg2 hl2; obtain ⟨a2, c2, rfl⟩ := ho2.sl; have hns : ∀ g, (Value.slice ao l.length cap).ownBlock = some g → S + 1 ≤ g := fun g hg => (Jq (HO1.out _ (Below.refl _ _)) hg).1
     have hb2 := JD (S := S + 1) hg2 hns (by simpa using hbs); have hc2 : w2.cell? ⟨S, 0, none⟩ = some (.slice ao l.length cap) := (World.cell?_of_block (w := w1) (hb2.block S (Nat.lt_succ_self S))).trans hc1; have hq2 : w2.heap[S]? = w.heap[S]? := (hb2.block S (Nat.lt_succ_self S)).trans (HB1.out.block S HL.out); have hf2 : w2.frozen? ⟨S, 0, none⟩ = false := (jE hq2).trans (HF.out 0 (by decide)); have HO2 := jh ho2; have HB2 := jh hb2; have HQ2 := jh hq2
     clear ho2 hg2 hl2 hns hb2 hq2))
 all_goals
  go_end0
  have hb1 := HB1.out; have hL := HL.out; have hs2 : S < w2.heap.size := World.block_lt_of_cell? (a := ⟨S, 0, none⟩) _ hc2; have hb2 : Below (S + 1) w1 w2 := ⟨HB2.out.os, HB2.out.tape, HB2.out.output, HB2.out.size, HB2.out.block⟩; refine ⟨rfl, ⟨_, World.cell?_setCell_same' w2 _ _ (by rw [hc2]; rfl), fun j hj => ?_, ?_⟩, ?_⟩
  ·rw [World.frozen?_setCell]; exact (jE HQ2.out).trans (HF.out j hj)
  ·have hown : Own w2 (S + 1) (.slice a2 (l.length + 32) c2) (l ++ h) := by
    have h9 := HO2.out; unfold Own; rw [List.length_append, HHL.out]; unfold jq at h9 ⊢
    simpa using h9
   refine OwnV.block hown fun g hg => (Zl w2 S 0 _).block g (Jq hown hg).2 fun e => ?_
   have h1 := (Jq hown hg).1; injection e with e
   omega
  ·exact ((hb1.mono (Nat.le_of_lt hL)).trans (hb2.mono (Nat.le_succ S))).trans (JD (Zl w2 S 0 _) (fun g e => by cases e; exact Nat.le_refl _) (Nat.le_of_lt hs2))
theorem row_on {w w' : World} {B S : Nat} {L : List Value} (h : w.rangeAt B 0 L) (hg : w.grownBy w' (some S)) (hne : B ≠ S) (hB : B < w.heap.size) : w'.rangeAt B 0 L := fun j u hj =>
 (World.cell?_of_block (w := w) (hg.block B hB (fun e => hne (by injection e)))).trans (h j u hj)
theorem wvote_any {S k e v n c s : Nat} {l h : List Nat} (w : World) (hw : WrAt w S l) (hl : h.length = 32) (hk : k < 256) (hv : v < 4294967296) (hn : n < 256) (hsz : l.length ≤ 90000) :
  Calls Tryz.prog 57 #[.pointer (some ⟨S, 0, none⟩), qv k e v n h c s] w fun r w' => r = .returned (.tuple #[]) ∧ WrAt w' S (l ++ Qf k e v n h) ∧ Below S w w' := by
 have hlt : S < w.heap.size := by
  obtain ⟨_, hc, _⟩ := hw; exact World.block_lt_of_cell? (a := ⟨S, 0, none⟩) _ hc
 have k1 : IntKind.u64.wrap (k : Int) = k := by rw [jZ, Nat.mod_eq_of_lt (by omega)]
 have v1 : IntKind.u64.wrap (v : Int) = v := by rw [jZ, Nat.mod_eq_of_lt (by omega)]
 have n1 : IntKind.u64.wrap (n : Int) = n := by rw [jZ, Nat.mod_eq_of_lt (by omega)]
 obtain ⟨T, hT⟩ := je ((jG k e v n h c s).toArray); have hszT : (Tryz.prog.info? 52).map (·.size) = some T.size := by rw [jJ, hT]; simp [jD hl]
 obtain ⟨w1, e1⟩ := je (w.alloc (.cells T 52)); have hs1 : w1.heap.size = w.heap.size + 1 := by rw [e1]; simp
 have hb1 := jc e1; have hr1 : w1.rangeAt w.heap.size 0 (jG k e v n h c s) := by rw [e1, hT]; exact qO _ _ _
 have hW1 : WrAt w1 S l := by
  obtain ⟨u, hc, hf, ho⟩ := hw; exact ⟨u, jj hc hb1, hf.later hb1 hlt, Own.later ho hb1⟩
 have HR1 := jh hr1; have HB1 := jh hb1; have HLT := jh hlt; have HHL := jh hl; have HS1 := jh hs1; have HV := jh hT; obtain ⟨B, hB⟩ := je (w.heap.size); have HBN := jh (show B ≠ S by omega); have HBL := jh (show B < w1.heap.size by omega); have q0 : w1.cell? ⟨B, 0, none⟩ = some (.int .u8 k) := by rw [hB]; exact QJ hr1
 have HN1 := jh (ZL (n := k) (k := 1) w1 hW1 (by decide) (by omega)); rw [← hB] at HR1; have HHB := jh hB; unfold qv; rw [← hT]; have HSZ := jh hsz; clear hT hW1 hr1 hb1 hs1 hlt hw hl hsz hk hv hn
 go_enter Tryz.func57, Tryz.ntmps57
 go_upto_region 1 with fail
 rw [← e1, ← hB]; clear e1 hB
 go_upto_region 2 with (first | (go_at_call 89; refine (HN1.out).mono ?_; rintro _ w2 ⟨rfl, hw, hg⟩; have HW2 := jh hw; have HG2 := jh hg; clear hw hg))
 have HR2 := jh (row_on HR1.out HG2.out HBN.out HBL.out); have HBL2 := jh (Nat.lt_of_lt_of_le HBL.out HG2.out.size); have q2 : w2.cell? ⟨B, 1, none⟩ = some (.int .u64 e) := vo_e HR2.out; have HN2 := jh (ZL (n := e) (k := 8) w2 HW2.out (by decide) (by have := HSZ.out; simp only [List.length_append, jO]; omega))
 go_upto_region 3 with (first | (go_at_call 89; refine (HN2.out).mono ?_; rintro _ w3 ⟨rfl, hw, hg⟩; have HW3 := jh hw; have HG3 := jh hg; clear hw hg))
 have HR3 := jh (row_on HR2.out HG3.out HBN.out HBL2.out); have HBL3 := jh (Nat.lt_of_lt_of_le HBL2.out HG3.out.size); have q3 : w3.cell? ⟨B, 2, none⟩ = some (.int .u32 v) := ZM HR3.out; have HN3 := jh (ZL (n := v) (k := 4) w3 HW3.out (by decide) (by have := HSZ.out; simp only [List.length_append, jO]; omega))
 go_upto_region 4 with (first | (go_at_call 89; refine (HN3.out).mono ?_; rintro _ w4 ⟨rfl, hw, hg⟩; have HW4 := jh hw; have HG4 := jh hg; clear hw hg))
 have HR4 := jh (row_on HR3.out HG4.out HBN.out HBL3.out); have HBL4 := jh (Nat.lt_of_lt_of_le HBL3.out HG4.out.size); have q4 : w4.cell? ⟨B, 3, none⟩ = some (.int .u8 n) := Qg HR4.out; have HN4 := jh (ZL (n := n) (k := 1) w4 HW4.out (by decide) (by have := HSZ.out; simp only [List.length_append, jO]; omega))
 go_upto_region 5 with (first | (go_at_call 89; refine (HN4.out).mono ?_; rintro _ w5 ⟨rfl, hw, hg⟩; have HW5 := jh hw; have HG5 := jh hg; clear hw hg))
 have HR5 := jh (row_on HR4.out HG5.out HBN.out HBL4.out); have ls := Zi HR5.out HHL.out; have HX := jh (whash_any w5 HW5.out HHL.out (by have := HSZ.out; simp only [List.length_append, jO]; omega)); refine wp_region_lit ?_; refine ji (v := .pointer (some ⟨S, 0, none⟩)) rfl (by kernel_rfl) ?_; refine ji (v := .pointer (some ⟨B, 4, none⟩)) rfl (by kernel_rfl) ?_; refine ji rfl (jg ls) ?_; simp only [Act.put, pa, pb, pc]
 go_wp2_with (first | (go_at_call 90; refine (HX.out).mono ?_; rintro _ w6 ⟨rfl, hw, hg⟩; have HW6 := jh hw; have HG6 := jh hg; clear hw hg))
 go_end0
 have hS := HLT.out; have hS1 := HS1.out; have g2 := JD HG2.out (fun g e => by cases e; exact Nat.le_refl _) (by omega); have g3 := JD HG3.out (fun g e => by cases e; exact Nat.le_refl _) (by have := g2.size; omega); have g4 := JD HG4.out (fun g e => by cases e; exact Nat.le_refl _) (by have := g2.size; have := g3.size; omega); have g5 := JD HG5.out (fun g e => by cases e; exact Nat.le_refl _) (by have := g2.size; have := g3.size; have := g4.size; omega); refine ⟨rfl, ?_, (HB1.out.mono (Nat.le_of_lt hS)).trans (g2.trans (g3.trans (g4.trans (g5.trans HG6.out))))⟩; have h9 := HW6.out; unfold Qf
 simpa only [List.append_assoc] using h9
theorem wfn_any {S B k e v n c s : Nat} {l h : List Nat} (w : World) (hw : WrAt w S l) (hr : w.rangeAt B 0 (jG k e v n h c s)) (hl : h.length = 32) (hk : k < 256) (hv : v < 4294967296) (hn : n < 256) (hsz : l.length ≤ 90000) :
  Calls Tryz.prog 56 #[.pointer (some ⟨S, 0, none⟩), .pointer (some ⟨B, 0, none⟩)] w fun r w' => r = .returned (.tuple #[]) ∧ WrAt w' S (l ++ Qf k e v n h) ∧ Below S w w' := by
 have HX := jh (wvote_any (e := e) (c := c) (s := s) w hw hl hk hv hn hsz); have lv := loadVo hr hl; obtain ⟨T, hT⟩ := je (qv k e v n h c s); rw [← hT] at HX lv; have LV := jh lv; clear hT hw hr hl hk hv hn hsz lv
 go_enter Tryz.func56, Tryz.ntmps56
 go_upto_region 0 with fail
 refine wp_region_lit ?_; refine ji (v := .pointer (some ⟨S, 0, none⟩)) rfl (by kernel_rfl) ?_; refine ji rfl (jg LV.out) ?_; simp only [Act.put, pa, pb, pc]
 go_wp2_with (first | (go_at_call 57; refine (HX.out).mono ?_; rintro _ w6 ⟨rfl, hw, hg⟩; have HW6 := jh hw; have HG6 := jh hg; clear hw hg))
 go_end0
 exact ⟨rfl, HW6.out, HG6.out⟩
def votesB : List Nat := zL ⟨#[118, 111, 116, 101]⟩
def qy (k e v n : Nat) (h : List Nat) : List Nat := zi (zn votesB [Qf k e v n h])
theorem voteB_length {k e v n : Nat} {h : List Nat} (hl : h.length = 32) : (Qf k e v n h).length = 46 := by simp [Qf, jO, hl]
theorem hashed_any {B k e v n c s : Nat} {h : List Nat} (w : World) (hr : w.rangeAt B 0 (jG k e v n h c s)) (hB : B < w.heap.size) (hl : h.length = 32) (hby : qo h) (hk : k < 256) (hv : v < 4294967296) (hn : n < 256) :
  Calls Tryz.prog 55 #[.string ⟨#[118, 111, 116, 101]⟩, .func (.func 56) #[] #[.pointer (some ⟨B, 0, none⟩)]] w fun r w' => r = .returned (.agg (jq .u8 (qy k e v n h)).toArray) ∧ Below w.heap.size w w' := by
 have HR := jh hr
 have hbv : qo (Qf k e v n h) := by
  unfold Qf; intro x hx; simp only [List.mem_append] at hx
  rcases hx with hx | hx | hx | hx | hx
  ·exact qM _ _ x hx
  ·exact qM _ _ x hx
  ·exact qM _ _ x hx
  ·exact qM _ _ x hx
  ·exact hby x hx
 have HBV := jh hbv; obtain ⟨T, hT⟩ := je ((jq .u8 (qy k e v n h)).toArray); have hTs : T.size = 32 := by rw [hT]; simp [js, qy, qp]
 have h1T : T.all (·.oneCell') = true := by rw [hT]; exact qE _ _
 have HTT := jh hT; have HTS := jh hTs; have HT1 := jh h1T; rw [← hT]; clear hr hbv hby hT hTs h1T
 go_enter Tryz.func55, Tryz.ntmps55
 go_upto_region 1 with fail
 obtain ⟨w1, e1⟩ := je (w.alloc (.cells #[.int .u8 0, .int .u8 0, .int .u8 0, .int .u8 0, .int .u8 0, .int .u8 0, .int .u8 0, .int .u8 0, .int .u8 0, .int .u8 0, .int .u8 0, .int .u8 0, .int .u8 0, .int .u8 0, .int .u8 0, .int .u8 0, .int .u8 0, .int .u8 0, .int .u8 0, .int .u8 0, .int .u8 0, .int .u8 0, .int .u8 0, .int .u8 0, .int .u8 0, .int .u8 0, .int .u8 0, .int .u8 0, .int .u8 0, .int .u8 0, .int .u8 0, .int .u8 0] 48)); have hs1 : w1.heap.size = w.heap.size + 1 := by rw [e1]; simp
 have hb1 := jc e1; have hh1 := heap_alloc_new w (.cells #[.int .u8 0, .int .u8 0, .int .u8 0, .int .u8 0, .int .u8 0, .int .u8 0, .int .u8 0, .int .u8 0, .int .u8 0, .int .u8 0, .int .u8 0, .int .u8 0, .int .u8 0, .int .u8 0, .int .u8 0, .int .u8 0, .int .u8 0, .int .u8 0, .int .u8 0, .int .u8 0, .int .u8 0, .int .u8 0, .int .u8 0, .int .u8 0, .int .u8 0, .int .u8 0, .int .u8 0, .int .u8 0, .int .u8 0, .int .u8 0, .int .u8 0, .int .u8 0] 48); rw [← e1] at hh1; obtain ⟨H, hH⟩ := je (w.heap.size); rw [← hH] at hh1; rw [← e1, ← hH]; have HH1 := jh hh1; have HS1 := jh hs1; have HB1 := jh hb1; have HHH := jh hH; clear e1 hh1 hs1 hb1 hH
 go_upto_region 2 with fail
 obtain ⟨w2, e2⟩ := je (w1.alloc (.cells #[.slice none 0 0, .bool false] 155)); have hs2 : w2.heap.size = w1.heap.size + 1 := by rw [e2]; simp
 have hb2 := jc e2; have hW2 : WrAt w2 w1.heap.size [] := ⟨.slice none 0 0, by rw [e2, cell_of_row _ _ _ _ _ _ (heap_alloc_new _ _)]; rfl, by rw [e2]; exact FreeN.new _ _ _ _, ⟨by simp [jq], .inl ⟨rfl, rfl⟩⟩⟩; obtain ⟨S, hS⟩ := je (w1.heap.size); rw [← hS] at hW2; rw [← e2, ← hS]; have HW2 := jh hW2; have HS2 := jh hs2; have HB2 := jh hb2; have HSS := jh hS; have HBL := jh hB; have HHL := jh hl; have HK := jh hk; have HV := jh hv; have HN := jh hn; clear e2 hW2 hs2 hb2 hS hB hl hk hv hn
 go_wp2_with fail
 refine (wfn_any w2 HW2.out (jy (jy HR.out HB1.out) HB2.out) HHL.out HK.out HV.out HN.out (by simp)).mono ?_; rintro _ w3 ⟨rfl, hw3, hb3⟩; obtain ⟨v3, hc3, -, ho3⟩ := hw3; obtain ⟨ao, cap, rfl, q1, q2, q3, -⟩ := ho3.at_; have HO3 := jh ho3; have HB3 := jh hb3; clear ho3 hb3 q3
 go_wp2_with fail
 have hP : Parts (w3.alloc (.cells #[.slice ao (Qf k e v n h).length cap] 116)) w3.heap.size 0 [.slice ao (Qf k e v n h).length cap] [Qf k e v n h] := ⟨rfl, fun i hi => by
  obtain rfl : i = 0 := by simp at hi; exact hi
  exact ⟨_, _, rfl, rfl, by simp, HO3.out.at_.later (ja)⟩⟩
 refine (Of_any (s := ⟨#[118, 111, 116, 101]⟩) (cap := 1) _ hP (by simp) (by unfold maxLen; decide) (fun l hl9 => by simp only [List.mem_singleton] at hl9; subst hl9; exact HBV.out) (by have := voteB_length (k := k) (e := e) (v := v) (n := n) HHL.out; unfold zn hdr; simp [jO, enc, this]; decide)).mono ?_; rw [show zi (zn (zL ⟨#[118, 111, 116, 101]⟩) [Qf k e v n h]) = qy k e v n h from rfl, ← HTT.out]; rintro _ w5 ⟨rfl, hb5⟩; obtain ⟨w4, e4⟩ := je (w3.alloc (.cells #[.slice ao (Qf k e v n h).length cap] 116)); have hb4 := jc e4; rw [← e4] at hb5; have z1 := HS1.out; have z2 := HS2.out; have z3 := HB3.out.size; have z4 := hb4.size; have zS := HSS.out; have zH := HHH.out; have hH5 := (hb5.block H (by omega)).trans ((hb4.block H (by omega)).trans ((HB3.out.block H (by omega)).trans ((HB2.out.block H (by omega)).trans HH1.out))); have hB5 : Below w.heap.size w w5 := HB1.out.trans ((HB2.out.mono (by omega)).trans ((HB3.out.mono (by omega)).trans ((hb4.mono (by omega)).trans (hb5.mono (by omega))))); have HH5 := jh hH5; have HB5 := jh hB5; have HZ := jh (show w.heap.size ≤ H by omega); have hszT : (Tryz.prog.info? 48).map (·.size) = some T.size := by rw [qC, HTS.out]
 clear z1 z2 z3 z4 zS zH hH5 hB5 hb5 hb4 e4 hP hc3 q1 q2; dsimp only
 go_step
 refine jI rfl _ _ _ rfl H _ _ _ HH5.out rfl rfl hszT (by rw [HTS.out]; rfl) HT1.out ?_; simp only [Act.put]
 go_wp2_with fail
 obtain ⟨w9, e9⟩ := je (w5.setRow H T); have hr9 : w9.heap[H]? = some (.cells T 48 (0, 0)) := by rw [e9]; exact setRow_heap _ _ _ _ _ _ HH5.out
 have hb9 : Below w.heap.size w w9 := by rw [e9]; exact below_setRow HB5.out HZ.out _
 rw [← e9]; exact bodyPost_ret (results_cell_row rfl _ w9 H _ _ _ _ rfl hr9 Tryz.underlying48 rfl hszT) rfl ⟨rfl, hb9⟩
theorem WVote_any {k e v n c s : Nat} {h : List Nat} (w : World) (hl : h.length = 32) (hby : qo h) (hk : k < 256) (hv : v < 4294967296) (hn : n < 256) :
  Calls Tryz.prog 35 #[qv k e v n h c s] w fun r w' => r = .returned (.agg (jq .u8 (qy k e v n h)).toArray) ∧ Below w.heap.size w w' := by
 obtain ⟨V, hV⟩ := je ((jG k e v n h c s).toArray); have hszV : (Tryz.prog.info? 52).map (·.size) = some V.size := by rw [jJ, hV]; simp [jD hl]
 have HV9 := jh hV; unfold qv; rw [← hV]; have HX := jh (fun (W : World) (B : Nat) (hr : W.rangeAt B 0 (jG k e v n h c s)) (hB : B < W.heap.size) => hashed_any W hr hB hl hby hk hv hn); obtain ⟨T, hT⟩ := je ((jq .u8 (qy k e v n h)).toArray); have hTs : T.size = 32 := by rw [hT]; simp [js, qy, qp]
 have h1T : T.all (·.oneCell') = true := by rw [hT]; exact qE _ _
 have HTT := jh hT; have HTS := jh hTs; have HT1 := jh h1T; rw [← hT] at HX ⊢; clear hV hT hTs h1T hby hk hv hn hl
 go_enter Tryz.func35, Tryz.ntmps35
 go_upto_region 1 with fail
 obtain ⟨w1, e1⟩ := je (w.alloc (.cells V 52)); have hs1 : w1.heap.size = w.heap.size + 1 := by rw [e1]; simp
 have hb1 := jc e1; have hr1 : w1.rangeAt w.heap.size 0 (jG k e v n h c s) := by rw [e1, HV9.out]; exact qO _ _ _
 obtain ⟨w2, e2⟩ := je (w1.alloc (.cells #[.int .u8 0, .int .u8 0, .int .u8 0, .int .u8 0, .int .u8 0, .int .u8 0, .int .u8 0, .int .u8 0, .int .u8 0, .int .u8 0, .int .u8 0, .int .u8 0, .int .u8 0, .int .u8 0, .int .u8 0, .int .u8 0, .int .u8 0, .int .u8 0, .int .u8 0, .int .u8 0, .int .u8 0, .int .u8 0, .int .u8 0, .int .u8 0, .int .u8 0, .int .u8 0, .int .u8 0, .int .u8 0, .int .u8 0, .int .u8 0, .int .u8 0, .int .u8 0] 48)); have hs2 : w2.heap.size = w1.heap.size + 1 := by rw [e2]; simp
 have hb2 := jc e2; have hh2 : w2.heap[w.heap.size + 1]? = some (.cells #[.int .u8 0, .int .u8 0, .int .u8 0, .int .u8 0, .int .u8 0, .int .u8 0, .int .u8 0, .int .u8 0, .int .u8 0, .int .u8 0, .int .u8 0, .int .u8 0, .int .u8 0, .int .u8 0, .int .u8 0, .int .u8 0, .int .u8 0, .int .u8 0, .int .u8 0, .int .u8 0, .int .u8 0, .int .u8 0, .int .u8 0, .int .u8 0, .int .u8 0, .int .u8 0, .int .u8 0, .int .u8 0, .int .u8 0, .int .u8 0, .int .u8 0, .int .u8 0] 48 (0, 0)) := by rw [← hs1, e2]; exact heap_alloc_new _ _
 have hr2 := jy hr1 hb2; rw [← e1, ← e2]; have HR := jh hr2; have HH2 := jh hh2; have HB2 := jh (hb1.trans (hb2.mono (by omega))); have HS2 := jh (show w2.heap.size = w.heap.size + 1 + 1 by omega); clear e1 e2 hs1 hs2 hb1 hb2 hr1 hr2 hh2; obtain ⟨B, hB⟩ := je (w.heap.size); obtain ⟨H, hH⟩ := je (B + 1); rw [← hB] at HR HH2 HS2 ⊢; rw [← hH] at HH2 ⊢; have HHB := jh hB; have HHH := jh hH; clear hB hH
 go_wp2_with fail
 refine (HX.out w2 B HR.out (by have := HS2.out; omega)).mono ?_; rintro _ w5 ⟨rfl, hb5⟩; have zS := HS2.out; have zH := HHH.out; have zB := HHB.out; have HH5 := jh ((hb5.block H (by omega)).trans HH2.out); have HB5 := jh (HB2.out.trans (hb5.mono (by omega))); have HZ := jh (show B ≤ H by omega); have hszT : (Tryz.prog.info? 48).map (·.size) = some T.size := by rw [qC, HTS.out]
 clear zS zH zB hb5; dsimp only
 go_step
 refine jI rfl _ _ _ rfl H _ _ _ HH5.out rfl rfl hszT (by rw [HTS.out]; rfl) HT1.out ?_; simp only [Act.put]
 go_wp2_with fail
 obtain ⟨w9, e9⟩ := je (w5.setRow H T); have hr9 : w9.heap[H]? = some (.cells T 48 (0, 0)) := by rw [e9]; exact setRow_heap _ _ _ _ _ _ HH5.out
 have hb9 : Below w.heap.size w w9 := by rw [e9]; exact below_setRow HB5.out (by have := HHB.out; have := HZ.out; omega) _
 rw [← e9]; exact bodyPost_ret (results_cell_row rfl _ w9 H _ _ _ _ rfl hr9 Tryz.underlying48 rfl hszT) rfl ⟨rfl, hb9⟩
end Go.Proofs.YtdpkpcbikbbcbaaGreat
