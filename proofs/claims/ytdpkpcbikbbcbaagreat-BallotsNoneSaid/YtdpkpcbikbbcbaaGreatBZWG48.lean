/- BallotsNone -/
import Derived.Test.YtdpkpcbikbbcbaaGreatBZWG47
import Derived.Deep.CutBlock
set_option linter.unusedSimpArgs false
set_option linter.unusedVariables false
set_option maxHeartbeats 40000000
set_option maxRecDepth 20000
namespace Go.Proofs.YtdpkpcbikbbcbaaGreat
open Go.ChangeShapes Go.WideShapes Go.ChangeAt Go.RowKit
def zero23c : Array Value := #[.int .u64 0, .int .u64 0, .int .u64 0, .int .u64 0, .int .u64 0, .int .u64 0, .int .u64 0, .int .u64 0, .int .u64 0, .int .u64 0, .int .u64 0, .int .u64 0, .int .u64 0, .int .u64 0, .int .u64 0, .int .u64 0, .int .u64 0, .int .u64 0, .int .u64 0, .int .u64 0, .int .i64 0, .int .i64 0, .slice none 0 0]
def zero4c : Array Value := #[.int .u8 0, .int .u8 0, .bool false, .int .u8 0]
theorem cast_one {gp gq gg gh lg : Nat} {fa se : Int} {ao : Option Addr} {n cap : Nat} {ZV : Array Value} (h : zG gp gq gg gh lg fa se (.slice ao n cap) = .agg ZV) : ZV.all (·.oneCell') = true := by
 unfold zG at h; injection h with h
 rw [← h]
 simp [Value.oneCell']
theorem chL_all (x : Ch) : (chL x).toArray.all (·.oneCell') = true := by simp [chL, Value.oneCell']
theorem loadKs {w : World} {b o : Nat} {v : Value} (h : w.cell? ⟨b, o, none⟩ = some v) : (Instr.loadAt 27 (.pointer (some ⟨b, o, none⟩))).run Tryz.prog w = .ok v w := by
 simp [go_sem, h]
theorem ZO {w : World} {b j : Nat} {L : List Value} {t : TypeId} {u : Value} (h : w.heap[b]? = some (.cells L.toArray t (0, 0))) : (w.setCell ⟨b, j, none⟩ u).heap[b]? = some (.cells (L.set j u).toArray t (0, 0)) := by
 rw [heap_setCell_same _ _ _ _ _ _ h]
 simp
theorem keys_lt {w : World} {b o : Nat} {ks : List (Nat × Nat)} (h : KeysAt w b o ks) (h0 : 0 < ks.length) : b < w.heap.size :=
 World.block_lt_of_cell? (a := ⟨b, _, none⟩) _ ((h 0 ks[0] (List.getElem?_eq_getElem h0)).1 0 (by decide))
theorem QO {w : World} {b : Nat} {L : Array Value} {t : TypeId} (h : w.heap[b]? = some (.cells L t (0, 0))) (j : Nat) : w.frozen? ⟨b, j, none⟩ = false := by
 simp [World.frozen?, h]
theorem num_key {w : World} {b o i : Nat} {ks : List (Nat × Nat)} {k : Nat × Nat} (h : KeysAt w b o ks) (hk : ks[i]? = some k) : NumO w b (o + i * 8) k.1 := fun j hj => (h i k hk).1 j hj
def zero4n : Array Value := #[.int .u64 0, .int .u64 0, .int .u64 0, .int .u64 0]
theorem info_num4 : (Tryz.prog.info? 24).map (·.size) = some 4 := by kernel_rfl
theorem ch_one {w : World} {b : Nat} {x : Ch} (h : w.rangeAt b 0 (chL x)) : ChAt w b 0 [x] := fun i c hc => by
 cases i with
 | zero =>
  simp only [List.getElem?_cons_zero, Option.some.injEq] at hc; subst hc; exact ⟨h 0 _ rfl, h 1 _ rfl, h 2 _ rfl, h 3 _ rfl⟩
 | succ i => simp at hc
theorem choice_parts : ∃ i z, Tryz.prog.info? 57 = some i ∧ i.zero = some z ∧ i.size = 4 ∧ i.bytes ≤ 1000 ∧ z.cells.size = 4 := by
 have h : (Tryz.prog.info? 57).any (fun i => (i.zero.any (fun z => z.cells.size == 4)) && i.size == 4 && Nat.ble i.bytes 1000) = true := by kernel_rfl
 cases hi : Tryz.prog.info? 57 with
 | none => rw [hi] at h; cases h
 | some i =>
  rw [hi] at h; simp only [Option.any_some, Bool.and_eq_true, beq_iff_eq] at h; obtain ⟨⟨h1, h2⟩, h3⟩ := h
  cases hz : i.zero with
  | none => rw [hz] at h1; cases h1
  | some z =>
   rw [hz] at h1; simp only [Option.any_some, beq_iff_eq] at h1; exact ⟨i, z, rfl, hz, h2, Nat.le_of_ble_eq_true h3, h1⟩
theorem run_one_choice {T : Array Value} {o : Oper} {ev : Operand → Value} {x : Operand} {W : World} (hl : T.size = 4) (ho : o.op = .buildSlice 30 1 #[(0, x)]) (hx : ev x = .agg T) :
  (execOp ev o).run Tryz.prog W = .ok (.value (.slice (some ⟨W.heap.size, 0, none⟩) 1 1)) (W.alloc (.cells T 57)) := by
 obtain ⟨L, rfl⟩ : ∃ L : List Value, T = L.toArray := ⟨T.toList, by simp⟩; have hl : L.length = 4 := by simpa using hl
 obtain ⟨iv, zv, hiv, hzv, hv1, -, hv3⟩ := choice_parts; have hf := Great.fill_whole (s := 4) (by decide) [.agg L.toArray] ((Array.range (1 * iv.size)).map (zv.cells[· % zv.cells.size]!)) (fun v hv => by simp only [List.mem_singleton] at hv; subst hv; simp [Value.cells, hl]) (by simp [hv1]); have hr := run_buildSlice (P := Tryz.prog) W 30 57 1 #[(0, .agg L.toArray)] L.toArray iv zv Tryz.underlying30 hiv hzv (by rw [hv1]; decide) (by rw [hv1]; decide) (by rw [hv1]; simpa [Value.cells, hv1] using hf); unfold execOp; simp only [ho]
 simp [hx, hr, Result.andThen]
theorem ballotsNone_walk {gp gq gg gh lg n cap m lc : Nat} {fa se : Int} {ao al : Option Addr} {sk : List (Nat × Nat)} {l : List Ch} {x : Ch} {k9 : Nat} (hgp : gp < jk) (hgq : gq < jk) (hgg : gg < jk) (hlg : lg < jk) (hfa : -9223372036854775808 ≤ fa ∧ fa ≤ 9223372036854775807) (hse : -9223372036854775808 ≤ se ∧ se ≤ 9223372036854775807) (hsk : ∀ k ∈ sk, k.1 < jk ∧ k.2 < jk) (hn : n = sk.length) (hcap : n ≤ cap) (hcm : cap ≤ maxLen) (hml : m = l.length) (hmc : m ≤ lc) (hlm : lc ≤ maxLen) (hch : ∀ c ∈ l, c.node < 256 ∧ c.set < 256 ∧ c.view < 256) (hx9 : x.node < 256 ∧ x.set < 256 ∧ x.view < 256) (hk9 : k9 < 256) (w : World) (hk : 0 < n → ∃ b o, ao = some ⟨b, o, none⟩ ∧ KeysAt w b o sk) (hc : 0 < m → ∃ lb lo, al = some ⟨lb, lo, none⟩ ∧ ChAt w lb lo l) :
  Calls Tryz.prog 4 #[noneV gp gq gg gh lg fa se (.slice ao n cap) (.slice al m lc) x k9] w fun e w' => e = .returned (.bool true) ∧ Below w.heap.size w w' := by
 have CW := jh (fun (W : World) (hb : Below w.heap.size w W) => by have h9 := lawset_any (gh := gh) hgp hgq hgg hlg hfa hse hsk hn hcap hcm W (fun h0 => by obtain ⟨b, o, h1, h2⟩ := hk h0; exact ⟨b, o, h1, h2.later hb⟩); exact h9); have HGP := jh hgp; have HGG := jh hgg; have HGQ := jh hgq; have HFA := jh hfa; have HSE := jh hse; have HN := jh hn; have HK := jh hk; have HC := jh hc; have HML := jh hml; have HCH := jh hch; have HLM := jh (And.intro hmc hlm); have hcx : cap ≤ 9223372036854775807 := by unfold maxLen at hcm; omega
 have hnx : n ≤ 9223372036854775807 := by omega
 have hmx : m ≤ 9223372036854775807 := by unfold maxLen at hlm; omega
 clear hgp hgq hgg hlg hfa hse hsk hn hcap hcm hml hmc hlm hch hk hc; obtain ⟨ZV, hZV⟩ : ∃ ZV, zG gp gq gg gh lg fa se (.slice ao n cap) = .agg ZV := ⟨_, rfl⟩; have hszZ : (Tryz.prog.info? 29).map (·.size) = some ZV.size := by rw [info_c9]; have e9 := hZV; unfold zG at e9; injection e9 with e9; rw [← e9]; rfl
 have HSZ := jh hszZ; have HZV := jh hZV; have HX9 := jh hx9; have HK9 := jh hk9; have hxn : (x.node : Int) ≤ 255 := by omega
 have hk95 : (k9 : Int) ≤ 255 := by omega
 clear hx9 hk9; obtain ⟨NL, hNL⟩ := je (ZU ZV.toList (.slice al m lc) x k9); have hZl : castL gp gq gg gh lg fa se (.slice ao n cap) = ZV.toList := by have h9 := hZV; rw [castV_list] at h9; injection h9 with h9; rw [← h9]
 have hZ23 : ZV.toList.length = 23 := by rw [← hZl]; rfl
 have Z22 := jh (show ZV.toList[22]? = some (.slice ao n cap) by rw [← hZl]; rfl); have hN : noneV gp gq gg gh lg fa se (.slice ao n cap) (.slice al m lc) x k9 = .agg NL.toArray := by unfold noneV; rw [hZl, hNL]
 have hN29 : NL.length = 29 := by rw [hNL]; exact noneL_length hZ23
 have hZ1 : ZV.all (·.oneCell') = true := cast_one hZV; obtain ⟨NV, hNV⟩ := je (NL.toArray); rw [hN, ← hNV]; rw [hZV] at CW; have HNL := jh hNL; have HNV := jh hNV; have HZ23 := jh hZ23; have HZ1 := jh hZ1; clear hZV hZl hN hNL hNV hN29 hZ23 hZ1
 go_enter Tryz.func4, Tryz.ntmps4
 go_upto_region 1 with fail
 obtain ⟨v_0, e1⟩ := je (w.alloc (.cells NV 59)); obtain ⟨QB, hQB⟩ := je (w.heap.size); have HB := jh (show Below w.heap.size w v_0 by rw [e1]; exact ja); have HNA := jh (none_at HZ23.out (show v_0.rangeAt QB 0 _ by rw [← HNL.out]; exact qc (show v_0.heap[QB]? = some (.cells NL.toArray 59 (0, 0)) by rw [← HNV.out, e1, hQB]; exact heap_alloc_new _ _))); rw [← e1, ← hQB]; clear e1 hQB hszZ; have LZ := jh (show (Instr.loadAt 29 (.pointer (some ⟨QB, 0, none⟩))).run Tryz.prog v_0 = .ok (.agg ZV) v_0 by have h9 := loadC HNA.out.1 HZ23.out; rwa [Array.toArray_toList] at h9); refine wp_region_lit ?_; refine ji (v := .pointer (some ⟨QB, 0, none⟩)) rfl (by kernel_rfl) ?_; simp only [Act.put, pa, pb, pc]; refine ji rfl (jg LZ.out) ?_; simp only [Act.put, pa, pb, pc]; refine jS (v := .pointer (some ⟨v_0.heap.size, 0, none⟩)) (w' := v_0.alloc (.cells zero23c 29)) rfl (by kernel_rfl) ?_; simp only [Act.put, pa, pb, pc]; refine jM rfl _ _ _ rfl zero23c ZV rfl rfl HSZ.out (by have h9 := HZ23.out; rw [Array.length_toList] at h9; rw [h9]; rfl) HZ1.out ?_; simp only [Act.put, pa, pb, pc]
 go_upto_region 2 with fail
 clear LZ; obtain ⟨v_1, e1⟩ := je (v_0.alloc (.cells ZV 29)); obtain ⟨CB, hCB⟩ := je (v_0.heap.size); have hb := jc e1; have HZ := jh (show v_1.heap[CB]? = some (.cells ZV 29 (0, 0)) by rw [e1, hCB]; exact heap_alloc_new _ _); rw [← e1, ← hCB]; clear e1 hCB; have HB := jw HB hb; have y23 := jj HNA.out.2.1 hb; have LX := jh (loadX (jy HNA.out.2.2.1 hb)); have Y28 := jh (jj HNA.out.2.2.2 hb); clear hb HNA; obtain ⟨XV, hXV⟩ := je ((chL x).toArray); rw [← hXV] at LX; have HXV := jh hXV; clear hXV
 go_upto_region 3 with fail
 clear y23; refine wp_region_lit ?_; refine ji (v := .pointer (some ⟨QB, 24, none⟩)) rfl (by kernel_rfl) ?_; simp only [Act.put, pa, pb, pc]; refine ji rfl (jg LX.out) ?_; simp only [Act.put, pa, pb, pc]; refine jS (v := .pointer (some ⟨v_1.heap.size, 0, none⟩)) (w' := v_1.alloc (.cells zero4c 57)) rfl (by kernel_rfl) ?_; simp only [Act.put, pa, pb, pc]; refine jM rfl _ _ _ rfl zero4c XV rfl rfl (by rw [QY, HXV.out]; rfl) (by rw [HXV.out]; rfl) (by rw [HXV.out]; exact chL_all x) ?_; simp only [Act.put, pa, pb, pc]
 go_upto_region 4 with fail
 clear LX; obtain ⟨v_x, e1⟩ := je (v_1.alloc (.cells XV 57)); obtain ⟨XB, hXB⟩ := je (v_1.heap.size); have hb := jc e1; have HX := jh (show v_x.heap[XB]? = some (.cells XV 57 (0, 0)) by rw [e1, hXB]; exact heap_alloc_new _ _); rw [← e1, ← hXB]; clear e1 hXB; have HB := jw HB hb; have HZ := jb hb HZ; have y28 := jj Y28.out hb; clear hb Y28
 go_upto_region 5 with fail
 clear y28; refine wp_region_lit ?_; refine ji rfl (jg (jW HZ.out Tryz.underlying29 rfl HSZ.out)) ?_; simp only [Act.put, pa, pb, pc]
 go_wp2_with fail
 refine (CW.out _ HB.out).mono ?_; rintro _ v_2 ⟨p, q, g, h2, f9, s9, a9, n9, c9, ok, rfl, hok, hb⟩; have HZ := jb hb HZ; have HB := jw HB hb; have HX := jb hb HX; clear hb; have HOK := jh hok; clear hok; obtain ⟨SV, hSV⟩ : ∃ SV, qg p q g h2 f9 s9 (.slice a9 n9 c9) = .agg SV := ⟨_, rfl⟩; rw [hSV]; dsimp only
 go_step
 refine ji (v := .tuple #[.agg SV, .bool ok]) rfl (by kernel_rfl) ?_; simp only [Act.put, pa, pb, pc]; refine ji (v := .agg SV) rfl (by kernel_rfl) ?_; simp only [Act.put, pa, pb, pc]; refine ji (v := .bool ok) rfl (by kernel_rfl) ?_; simp only [Act.put, pa, pb, pc]; have hszS : (Tryz.prog.info? 33).map (·.size) = some SV.size := by rw [qR, qI hSV]
 have h1S := setV_one (by rfl) hSV; refine jS (v := .pointer (some ⟨v_2.heap.size, 0, none⟩)) (w' := v_2.alloc (.cells zero19 33)) rfl (by kernel_rfl) ?_; simp only [Act.put, pa, pb, pc]; refine jM rfl _ _ _ rfl zero19 SV rfl rfl hszS (by rw [qI hSV]; rfl) h1S ?_; simp only [Act.put, pa, pb, pc]
 go_upto_region 6 with fail
 obtain ⟨v_3, e9⟩ := je (v_2.alloc (.cells SV 33)); obtain ⟨SB, h9⟩ := je (v_2.heap.size); have hb := jc e9; have hrS : v_3.heap[SB]? = some (.cells SV 33 (0, 0)) := by rw [e9, h9]; exact heap_alloc_new _ _
 have hS : SAt v_3 SB p q g h2 f9 s9 (.slice a9 n9 c9) := by have e8 := hSV; unfold qg at e8; injection e8 with e8; rw [e9, h9, ← e8]; exact SAt.new _ _ _ _ _ _ _ _ _
 rw [← e9, ← h9]; have WSB := jh (show w.heap.size ≤ SB ∧ SB < v_3.heap.size by rw [h9, e9]; exact ⟨HB.out.size, by simp⟩); clear e9 h9; have HZ := jb hb HZ; have HB := jw HB hb; have HB23 := jh hb; have HX := jb hb HX; have HS := jh hS; have HSR := jh hrS; have HSV := jh hSV; have HSZS := jh hszS; clear hb hS hrS hSV hszS h1S
 cases ok
 ·go_wp2_with (first | (go_at_call 8; refine (JU _).mono ?_; rintro _ wl ⟨rfl, hbl⟩; have HB := jw HB hbl; clear hbl))
  go_ret
  exact ⟨rfl, HB.out⟩
 obtain ⟨e1, e2, e3, e4, e5, e6, e7, hset⟩ := HOK.out rfl; clear HOK; subst e1 e2 e3 e5 e6 e7; subst e4; have HSET := jh hset; clear hset
 by_cases hn0 : n9 = 0
 ·have k0 : ((n9 : Int) == 0) = true := by simp; omega
  have y18 := HS.out.nd
  go_wp2_with (first | (go_at_call 8; refine (JU _).mono ?_; rintro _ wl ⟨rfl, hbl⟩; have HB := jw HB hbl; clear hbl))
  go_ret
  exact ⟨rfl, HB.out⟩
 have k0 : ((n9 : Int) == 0) = false := by simp; omega
 by_cases hml40 : 20 < m
 ·have k1 : (20 : Int) < (m : Int) := by omega
  have y18 := HS.out.nd
  go_wp2_with (first | (go_at_call 8; refine (JU _).mono ?_; rintro _ wl ⟨rfl, hbl⟩; have HB := jw HB hbl; clear hbl))
  go_ret
  exact ⟨rfl, HB.out⟩
 have k1 : ¬ (20 : Int) < (m : Int) := by omega
 have hn0 : 0 < n9 := by omega
 obtain ⟨kb, ko, rfl, hks⟩ := HK.out hn0; obtain ⟨nb0, no0, rfl, hnk⟩ := HSET.out.nodes hn0; have hstk := stOk_of HSET.out HGP.out HGQ.out HGG.out HFA.out HSE.out HN.out; obtain ⟨hpa, hgin, -⟩ := set_parts HSET.out.ok; have STK := jh hstk; have HG := jh hgin.1; have HPA := jh hpa; have HN0 := jh hn0; have HKS := jh hks; have H40 := jh (show m ≤ 20 by omega); have hm40 : (m : Int) ≤ 20 := by omega
 have HKY := jh (fun (k : Nat × Nat) (h9 : k ∈ sk) => HSET.out.keys k h9); clear hks hstk hpa hgin hn0 hml40; have HNK := jh (show KeysAt v_3 nb0 no0 (Jr p g (g ^ lg % p) sk) from hnk.later HB23.out); clear hnk HB23; have CN := jh (fun (W : World) (hk9 : KeysAt W nb0 no0 (Jr p g (g ^ lg % p) sk)) => by have h9 := BNew_any (cap := c9) (ep := 7) (vvS p q g 7 sk) STK.out HN0.out W hk9; rewrite [HSV.out] at h9; exact h9); have CL := jh (fun (W : World) (hb9 : Below w.heap.size w W) => by have h9 := lvotes_any (ks := []) (g0 := gh) (lg := lg) (kc := cap) (nb := nb0) (no := no0) (cap := c9) (gh := g ^ lg % p) (ep := 7) (fa := f9) (se := s9) (lc := lc) HSET.out.may HGP.out HGG.out HSET.out.prime.2.1 HGQ.out (fun k hk => ⟨(HKY.out k hk).1, (HKY.out k hk).2.2.1⟩) HN.out HN0.out STK.out.hn7 HML.out (by have := H40.out; omega) HCH.out W (HKS.out.later hb9) (fun h0 => by obtain ⟨lb, lo, h1, h2⟩ := HC.out h0; exact ⟨lb, lo, h1, h2.later hb9⟩); rewrite [HSV.out, HZV.out] at h9; exact h9); have CX := jh (fun (W : World) (xs : Nat) (hb9 : Below w.heap.size w W) (hch : ChAt W xs 0 [x]) => by have h9 := lvotes_any (ks := []) (g0 := gh) (lg := lg) (kc := cap) (nb := nb0) (no := no0) (cap := c9) (gh := g ^ lg % p) (ep := 7) (fa := f9) (se := s9) (lc := 1) (m := 1) (l := [x]) (al := some ⟨xs, 0, none⟩) HSET.out.may HGP.out HGG.out HSET.out.prime.2.1 HGQ.out (fun k hk => ⟨(HKY.out k hk).1, (HKY.out k hk).2.2.1⟩) HN.out HN0.out STK.out.hn7 rfl (by decide) (fun c hc => by simp only [List.mem_singleton] at hc; rw [hc]; exact HX9.out) W (HKS.out.later hb9) (fun _ => ⟨xs, 0, rfl, hch⟩); rewrite [HSV.out, HZV.out] at h9; exact h9); have y18 := HS.out.nd
 go_upto_region 8 with fail
 clear y18 k0 k1; refine wp_region_lit ?_; refine ji rfl (jg (jW HSR.out Tryz.underlying33 rfl HSZS.out)) ?_; simp only [Act.put, pa, pb, pc]; have LT3 := jh HB.out.size; have ZLT := jh (show CB < v_3.heap.size ∧ SB < v_3.heap.size ∧ XB < v_3.heap.size from ⟨(Array.getElem?_eq_some_iff.1 HZ.out).1, (Array.getElem?_eq_some_iff.1 HSR.out).1, (Array.getElem?_eq_some_iff.1 HX.out).1⟩)
 go_upto_region 11 with (first | (go_at_call 9; refine (CN.out _ HNK.out).mono ?_; rintro _ v_4 ⟨bx, nb, no, c2, mb, fb, rfl, hbx, hge, hb⟩))
 have hlow : ∀ b, b < v_3.heap.size → v_4.heap[b]? = v_3.heap[b]? := fun b h9 => hb.block b h9
 have HLOW := jh hlow; have HB := jw HB hb; have HBX := jh hbx; have HGE := jh hge; have LT4 := jh hb.size; clear hb hbx hge hlow; have LZ4 := jh (jW (P := Tryz.prog) ((HLOW.out _ ZLT.out.1).trans HZ.out) Tryz.underlying29 rfl HSZ.out); have LS4 := jh (jW (P := Tryz.prog) ((HLOW.out _ ZLT.out.2.1).trans HSR.out) Tryz.underlying33 rfl HSZS.out); refine wp_region_lit ?_; refine ji rfl (jg LZ4.out) ?_; simp only [Act.put, pa, pb, pc]; refine ji rfl (jg LS4.out) ?_; simp only [Act.put, pa, pb, pc]; have HBX4 := jh (show mb < v_4.heap.size ∧ fb < v_4.heap.size from ⟨HBX.out.lt.2.2.1, HBX.out.lt.2.2.2⟩)
 go_upto_region 12 with (first | (go_at_call 10; refine (CL.out _ HB.out).mono ?_; rintro _ v_5 ⟨u, rfl, hu, hb⟩))
 have HBX := jh (HBX.out.later hb).rebase; have HB := jw HB hb; have LT5 := jh hb.size; have HLOW := jh (fun (b : Nat) (h9 : b < v_3.heap.size) => (hb.block b (Nat.lt_of_lt_of_le h9 LT4.out)).trans (HLOW.out b h9)); obtain ⟨base, hbase⟩ := je (v_5.heap.size); rw [← hbase] at HBX; obtain ⟨LL, hLL⟩ := je (l.map (bvOf n9)); rw [← hLL] at hu; have hLm : LL.length = m := by rw [hLL, List.length_map]; exact HML.out.symm
 have hgood : ∀ y ∈ LL, GoodV n9 y := by rw [hLL]; intro y hy; obtain ⟨c, hc, rfl⟩ := List.mem_map.1 hy; exact good_of HN0.out (HCH.out c hc).2.2
 have HLm := jh hLm; have HGD := jh hgood; obtain ⟨ua, uc, rfl⟩ := hu.shape9; have HU := jh hu; have NU := jh (fun (k : Nat) (hk : (Value.slice ua m uc).ownBlock = some k) => show k < base ∧ k ≠ mb ∧ k ≠ fb by have h1 := hu.lt k hk; have h2 := HBX4.out; omega); have NL3 := jh (show v_3.heap.size ≤ mb ∧ v_3.heap.size ≤ fb ∧ v_3.heap.size ≤ base by have h1 := HGE.out; have h2 := LT4.out; have h3 := LT5.out; omega); have NW := jh (show w.heap.size ≤ mb ∧ w.heap.size ≤ fb ∧ w.heap.size ≤ base by have h1 := NL3.out; have h2 := LT3.out; omega); clear hb hu hbase hLL hLm hgood LZ4 LS4
 go_wp2_with fail
 go_loopw [12] (fun i wr => ∃ (j : Nat) (f : Value → Option Value), j ≤ m ∧ i = .int .i64 j ∧ Hid (BoxAt wr bx p q g (g ^ lg % p) n9 c2 nb no mb fb 0 n9 7 base f9 s9 (Jr p g (g ^ lg % p) sk) (vvS p q g 7 sk) f (Bal.kept (LL.take j))) ∧ Hid (OwnV wr v_4.heap.size 52 44 (.slice ua m uc) m (LL.flatMap (vvS p q g 7 sk))) ∧ Hid (∀ b, b < v_3.heap.size → wr.heap[b]? = v_3.heap[b]?) ∧ Hid (Below w.heap.size w wr)) (fun i _ => m - (intOf i).toNat)
 case atStart => exact ⟨0, _, Nat.zero_le _, rfl, HBX, HU, HLOW, HB⟩
 case round => as_aux_lemma =>
  clear HBX HU HLOW HB; obtain ⟨j, f, hj, rfl, HBX, HU, HLOW, HB⟩ := hrel
  by_cases hlt : j < m
  ·have hltI : (j : Int) < (m : Int) := by omega
   obtain ⟨y, hy⟩ : ∃ y, LL[j]? = some y := ⟨_, List.getElem?_eq_getElem (by have := HLm.out; omega)⟩; obtain ⟨ub, uo, uc9, hue, hva⟩ := zE HU.out (by omega); injection hue with hue _ huc
   subst hue; subst huc; have LV := jh (loadV (hva.at (jV _ _ _) hy) (jV _ _ _ _)); have hjI : (0 : Int) ≤ (j : Int) := by omega
   have HY := jh hy; have HLT := jh hlt; have CP := jh (BPut_any STK.out HG.out (HGD.out y (List.mem_of_getElem? hy)) (by have h1 := kept_len (LL.take j); have h2 : (LL.take j).length ≤ j := List.length_take_le _ _; have h3 := H40.out; omega) wr HBX.out); obtain ⟨VL, hVL⟩ := je ((vvS p q g 7 sk y).toArray); have LV := jh (show (Instr.loadAt 52 (.pointer (some ⟨ub, uo + j * 44, none⟩))).run Tryz.prog wr = .ok (.agg VL) wr by rw [hVL]; exact LV.out); rw [← hVL] at CP; clear hva hy hlt hVL
   go_upto_region 15 with fail
   refine wp_region_lit ?_; refine ji (v := .pointer (some ⟨bx, 0, none⟩)) rfl (by kernel_rfl) ?_; simp only [Act.put, pa, pb, pc]; refine ji (v := .slice (some ⟨ub, uo, none⟩) m uc) rfl (by kernel_rfl) ?_; simp only [Act.put, pa, pb, pc]; refine ji (v := .int .i64 j) rfl (by kernel_rfl) ?_; simp only [Act.put, pa, pb, pc]; refine ji (v := .pointer (some ⟨ub, uo + j * 44, none⟩)) rfl (by simp [go_sem, hltI, hjI]) ?_; simp only [Act.put, pa, pb, pc]; refine ji rfl (jg LV.out) ?_; simp only [Act.put, pa, pb, pc]
   go_wp2_with (first | (go_at_call 11; refine CP.out.mono ?_; rintro _ w2 ⟨rfl, f2, hb2, ht2, -⟩; have HB2 := jh hb2; have HT2 := jh ht2; clear hb2 ht2))
   go_roundw
   case rel => exact ⟨j + 1, f2, HLT.out, by go_num, jh (by rw [List.take_add_one, HY.out]; exact (Bal.kept_snoc _ _).symm ▸ HB2.out), jh (OwnV.block HU.out fun k hk => HT2.out.low HBX.out (NU.out k hk).1 (NU.out k hk).2.1 (NU.out k hk).2.2), jh (fun b h9 => (HT2.out.low HBX.out (Nat.lt_of_lt_of_le h9 NL3.out.2.2) (by have := NL3.out; omega) (by have := NL3.out; omega)).trans (HLOW.out b h9)), jh (HB.out.trans (HT2.out.below NW.out.1 NW.out.2.1 (fun k hk => Nat.le_trans NW.out.2.2 (HBX.out.rows.lt hk).1) HB.out.size))⟩
   case measure => simp [intOf]; have := HLT.out; omega
  ·obtain rfl : j = m := by omega
   clear hlt hj; obtain ⟨E, hE⟩ := je (Bal.kept (LL.take j)); have hE20 : E.length ≤ 1000 := by rw [hE]; have h1 := kept_len (LL.take j); have h2 : (LL.take j).length ≤ j := List.length_take_le _ _; have h3 := H40.out; omega
   have hEv : ∀ y ∈ E, y.v < 4294967296 := fun y hy => by rw [hE] at hy; have := (HGD.out y (List.mem_of_mem_take (Bal.mem_kept.1 hy))).2.1; omega
   rw [← hE] at HBX; have HE20 := jh hE20; have HEV := jh hEv; clear hE hE20 hEv HU NU; obtain ⟨wx, hwx⟩ : ∃ wx : World, wx = wr := ⟨_, rfl⟩; rw [← hwx] at HBX HLOW HB ⊢; clear hwx; obtain ⟨y, hy⟩ := je (bvOf n9 x); have hgy : GoodV n9 y := by rw [hy]; exact good_of HN0.out HX9.out.2.2
   have HGY := jh hgy; have HY := jh hy; clear hy hgy; have LZ4 := jh (jW (P := Tryz.prog) ((HLOW.out _ ZLT.out.1).trans HZ.out) Tryz.underlying29 rfl HSZ.out); have LS4 := jh (jW (P := Tryz.prog) ((HLOW.out _ ZLT.out.2.1).trans HSR.out) Tryz.underlying33 rfl HSZS.out); have LX4 := jh (jW (P := Tryz.prog) ((HLOW.out _ ZLT.out.2.2).trans HX.out) Tryz.underlying57 rfl (by rw [QY, HXV.out]; rfl))
   go_upto_region 16 with fail
   refine wp_region_lit ?_; refine ji rfl (jg LZ4.out) ?_; simp only [Act.put, pa, pb, pc]; refine ji rfl (jg LS4.out) ?_; simp only [Act.put, pa, pb, pc]; refine ji rfl (jg LX4.out) ?_; simp only [Act.put, pa, pb, pc]; refine jS (v := .slice (some ⟨wx.heap.size, 0, none⟩) 1 1) (w' := wx.alloc (.cells XV 57)) rfl (run_one_choice (by rw [HXV.out]; rfl) rfl rfl) ?_; simp only [Act.put, pa, pb, pc]; obtain ⟨v_b, e9⟩ := je (wx.alloc (.cells XV 57)); obtain ⟨XS, h9⟩ := je (wx.heap.size); have hb := jc e9; have HCH1 := jh (show ChAt v_b XS 0 [x] from ch_one (qc (show v_b.heap[XS]? = some (.cells (chL x).toArray 57 (0, 0)) by rw [← HXV.out, e9, h9]; exact heap_alloc_new _ _))); rw [← e9, ← h9]; clear e9 h9; have HW := jh hb; clear hb LZ4 LS4 LX4; have HLW := jh (fun (W : World) (hb9 : Below wx.heap.size wx W) (b : Nat) (h9 : b < v_3.heap.size) => (hb9.block b (by have h1 := NL3.out; have h2 := HBX.out.bs; omega)).trans (HLOW.out b h9))
   go_wp2_with fail
   refine (CX.out _ XS (below_on HB.out HW.out) HCH1.out).mono ?_; rintro _ v_c ⟨u, rfl, hu, hb⟩; have hu1 : OwnV v_c v_b.heap.size 52 44 u 1 ([y].flatMap (vvS p q g 7 sk)) := by rw [HY.out]; exact hu
   obtain ⟨ub, uo, uc2, rfl, hva⟩ := zE hu1 (by decide); have hr0 := hva.at (jV _ _ _) (show [y][0]? = some y from rfl); rw [Nat.zero_mul, Nat.add_zero] at hr0; have HW := jw HW hb; clear hb hu hu1 hva HCH1; obtain ⟨VL, hVL⟩ := je (vvS p q g 7 sk y); have hVs : VL.length = 44 := by rw [hVL]; exact jV _ _ _ _
   have hV1 : ∀ u ∈ VL, u.oneCell' = true := by rw [hVL]; exact QL _ _ _ _
   have LV := jh (show (Instr.loadAt 52 (.pointer (some ⟨ub, uo, none⟩))).run Tryz.prog v_c = .ok (.agg VL.toArray) v_c by rw [hVL]; exact loadV hr0 (jV _ _ _ _)); have hszV : (Tryz.prog.info? 52).map (·.size) = some VL.toArray.size := by rw [jJ]; simp [hVs]
   have HVS := jh hVs; have HV1 := jh hV1; have HSZV := jh hszV; have HVL := jh hVL; clear hVL hVs hV1 hszV hr0; dsimp only
   go_step
   refine ji (v := .pointer (some ⟨ub, uo, none⟩)) rfl (by simp [go_sem]) ?_; simp only [Act.put, pa, pb, pc]; refine ji rfl (jg LV.out) ?_; simp only [Act.put, pa, pb, pc]; refine jS (v := .pointer (some ⟨v_c.heap.size, 0, none⟩)) (w' := v_c.alloc (.cells zm 52)) rfl (by kernel_rfl) ?_; simp only [Act.put, pa, pb, pc]; refine jM rfl _ _ _ rfl zm VL.toArray rfl rfl HSZV.out (by simp [HVS.out, zm]) (all_oneCell_toArray HV1.out) ?_; simp only [Act.put, pa, pb, pc]
   go_upto_region 17 with fail
   obtain ⟨v_d, e9⟩ := je (v_c.alloc (.cells VL.toArray 52)); obtain ⟨VB, h9⟩ := je (v_c.heap.size); have hb := jc e9; have HV := jh (show v_d.rangeAt VB 0 (jG y.k 7 y.v y.n (zz y.s) (sgC p q g 7 sk y) (sgS p q g 7 sk y)) by have h8 := HVL.out; unfold vvS qW at h8; rw [← h8]; exact qc (by rw [e9, h9]; exact heap_alloc_new _ _)); rw [← e9, ← h9]; have HW := jw HW hb; clear e9 h9 hb LV; obtain ⟨T, hT⟩ := je ((jq .u8 (zz y.s)).toArray); have HT := jh hT; have hyk : y.k < 256 := by have := HGY.out.1; omega
   have hyv : y.v < 4294967296 := by have := HGY.out.2.1; omega
   have CVO := jh (fun (W : World) (hb9 : Below wx.heap.size wx W) => by have h9 := BVotes_any (k := y.k) (v := y.v) (s := y.s) HE20.out STK.out.hn7 hyk hyv W (HBX.out.later hb9); rewrite [← hT] at h9; exact h9); have CFA := jh (fun (W : World) (hb9 : Below wx.heap.size wx W) => BFar_any STK.out.hn7 HPA.out.1 HPA.out.2.1 (by have := HPA.out; omega) HEV.out W (HBX.out.later hb9)); obtain ⟨VO, hVO⟩ := je (Bal.votesOf E n9 y.k y.v y.s); rw [← hVO] at CVO; obtain ⟨VN, hVN⟩ := je (VO.length); rw [← hVN] at CVO; have hv100 : VN ≤ 10000 := by rw [hVN, hVO]; have h1 := preV_len E y.k y.v y.s n9; have h2 : n9 * E.length ≤ 7 * 1000 := Nat.mul_le_mul STK.out.hn7 HE20.out; have h3 : Bal.votesOf E n9 y.k y.v y.s = QP E y.k y.v y.s n9 := rfl; rw [h3]; omega
   have HVN := jh hVN; have HV100 := jh hv100; clear hT hyk hyv hVO hVN hv100; refine wp_region_lit ?_; refine ji (v := .pointer (some ⟨bx, 0, none⟩)) rfl (by kernel_rfl) ?_; simp only [Act.put, pa, pb, pc]; refine ji (v := .pointer (some ⟨VB, 0, none⟩)) rfl (by kernel_rfl) ?_; simp only [Act.put, pa, pb, pc]; refine ji (v := .int .u8 y.k) rfl (jg (loadVk (QJ HV.out))) ?_; simp only [Act.put, pa, pb, pc]; refine ji (v := .pointer (some ⟨VB, 2, none⟩)) rfl (by kernel_rfl) ?_; simp only [Act.put, pa, pb, pc]; refine ji (v := .int .u32 y.v) rfl (jg (ZY (ZM HV.out))) ?_; simp only [Act.put, pa, pb, pc]; refine ji (v := .pointer (some ⟨VB, 4, none⟩)) rfl (by kernel_rfl) ?_; simp only [Act.put, pa, pb, pc]; refine ji (v := .agg T) rfl (by rw [HT.out]; exact jg (Zi HV.out (jC _))) ?_; simp only [Act.put, pa, pb, pc]
   go_upto_region 18 with (first | (go_at_call 14; refine (CVO.out _ HW.out).mono ?_; rintro _ v_e ⟨u1, rfl, ho1, hb⟩))
   have HO1 := jh ho1; obtain ⟨a1, c1, rfl⟩ := ho1.shape9; clear ho1; have HV := jh (jy HV.out hb); have HW := jw HW hb; clear hb
   go_upto_region 19 with (first | (go_at_call 12; refine (CFA.out _ HW.out).mono ?_; rintro _ v_f ⟨y1, rfl, hf1, -, hb⟩))
   have HF1 := jh hf1; have HO1 := jh (OwnV.later HO1.out hb); have HV := jh (jy HV.out hb); have HW := jw HW hb; clear hf1 hb; obtain ⟨i, hi⟩ := je (x.node % n9); have hin : i < n9 := by rw [hi]; exact Nat.mod_lt _ HN0.out
   have hyn : y.n = i + 1 := by rw [HY.out, hi]; rfl
   obtain ⟨kx, hkx⟩ : ∃ k, sk[i]? = some k := ⟨_, List.getElem?_eq_getElem (by have := HN.out; omega)⟩; have HKX := jh hkx; obtain ⟨KV, hKV⟩ : ∃ V : Array Value, V = #[.int .u64 (jf jd kx.1 0), .int .u64 (jf jd kx.1 1), .int .u64 (jf jd kx.1 2), .int .u64 (jf jd kx.1 3)] := ⟨_, rfl⟩; have LK := jh (show (Instr.loadAt 24 (.pointer (some ⟨kb, ko + i * 8, none⟩))).run Tryz.prog v_f = .ok (.agg KV) v_f by rw [hKV]; exact jX (num_key (HKS.out.later (below_on HB.out HW.out)) hkx)); have HKV := jh hKV; clear hKV; have yk : v_f.cell? ⟨CB, 22, none⟩ = some (.slice (some ⟨kb, ko, none⟩) n9 cap) := by have h9 := qc (L := ZV.toList) (by rw [Array.toArray_toList]; exact (HLW.out _ HW.out _ ZLT.out.1).trans HZ.out); exact h9 22 _ Z22.out
   have YK := jh yk; have hn7 : (n9 : Int) ≤ 7 := by have := STK.out.hn7; omega
   have E8 := jh (show IntKind.u8.wrap ((y.n : Int) - 1) = (i : Int) by rw [hyn]; simp [IntKind.wrap, IntKind.bits, IntKind.signed]; omega); have hiI : (i : Int) < (n9 : Int) := by omega
   have hi0 : (0 : Int) ≤ (i : Int) := by omega
   have HIN := jh hin; have HYN := jh hyn; clear hi hin hyn hkx yk; refine wp_region_lit ?_; refine ji (v := .pointer (some ⟨CB, 22, none⟩)) rfl (by kernel_rfl) ?_; simp only [Act.put, pa, pb, pc]; refine ji (v := .slice (some ⟨kb, ko, none⟩) n9 cap) rfl (jg (loadKs YK.out)) ?_; simp only [Act.put, pa, pb, pc]; refine ji (v := .pointer (some ⟨VB, 3, none⟩)) rfl (by kernel_rfl) ?_; simp only [Act.put, pa, pb, pc]; refine ji (v := .int .u8 y.n) rfl (jg (load8 (Qg HV.out))) ?_; simp only [Act.put, pa, pb, pc]; refine ji (v := .int .u8 i) rfl (by have e9 := E8.out; simp [go_sem, e9]) ?_; simp only [Act.put, pa, pb, pc]; refine ji (v := .pointer (some ⟨kb, ko + i * 8, none⟩)) rfl (by simp [go_sem, hiI, hi0]) ?_; simp only [Act.put, pa, pb, pc]; refine ji (v := .pointer (some ⟨kb, ko + i * 8, none⟩)) rfl (by kernel_rfl) ?_; simp only [Act.put, pa, pb, pc]; refine ji (v := .agg KV) rfl (jg LK.out) ?_; simp only [Act.put, pa, pb, pc]; refine jS (v := .pointer (some ⟨v_f.heap.size, 0, none⟩)) (w' := v_f.alloc (.cells zero4n 24)) rfl (by kernel_rfl) ?_; simp only [Act.put, pa, pb, pc]; refine jM rfl _ _ _ rfl zero4n KV rfl rfl (by rw [info_num4, HKV.out]; rfl) (by rw [HKV.out]; rfl) (by rw [HKV.out]; simp [Value.oneCell']) ?_; simp only [Act.put, pa, pb, pc]
   go_upto_region 20 with fail
   obtain ⟨v_g, e9⟩ := je (v_f.alloc (.cells KV 24)); obtain ⟨KB9, h9⟩ := je (v_f.heap.size); have hb := jc e9; have HKN := jh (show NumAt v_g KB9 kx.1 by rw [e9, h9, HKV.out]; exact NumAt.new _ _ _ _ rfl); rw [← e9, ← h9]; have HO1 := jh (OwnV.later HO1.out hb); have HV := jh (jy HV.out hb); have HW := jw HW hb; clear e9 h9 hb LK YK; have LV := jh (show (Instr.loadAt 52 (.pointer (some ⟨VB, 0, none⟩))).run Tryz.prog v_g = .ok (.agg VL.toArray) v_g by rw [HVL.out]; exact loadV HV.out (jD (jC _))); refine wp_region_lit ?_; refine ji rfl (jg LV.out) ?_; simp only [Act.put, pa, pb, pc]; refine jS (v := .pointer (some ⟨v_g.heap.size, 0, none⟩)) (w' := v_g.alloc (.cells zm 52)) rfl (by kernel_rfl) ?_; simp only [Act.put, pa, pb, pc]; refine jM rfl _ _ _ rfl zm VL.toArray rfl rfl HSZV.out (by simp [HVS.out, zm]) (all_oneCell_toArray HV1.out) ?_; simp only [Act.put, pa, pb, pc]
   go_upto_region 21 with fail
   obtain ⟨v_h, e9⟩ := je (v_g.alloc (.cells VL.toArray 52)); obtain ⟨BB, h9⟩ := je (v_g.heap.size); have hb := jc e9; have HR := jh (show v_h.heap[BB]? = some (.cells VL.toArray 52 (0, 0)) by rw [e9, h9]; exact heap_alloc_new _ _); have hbk : ∀ b, b < BB → v_h.heap[b]? = v_g.heap[b]? := fun b h8 => hb.block b (by omega)
   have LTO := jh (fun (g9 : Nat) (hg9 : (Value.slice a1 VN c1).ownBlock = some g9) => show g9 < BB by rw [h9]; exact (HO1.out.lt g9 hg9).2); have HBB := jh (show wx.heap.size ≤ BB ∧ BB < v_h.heap.size ∧ VB < BB ∧ KB9 < BB by rw [h9]; exact ⟨HW.out.size, by rw [e9]; simp, World.block_lt_of_cell? (a := ⟨VB, 0, none⟩) _ (QJ HV.out), HKN.out.lt⟩); rw [← e9, ← h9]; have HO1 := jh (OwnV.later HO1.out hb); have HV := jh (jy HV.out hb); have HKN := jn hb HKN; have HW := jw HW hb; clear e9 h9 hb hbk LV; obtain ⟨C, hC⟩ := je (sgC p q g 7 sk y); obtain ⟨S, hS⟩ := je (sgS p q g 7 sk y); have HRV := jh (show v_h.heap[BB]? = some (.cells (jG y.k 7 y.v y.n (zz y.s) C S).toArray 52 (0, 0)) by rw [hC, hS]; have h8 := HVL.out; unfold vvS qW at h8; rw [← h8]; exact HR.out); clear hC hS HR; have HSK := jh (show sgK sk y = kx.1 by have h9 := HYN.out; have h8 := HKX.out; simp [sgK, h9, List.getD_eq_getElem?_getD, h8]); have y18 : v_h.cell? ⟨SB, 18, none⟩ = some (.slice (some ⟨nb0, no0, none⟩) n9 c9) := (World.cell?_of_block (w := v_3) (a := ⟨SB, 18, none⟩) (HLW.out _ HW.out _ ZLT.out.2.1)).trans HS.out.nd; have Y18 := jh y18; have HRG := jh (qc HRV.out); have yv := ZM HV.out; have YV := jh yv; clear y18 yv; have hyv : (y.v : Int) ≤ 255 := by have := HGY.out.2.1; omega
   obtain ⟨N9, hN9⟩ := je (n9 + 1); obtain ⟨V9, hV9⟩ := je (1073741825 + y.v); have E31 := jh (show IntKind.u8.wrap (n9 : Int) = (n9 : Int) by simp [IntKind.wrap, IntKind.bits, IntKind.signed]; omega); have E32 := jh (show IntKind.u8.wrap ((n9 : Int) + 1) = (N9 : Int) by rw [hN9]; simp [IntKind.wrap, IntKind.bits, IntKind.signed]; omega); have E41 := jh (show IntKind.u32.wrap (1073741825 + (y.v : Int)) = (V9 : Int) by rw [hV9]; simp [IntKind.wrap, IntKind.bits, IntKind.signed]; omega); have HN9 := jh hN9; have HV9 := jh hV9; clear hN9 hV9; obtain ⟨R9, hR9⟩ : ∃ R : Nat, R = k9 % 5 := ⟨_, rfl⟩; have e9 : ((k9 : Int)).tmod 5 = (R9 : Int) := by rw [show ((k9 : Int)).tmod 5 = ((k9 % 5 : Nat) : Int) from rfl, hR9]
   have hr94 : R9 ≤ 4 := by omega
   have hr9I : (R9 : Int) ≤ 4 := by omega
   have HR9 := jh e9; have HR4 := jh hr94; refine wp_region_lit ?_; refine ji (v := .int .u8 k9) rfl (by kernel_rfl) ?_; simp only [Act.put, pa, pb, pc]; refine ji (v := .int .u8 R9) rfl (by simp [go_sem, e9]) ?_; simp only [Act.put, pa, pb, pc]; clear e9 hR9 hr94
   go_upto_block 2 with fail
   go_cut [97] (fun s97 wz => ∃ (K5 E5 V5 N5 : Nat) (B9 : Bool), s97 = s97 ∧ Hid (wz.heap[BB]? = some (.cells (jG K5 E5 V5 N5 (zz y.s) C S).toArray 52 (0, 0))) ∧ K5 < 256 ∧ V5 < 4294967296 ∧ N5 < 256 ∧ Hid (∀ (c s : Nat) (W : World), BoxAt W bx p q g (g ^ lg % p) n9 c2 nb no mb fb 0 n9 7 base f9 s9 (Jr p g (g ^ lg % p) sk) (vvS p q g 7 sk) f E → Calls Tryz.prog 11 #[.pointer (some ⟨bx, 0, none⟩), qv K5 E5 V5 N5 (zz y.s) c s] W fun r w' => r = .returned (.tuple #[.bool false, .int .i64 1]) ∧ Below W.heap.size W w') ∧ Hid (∀ (W : World), KeysAt W nb0 no0 (Jr p g (g ^ lg % p) sk) → Calls Tryz.prog 17 #[qg p q g (g ^ lg % p) f9 s9 (.slice (some ⟨nb0, no0, none⟩) n9 c9), qv K5 E5 V5 N5 (zz y.s) (Jx p q g kx.1 (JJ q kx.1 (qy K5 E5 V5 N5 (zz y.s))) (qy K5 E5 V5 N5 (zz y.s))) (Qj p q g kx.1 (JJ q kx.1 (qy K5 E5 V5 N5 (zz y.s))) (qy K5 E5 V5 N5 (zz y.s)))] W fun r w' => r = .returned (.bool B9) ∧ Below W.heap.size W w') ∧ Hid (decide (0 < R9) = !B9) ∧ Hid (Below wx.heap.size wx wz) ∧ Hid (wz.rangeAt VB 0 (jG y.k 7 y.v y.n (zz y.s) (sgC p q g 7 sk y) (sgS p q g 7 sk y))) ∧ Hid (NumAt wz KB9 kx.1) ∧ Hid (OwnV wz v_d.heap.size 52 44 (.slice a1 VN c1) VN (VO.flatMap (vvS p q g 7 sk))))
   case first =>
    rcases (show R9 = 0 ∨ R9 = 1 ∨ R9 = 2 ∨ R9 = 3 ∨ R9 = 4 by have := HR4.out; omega) with ht | ht | ht | ht | ht
    ·have HT9 := jh ht; have hm0 : ((R9 : Int) == 0) = true := by rw [ht]; rfl
     clear ht; have c9_ : v_h.cell? ⟨BB, 1, none⟩ = some (.int .u64 ((7 : Nat) : Int)) := vo_e HRG.out; have f9_ := QO HRV.out 1
     go_wp2_with fail
     go_meet
     clear c9_ f9_ hm0; obtain ⟨v_i, e9⟩ := je (v_h.setCell ⟨BB, 1, none⟩ (.int .u64 8)); have hoth : ∀ b, b ≠ BB → v_i.heap[b]? = v_h.heap[b]? := fun b h8 => by rw [e9]; exact heap_setCell_other v_h ⟨BB, 1, none⟩ b _ h8
     have hb2 : y.v < 4294967296 := by omega
     have hb3 : y.n < 256 := by have := HGY.out.2.2.1; omega
     rw [← e9]; exact ⟨y.k, 8, y.v, y.n, true, trivial, jh (by rw [e9]; exact ZO HRV.out), by have := HGY.out.1; omega, hb2, hb3, jh (fun c s W h9 => BPut_epoch (jC _) (by decide) W h9), jh (fun W h9 => (by have h7 := check_good (ep := 8) (cap := c9) (nb := nb0) (no := no0) STK.out HG.out y HGY.out W h9; unfold vvS qW sgC sgS at h7; rw [HSK.out] at h7; exact h7)), jh (by rw [HT9.out]; rfl), jh (by rw [e9]; exact HW.out.setCell HBB.out.1 _), jh (fun j u hj => (World.cell?_of_block (w := v_h) (hoth VB (by have := HBB.out; omega))).trans (HV.out j u hj)), jh (fun j hj => (World.cell?_of_block (w := v_h) (a := ⟨KB9, j, none⟩) (hoth KB9 (by have := HBB.out; omega))).trans (HKN.out j hj)), jh (OwnV.block HO1.out fun g9 hg9 => hoth g9 (Nat.ne_of_lt (LTO.out g9 hg9)))⟩
    ·have HT9 := jh ht; have hm0 : ((R9 : Int) == 0) = false := by rw [ht]; rfl
     have hm1 : ((R9 : Int) == 1) = true := by rw [ht]; rfl
     clear ht; have c9_ : v_h.cell? ⟨BB, 0, none⟩ = some (.int .u8 y.k) := QJ HRG.out; have f9_ := QO HRV.out 0
     go_wp2_with fail
     go_meet
     clear c9_ f9_ hm0 hm1; obtain ⟨v_i, e9⟩ := je (v_h.setCell ⟨BB, 0, none⟩ (.int .u8 0)); have hoth : ∀ b, b ≠ BB → v_i.heap[b]? = v_h.heap[b]? := fun b h8 => by rw [e9]; exact heap_setCell_other v_h ⟨BB, 0, none⟩ b _ h8
     have hb2 : y.v < 4294967296 := by omega
     have hb3 : y.n < 256 := by have := HGY.out.2.2.1; omega
     rw [← e9]; exact ⟨0, 7, y.v, y.n, false, trivial, jh (by rw [e9]; exact ZO HRV.out), by decide, hb2, hb3, jh (fun c s W h9 => BPut_no (jC _) (fun W9 hk9 => JY STK.out (jC _) hb2 hb3 (Or.inl rfl) W9 hk9) W h9), jh (fun W h9 => JY STK.out (jC _) hb2 hb3 (Or.inl rfl) W h9), jh (by rw [HT9.out]; rfl), jh (by rw [e9]; exact HW.out.setCell HBB.out.1 _), jh (fun j u hj => (World.cell?_of_block (w := v_h) (hoth VB (by have := HBB.out; omega))).trans (HV.out j u hj)), jh (fun j hj => (World.cell?_of_block (w := v_h) (a := ⟨KB9, j, none⟩) (hoth KB9 (by have := HBB.out; omega))).trans (HKN.out j hj)), jh (OwnV.block HO1.out fun g9 hg9 => hoth g9 (Nat.ne_of_lt (LTO.out g9 hg9)))⟩
    ·have HT9 := jh ht; have hm0 : ((R9 : Int) == 0) = false := by rw [ht]; rfl
     have hm1 : ((R9 : Int) == 1) = false := by rw [ht]; rfl
     have hm2 : ((R9 : Int) == 2) = true := by rw [ht]; rfl
     clear ht; have c9_ : v_h.cell? ⟨BB, 0, none⟩ = some (.int .u8 y.k) := QJ HRG.out; have f9_ := QO HRV.out 0
     go_wp2_with fail
     go_meet
     clear c9_ f9_ hm0 hm1 hm2; obtain ⟨v_i, e9⟩ := je (v_h.setCell ⟨BB, 0, none⟩ (.int .u8 3)); have hoth : ∀ b, b ≠ BB → v_i.heap[b]? = v_h.heap[b]? := fun b h8 => by rw [e9]; exact heap_setCell_other v_h ⟨BB, 0, none⟩ b _ h8
     have hb2 : y.v < 4294967296 := by omega
     have hb3 : y.n < 256 := by have := HGY.out.2.2.1; omega
     rw [← e9]; exact ⟨3, 7, y.v, y.n, false, trivial, jh (by rw [e9]; exact ZO HRV.out), by decide, hb2, hb3, jh (fun c s W h9 => BPut_no (jC _) (fun W9 hk9 => JY STK.out (jC _) hb2 hb3 (Or.inr rfl) W9 hk9) W h9), jh (fun W h9 => JY STK.out (jC _) hb2 hb3 (Or.inr rfl) W h9), jh (by rw [HT9.out]; rfl), jh (by rw [e9]; exact HW.out.setCell HBB.out.1 _), jh (fun j u hj => (World.cell?_of_block (w := v_h) (hoth VB (by have := HBB.out; omega))).trans (HV.out j u hj)), jh (fun j hj => (World.cell?_of_block (w := v_h) (a := ⟨KB9, j, none⟩) (hoth KB9 (by have := HBB.out; omega))).trans (HKN.out j hj)), jh (OwnV.block HO1.out fun g9 hg9 => hoth g9 (Nat.ne_of_lt (LTO.out g9 hg9)))⟩
    ·have HT9 := jh ht; have hm0 : ((R9 : Int) == 0) = false := by rw [ht]; rfl
     have hm1 : ((R9 : Int) == 1) = false := by rw [ht]; rfl
     have hm2 : ((R9 : Int) == 2) = false := by rw [ht]; rfl
     have hm3 : ((R9 : Int) == 3) = true := by rw [ht]; rfl
     clear ht; have c9_ : v_h.cell? ⟨BB, 3, none⟩ = some (.int .u8 y.n) := Qg HRG.out; have f9_ := QO HRV.out 3; have y18 := Y18.out; have e31 := E31.out; have e32 := E32.out
     go_wp2_with fail
     go_meet
     clear c9_ f9_ hm0 hm1 hm2 hm3 y18 e31 e32; obtain ⟨v_i, e9⟩ := je (v_h.setCell ⟨BB, 3, none⟩ (.int .u8 N9)); have hoth : ∀ b, b ≠ BB → v_i.heap[b]? = v_h.heap[b]? := fun b h8 => by rw [e9]; exact heap_setCell_other v_h ⟨BB, 3, none⟩ b _ h8
     have hb2 : y.v < 4294967296 := by omega
     have hb3 : N9 < 256 := by rw [HN9.out]; omega
     rw [← e9]; exact ⟨y.k, 7, y.v, N9, false, trivial, jh (by rw [e9]; exact ZO HRV.out), by have := HGY.out.1; omega, hb2, hb3, jh (fun c s W h9 => BPut_no (jC _) (fun W9 hk9 => BCheck_node STK.out (jC _) hb2 hb3 HGY.out.1 (by have := HGY.out.2.1; omega) (by rw [HN9.out]; omega) W9 hk9) W h9), jh (fun W h9 => BCheck_node STK.out (jC _) hb2 hb3 HGY.out.1 (by have := HGY.out.2.1; omega) (by rw [HN9.out]; omega) W h9), jh (by rw [HT9.out]; rfl), jh (by rw [e9]; exact HW.out.setCell HBB.out.1 _), jh (fun j u hj => (World.cell?_of_block (w := v_h) (hoth VB (by have := HBB.out; omega))).trans (HV.out j u hj)), jh (fun j hj => (World.cell?_of_block (w := v_h) (a := ⟨KB9, j, none⟩) (hoth KB9 (by have := HBB.out; omega))).trans (HKN.out j hj)), jh (OwnV.block HO1.out fun g9 hg9 => hoth g9 (Nat.ne_of_lt (LTO.out g9 hg9)))⟩
    ·have HT9 := jh ht; have hm0 : ((R9 : Int) == 0) = false := by rw [ht]; rfl
     have hm1 : ((R9 : Int) == 1) = false := by rw [ht]; rfl
     have hm2 : ((R9 : Int) == 2) = false := by rw [ht]; rfl
     have hm3 : ((R9 : Int) == 3) = false := by rw [ht]; rfl
     have hm4 : ((R9 : Int) == 4) = true := by rw [ht]; rfl
     clear ht; have c9_ : v_h.cell? ⟨BB, 2, none⟩ = some (.int .u32 y.v) := ZM HRG.out; have f9_ := QO HRV.out 2; have yv := YV.out; have e41 := E41.out
     go_wp2_with fail
     go_meet
     clear c9_ f9_ hm0 hm1 hm2 hm3 hm4 yv e41; obtain ⟨v_i, e9⟩ := je (v_h.setCell ⟨BB, 2, none⟩ (.int .u32 V9)); have hoth : ∀ b, b ≠ BB → v_i.heap[b]? = v_h.heap[b]? := fun b h8 => by rw [e9]; exact heap_setCell_other v_h ⟨BB, 2, none⟩ b _ h8
     have hb2 : V9 < 4294967296 := by rw [HV9.out]; omega
     have hb3 : y.n < 256 := by have := HGY.out.2.2.1; omega
     rw [← e9]; exact ⟨y.k, 7, V9, y.n, false, trivial, jh (by rw [e9]; exact ZO HRV.out), by have := HGY.out.1; omega, hb2, hb3, jh (fun c s W h9 => BPut_no (jC _) (fun W9 hk9 => BCheck_view STK.out (jC _) hb2 hb3 HGY.out.1 (by rw [HV9.out]; omega) W9 hk9) W h9), jh (fun W h9 => BCheck_view STK.out (jC _) hb2 hb3 HGY.out.1 (by rw [HV9.out]; omega) W h9), jh (by rw [HT9.out]; rfl), jh (by rw [e9]; exact HW.out.setCell HBB.out.1 _), jh (fun j u hj => (World.cell?_of_block (w := v_h) (hoth VB (by have := HBB.out; omega))).trans (HV.out j u hj)), jh (fun j hj => (World.cell?_of_block (w := v_h) (a := ⟨KB9, j, none⟩) (hoth KB9 (by have := HBB.out; omega))).trans (HKN.out j hj)), jh (OwnV.block HO1.out fun g9 hg9 => hoth g9 (Nat.ne_of_lt (LTO.out g9 hg9)))⟩
   case rest =>
    clear HW HV HKN HO1; obtain ⟨K5, E5, V5, N5, B9, -, HRW, hk5, hv5, hn5, HPUT, HCHK, HRB, HW, HV, HKN, HO1⟩ := hcut; obtain ⟨v_i, hw⟩ : ∃ v : World, v = wc := ⟨_, rfl⟩; rw [← hw] at HRW HW HV HKN HO1 ⊢; clear hw
    go_upto_region 32 with fail
    have HNL := jh (keys_lt HNK.out (by unfold Jr; rw [List.length_map]; have h1 := HN.out; have h2 := HN0.out; omega)); have hkey := HKY.out kx (List.mem_of_getElem? HKX.out); have LS5 := jh (jW (P := Tryz.prog) ((HLW.out _ HW.out _ ZLT.out.2.1).trans HSR.out) Tryz.underlying33 rfl HSZS.out); have LO := jh (jW (P := Tryz.prog) HRW.out Tryz.underlying52 rfl (by rw [jJ]; simp [jD (jC _)])); obtain ⟨C5, hC5⟩ := je (Jx p q g kx.1 (JJ q kx.1 (qy K5 E5 V5 N5 (zz y.s))) (qy K5 E5 V5 N5 (zz y.s))); obtain ⟨S5, hS5⟩ := je (Qj p q g kx.1 (JJ q kx.1 (qy K5 E5 V5 N5 (zz y.s))) (qy K5 E5 V5 N5 (zz y.s))); have h9 := HCHK.out; rw [← hC5, ← hS5] at h9; have HCHK := jh h9; clear h9; obtain ⟨OV, hOV⟩ := je ((jG K5 E5 V5 N5 (zz y.s) C S).toArray); obtain ⟨OW, hOW⟩ := je ((jG K5 E5 V5 N5 (zz y.s) C5 S5).toArray); have hsb : qo (zz y.s) := hsL_bytes (by have := HGY.out.2.2.2; omega); have CS := jh (fun (W : World) => by have h9 := BSign_any (gh := g ^ lg % p) (fa := f9) (se := s9) (nodes := .slice (some ⟨nb0, no0, none⟩) n9 c9) (secret := kx.1) (k := K5) (e := E5) (v := V5) (n := N5) (c := C) (s := S) (h := zz y.s) rfl HSET.out.may HGP.out HGG.out HSET.out.prime.2.1 HGQ.out hkey.1 hkey.2.2.1 (jC _) hsb hk5 hv5 hn5 W; rewrite [HSV.out, ← hC5, ← hS5] at h9; unfold qv jo words at h9; rewrite [← hOV, ← hOW] at h9; exact h9); have CCK := jh (fun (W : World) (h8 : KeysAt W nb0 no0 (Jr p g (g ^ lg % p) sk)) => by have h9 := HCHK.out W h8; unfold qv at h9; rewrite [HSV.out, ← hOW] at h9; exact h9); have CPT := jh (fun (W : World) (hb9 : Below wx.heap.size wx W) => by have h9 := HPUT.out C5 S5 W (HBX.out.later hb9); unfold qv at h9; rewrite [← hOW] at h9; exact h9); rw [← hOV] at LO HRW; have HOS := jh (show OV.size = 44 by rw [hOV]; simp [jD (jC _)]); have HWS := jh (show OW.size = 44 by rw [hOW]; simp [jD (jC _)]); have HW1 := jh (show OW.all (·.oneCell') = true by rw [hOW]; exact all_oneCell_toArray (Ze _ _ _ _ _ _ _)); clear hOV hOW hC5 hS5 hsb hkey HCHK HPUT hk5 hv5 hn5; refine wp_region_lit ?_; refine ji rfl (jg LS5.out) ?_; simp only [Act.put, pa, pb, pc]; refine ji rfl (jg LO.out) ?_; simp only [Act.put, pa, pb, pc]; refine ji rfl (jg (qP HKN.out)) ?_; simp only [Act.put, pa, pb, pc]
    go_wp2_with fail
    refine (CS.out _).mono ?_; rintro _ v_j ⟨rfl, hb⟩; have HRJ := jb hb HRW; dsimp only
    go_step
    refine ji (v := .tuple #[.agg OW, .int .i64 0]) rfl (by kernel_rfl) ?_; simp only [Act.put, pa, pb, pc]; refine ji (v := .agg OW) rfl (by kernel_rfl) ?_; simp only [Act.put, pa, pb, pc]; refine ji (v := .int .i64 0) rfl (by kernel_rfl) ?_; simp only [Act.put, pa, pb, pc]; refine jI rfl _ _ _ rfl BB OV OW _ HRJ.out rfl rfl (by rw [jJ, HWS.out]) (by rw [HOS.out, HWS.out]) HW1.out ?_; simp only [Act.put, pa, pb, pc]
    go_upto_region 33 with fail
    obtain ⟨v_k, e9⟩ := je (v_j.setRow BB OW); have HRK := jh (show v_k.heap[BB]? = some (.cells OW 52 (0, 0)) by rw [e9]; exact setRow_heap _ _ _ _ _ _ HRJ.out); have hgs : v_j.grownBy v_k (some BB) := by rw [e9]; exact qL _ _ _
    have HV := jh (jy HV.out hb); have HO1 := jh (OwnV.later HO1.out hb); have HW := jw HW hb; have HV := jh (show v_k.rangeAt VB 0 (jG y.k 7 y.v y.n (zz y.s) (sgC p q g 7 sk y) (sgS p q g 7 sk y)) from fun j u hj => (World.cell?_of_block (w := v_j) (hgs.block VB (World.block_lt_of_cell? (a := ⟨VB, 0, none⟩) _ (QJ HV.out)) (fun e => by have e7 := Option.some.inj e; have := HBB.out; omega))).trans (HV.out j u hj)); have HO1 := jh (OwnV.block HO1.out fun g9 hg9 => hgs.block g9 (HO1.out.lt g9 hg9).2 (fun e => by have e7 := Option.some.inj e; have := LTO.out g9 hg9; omega)); have HW := jh (HW.out.grown hgs HW.out.size (fun k hk => by have e7 : BB = k := Option.some.inj hk; rw [← e7]; exact HBB.out.1)); rw [← e9]; clear e9 hgs hb HRJ LS5 LO
    go_upto_region 35 with fail
    have LW := jh (jW (P := Tryz.prog) HRK.out Tryz.underlying52 rfl (by rw [jJ, HWS.out])); refine wp_region_lit ?_; refine ji (v := .pointer (some ⟨bx, 0, none⟩)) rfl (by kernel_rfl) ?_; simp only [Act.put, pa, pb, pc]; refine ji rfl (jg LW.out) ?_; simp only [Act.put, pa, pb, pc]
    go_upto_region 36 with (first | (go_at_call 11; refine (CPT.out _ HW.out).mono ?_; rintro _ v_l ⟨rfl, hb⟩))
    have HV := jh (jy HV.out hb); have HO1 := jh (OwnV.later HO1.out hb); have HRK := jb hb HRK; have HW := jw HW hb; clear hb LW; refine wp_region_lit ?_
    go_wp2_with fail
    refine (CFA.out _ HW.out).mono ?_; rintro _ v_m ⟨y2, rfl, hf2, -, hb⟩; obtain rfl := far_uniq (fun _ => Iff.rfl) HF1.out hf2; have HV := jh (jy HV.out hb); have HO1 := jh (OwnV.later HO1.out hb); have HRK := jb hb HRK; have HW := jw HW hb; clear hb hf2; have LT := jh (show (Instr.loadAt 48 (.pointer (some ⟨VB, 4, none⟩))).run Tryz.prog v_m = .ok (.agg T) v_m by rw [HT.out]; exact Zi HV.out (jC _)); dsimp only
    go_step
    refine jt (v := .int .u32 (max 0 y1)) (by kernel_rfl) (by kernel_rfl) ?_; simp only [Act.put, pa, pb, pc]; refine jt (v := .bool true) (by kernel_rfl) (by simp [go_sem]) ?_
    iterate 2
     simp only [Act.put, pa, pb, pc]; refine ji (v := .bool true) rfl (by kernel_rfl) ?_
    simp only [Act.put, pa, pb, pc]; refine jt (v := .pointer (some ⟨bx, 0, none⟩)) (by kernel_rfl) (by kernel_rfl) ?_; simp only [Act.put, pa, pb, pc]; refine jt (v := .pointer (some ⟨VB, 0, none⟩)) (by kernel_rfl) (by kernel_rfl) ?_; simp only [Act.put, pa, pb, pc]; refine jt (v := .int .u8 y.k) (by kernel_rfl) (jg (loadVk (QJ HV.out))) ?_; simp only [Act.put, pa, pb, pc]; refine jt (v := .pointer (some ⟨VB, 2, none⟩)) (by kernel_rfl) (by kernel_rfl) ?_; simp only [Act.put, pa, pb, pc]; refine jt (v := .int .u32 y.v) (by kernel_rfl) (jg (ZY (ZM HV.out))) ?_; simp only [Act.put, pa, pb, pc]; refine jt (v := .pointer (some ⟨VB, 4, none⟩)) (by kernel_rfl) (by kernel_rfl) ?_; simp only [Act.put, pa, pb, pc]; refine jt (v := .agg T) (by kernel_rfl) (jg LT.out) ?_; simp only [Act.put, pa, pb, pc]
    go_wp2_with fail
    refine (CVO.out _ HW.out).mono ?_; rintro _ v_n ⟨u2, rfl, ho2, hb⟩; have HO2 := jh ho2; obtain ⟨a2, c3, rfl⟩ := ho2.shape9; clear ho2; have HV := jh (jy HV.out hb); have HO1 := jh (OwnV.later HO1.out hb); have HRK := jb hb HRK; have HW := jw HW hb; clear hb
    go_wp2_with fail
    refine (same_any HVN.out HV100.out _ HO2.out HO1.out).mono ?_; rintro _ v_o ⟨rfl, hb⟩; have HV := jh (jy HV.out hb); have HO1 := jh (OwnV.later HO1.out hb); have HRK := jb hb HRK; have HW := jw HW hb; clear hb; have LS5 := jh (jW (P := Tryz.prog) ((HLW.out _ HW.out _ ZLT.out.2.1).trans HSR.out) Tryz.underlying33 rfl HSZS.out); have LW := jh (jW (P := Tryz.prog) HRK.out Tryz.underlying52 rfl (by rw [jJ, HWS.out])); have HKW := jh (KeysAt.block HNK.out (HLW.out _ HW.out _ HNL.out)); dsimp only
    go_step
    iterate 2
     refine ji (v := .bool true) rfl (by kernel_rfl) ?_; simp only [Act.put, pa, pb, pc]
    refine jt (v := .agg SV) (by kernel_rfl) (jg LS5.out) ?_; simp only [Act.put, pa, pb, pc]; refine jt (v := .agg OW) (by kernel_rfl) (jg LW.out) ?_; simp only [Act.put, pa, pb, pc]
    go_wp2_with fail
    refine (CCK.out _ HKW.out).mono ?_; rintro _ v_p ⟨rfl, hb⟩; have HW := jw HW hb; clear hb LS5 LW HKW; dsimp only
    go_step
    refine jt (v := .bool (!B9)) (by kernel_rfl) (by kernel_rfl) ?_; simp only [Act.put, pa, pb, pc]; refine jt (v := .int .u8 k9) (by kernel_rfl) (by kernel_rfl) ?_; simp only [Act.put, pa, pb, pc]; refine jt (v := .int .u8 R9) (by kernel_rfl) (by have e9 := HR9.out; simp [go_sem, e9]) ?_; simp only [Act.put, pa, pb, pc]; refine jt (v := .bool (!B9)) (by kernel_rfl) (by have e9 := HRB.out; simp [go_sem, e9]) ?_; simp only [Act.put, pa, pb, pc]; refine jt (v := .bool true) (by kernel_rfl) (by simp [go_sem]) ?_
    iterate 2
     simp only [Act.put, pa, pb, pc]; refine ji (v := .bool true) rfl (by kernel_rfl) ?_
    simp only [Act.put, pa, pb, pc]
    go_wp2_with (first | (go_at_call 8; refine (JU _).mono ?_; rintro _ wl ⟨rfl, hbl⟩; have HW := jw HW hbl; clear hbl))
    go_ret
    exact ⟨rfl, below_on HB.out HW.out⟩
end Go.Proofs.YtdpkpcbikbbcbaaGreat
