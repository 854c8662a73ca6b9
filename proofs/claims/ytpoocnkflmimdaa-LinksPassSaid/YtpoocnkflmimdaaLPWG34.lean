/- Layer 8 (groups): In -/
import Derived.Test.YtpoocnkflmimdaaLPWG33
import Derived.Deep.DeepCutAuto
namespace Go.Proofs.Ytpoocnkflmimdaa
open Go.ChangeShapes Go.WideShapes Go.ChangeAt Go.RowKit
/-- A group, as a value. -/
def grpV (gp gq gg gh : Nat) : Value := .agg #[.int .u64 (dgt W64 gp 0), .int .u64 (dgt W64 gp 1), .int .u64 (dgt W64 gp 2), .int .u64 (dgt W64 gp 3), .int .u64 (dgt W64 gq 0), .int .u64 (dgt W64 gq 1), .int .u64 (dgt W64 gq 2), .int .u64 (dgt W64 gq 3), .int .u64 (dgt W64 gg 0), .int .u64 (dgt W64 gg 1), .int .u64 (dgt W64 gg 2), .int .u64 (dgt W64 gg 3), .int .u64 (dgt W64 gh 0), .int .u64 (dgt W64 gh 1), .int .u64 (dgt W64 gh 2), .int .u64 (dgt W64 gh 3)]
/-- Is a number of the group? -/
def inG (gp gq a : Nat) : Prop := mayG gp a ∧ a ^ gq % gp = 1
instance (gp gq a : Nat) : Decidable (inG gp gq a) := by unfold inG; exact inferInstance
set_option linter.unusedVariables false in
set_option linter.unusedSimpArgs false in
set_option maxRecDepth 100000 in
set_option maxHeartbeats 4000000 in
theorem in_yes {gp gq gg gh a : Nat} (h : mayG gp a) (ha9 : a < M256) (hq : gq < M256) (hm : gp < M256) (w : World) :
    Calls Try.prog 44 #[grpV gp gq gg gh, numV a] w fun e w' => e = .returned (.bool (decide (inG gp gq a))) ∧ Below w.heap.size w w' := by
  unfold grpV
  obtain ⟨x, hx⟩ : ∃ x, x = a ^ gq % gp := ⟨_, rfl⟩
  have hxl : x < M256 := by rw [hx]; exact Nat.lt_trans (Nat.mod_lt _ (by have := h.1; omega)) hm
  have CE := Lib.hid (fun w => by have h9 := gexp_yes (gq := gq) (gg := gg) (gh := gh) h ha9 hq hm w; rw [← hx] at h9; unfold numV words at h9; exact h9)
  have heq := eq_num x 1 hxl (by decide)
  obtain ⟨d, hd⟩ : ∃ d, d = decide (x = 1) := ⟨_, rfl⟩
  have hdd : decide (inG gp gq a) = d := by rw [hd]; exact decide_eq_decide.2 ⟨fun h9 => hx.trans h9.2, fun h9 => ⟨h, hx.symm.trans h9⟩⟩
  rw [hdd]
  rw [← hd] at heq
  have C1 := Lib.hid (fun w => by have h := of_lit 1 1 rfl (by decide) w; unfold numV words at h; exact h)
  clear hx hxl hd hdd
  clear h ha9 hq hm
  unfold numV words
  go_enter Try.func44, Try.ntmps44
  go_wp2_with fail
  obtain ⟨w0, e0⟩ : ∃ w0, w0 = w.alloc (.cells #[.int .u64 (dgt W64 gp 0), .int .u64 (dgt W64 gp 1), .int .u64 (dgt W64 gp 2), .int .u64 (dgt W64 gp 3), .int .u64 (dgt W64 gq 0), .int .u64 (dgt W64 gq 1), .int .u64 (dgt W64 gq 2), .int .u64 (dgt W64 gq 3), .int .u64 (dgt W64 gg 0), .int .u64 (dgt W64 gg 1), .int .u64 (dgt W64 gg 2), .int .u64 (dgt W64 gg 3), .int .u64 (dgt W64 gh 0), .int .u64 (dgt W64 gh 1), .int .u64 (dgt W64 gh 2), .int .u64 (dgt W64 gh 3)] 26) := ⟨_, rfl⟩
  obtain ⟨GG, hGG⟩ : ∃ b, b = w.heap.size := ⟨_, rfl⟩
  have b0 : Below w.heap.size w w0 := by rw [e0]; exact (Below.refl _ _).alloc (Nat.le_refl _) _
  have s0 : w0.heap.size = w.heap.size + 1 := by rw [e0]; simp
  have g0 : GrpAt w0 GG gp gq gg gh := by rw [e0, hGG]; exact GrpAt.new _ _ _ _ _ _
  rw [← e0, ← s0, ← hGG]
  have HB0 := Lib.hid b0
  clear e0 hGG b0 s0
  obtain ⟨wz, e_0⟩ : ∃ w9, w9 = w0.alloc (.cells #[.int .u64 (dgt W64 a 0), .int .u64 (dgt W64 a 1), .int .u64 (dgt W64 a 2), .int .u64 (dgt W64 a 3)] 24) := ⟨_, rfl⟩
  have s_0 : wz.heap.size = w0.heap.size + 1 := by rw [e_0]; simp
  have b_0 : Below w0.heap.size w0 wz := by rw [e_0]; exact (Below.refl _ _).alloc (Nat.le_refl _) _
  have n_0 : NumAt wz (w0.heap.size) a := by rw [e_0]; exact NumAt.new w0 a _ _ rfl
  rw [← e_0]
  obtain ⟨AA, h_0⟩ : ∃ b, b = w0.heap.size := ⟨_, rfl⟩
  have hwL : w0.heap.size ≤ AA := by omega
  have hRd : AA < wz.heap.size := by omega
  rw [← h_0] at n_0 ⊢
  have HAA := Lib.hid n_0
  have B := Lib.hid b_0
  have hwAA : w0.heap.size ≤ AA := by omega
  have HSZ := Lib.hid (show wz.heap.size = AA + 1 by omega)
  clear e_0 s_0 b_0 n_0 h_0
  clear g0
  refine (CE.out _).mono ?_
  rintro _ w2 ⟨rfl, hb⟩
  have B := Lib.hid (below_later B.out hb)
  clear hb hRd HAA
  go_upto_region 2 with fail
  obtain ⟨w3, e3⟩ : ∃ w9, w9 = w2.alloc (.cells #[.int .u64 (dgt W64 x 0), .int .u64 (dgt W64 x 1), .int .u64 (dgt W64 x 2), .int .u64 (dgt W64 x 3)] 24) := ⟨_, rfl⟩
  obtain ⟨XX, hXX⟩ : ∃ b, b = w2.heap.size := ⟨_, rfl⟩
  have hb : Below w2.heap.size w2 w3 := by rw [e3]; exact (Below.refl _ _).alloc (Nat.le_refl _) _
  have HXX := Lib.hid (show NumAt w3 XX x by rw [e3, hXX]; exact NumAt.new _ _ _ _ rfl)
  have hRd : XX < w3.heap.size := HXX.out.lt
  have B := Lib.hid (below_later B.out hb)
  rw [← e3, ← hXX]
  clear e3 hXX hb
  refine wp_region_fresh 7 (fun _ => none) (by kernel_rfl) (by kernel_rfl) (fun _ _ _ _ _ h => h) (fun F hn9 hcl hbl => ?_)
  have r_XX_0 := fun X9 : Wd F => (NumAt.later (hbl X9.world X9.fact) HXX.out) 0 (by omega)
  have r_XX_1 := fun X9 : Wd F => (NumAt.later (hbl X9.world X9.fact) HXX.out) 1 (by omega)
  have r_XX_2 := fun X9 : Wd F => (NumAt.later (hbl X9.world X9.fact) HXX.out) 2 (by omega)
  have r_XX_3 := fun X9 : Wd F => (NumAt.later (hbl X9.world X9.fact) HXX.out) 3 (by omega)
  have HCL := Lib.hid hcl
  clear hcl hbl
  refine wpF_seg 7 0 _ _ (fun _ _ _ => rfl) (by decide) ?_
  simp only [List.take_succ_cons, List.take_zero, List.drop_succ_cons, List.drop_zero, Nat.reduceAdd]
  repeat (go_big_quiet_step ((first | (go_at_call 27; with_reducible exact to_class HCL.out (C1.out _)))))
  refine wpQuiet_nil ?_
  refine wpF_nil ?_
  intro bs w4 hb _ _
  clear r_XX_0 r_XX_1 r_XX_2 r_XX_3
  have HXX := Lib.hid (NumAt.later hb HXX.out)
  have hRd := Nat.lt_of_lt_of_le hRd hb.size
  have B := Lib.hid (below_later B.out hb)
  clear hb
  simp only [over]
  go_wp2_with fail
  refine bodyPost_ret (v := .bool d) ?_ rfl ⟨rfl, below_later HB0.out B.out⟩
  simp [results, Try.results44, go_sem]
set_option linter.unusedVariables false in
set_option linter.unusedSimpArgs false in
set_option maxRecDepth 100000 in
set_option maxHeartbeats 4000000 in
theorem in_no {gp gq gg gh a : Nat} (h : ¬ mayG gp a) (ha9 : a < M256) (hq : gq < M256) (hm : gp < M256) (w : World) :
    Calls Try.prog 44 #[grpV gp gq gg gh, numV a] w fun e w' => e = .returned (.bool (decide (inG gp gq a))) ∧ Below w.heap.size w w' := by
  unfold grpV
  obtain ⟨x, hx⟩ : ∃ x, x = 0 := ⟨_, rfl⟩
  have hx2 : numV 0 = numV x := by rw [hx]
  have CE := Lib.hid (fun w => by have h9 := gexp_no (gq := gq) (gg := gg) (gh := gh) h ha9 hq hm w; rw [hx2] at h9; unfold numV words at h9; exact h9)
  have hdd : decide (inG gp gq a) = false := decide_eq_false (fun h9 => h h9.1)
  rw [hdd]
  have C1 := Lib.hid (fun w => by have h := of_lit 1 1 rfl (by decide) w; unfold numV words at h; exact h)
  clear hdd hx hx2
  clear h ha9 hq hm
  unfold numV words
  go_enter Try.func44, Try.ntmps44
  go_wp2_with fail
  obtain ⟨w0, e0⟩ : ∃ w0, w0 = w.alloc (.cells #[.int .u64 (dgt W64 gp 0), .int .u64 (dgt W64 gp 1), .int .u64 (dgt W64 gp 2), .int .u64 (dgt W64 gp 3), .int .u64 (dgt W64 gq 0), .int .u64 (dgt W64 gq 1), .int .u64 (dgt W64 gq 2), .int .u64 (dgt W64 gq 3), .int .u64 (dgt W64 gg 0), .int .u64 (dgt W64 gg 1), .int .u64 (dgt W64 gg 2), .int .u64 (dgt W64 gg 3), .int .u64 (dgt W64 gh 0), .int .u64 (dgt W64 gh 1), .int .u64 (dgt W64 gh 2), .int .u64 (dgt W64 gh 3)] 26) := ⟨_, rfl⟩
  obtain ⟨GG, hGG⟩ : ∃ b, b = w.heap.size := ⟨_, rfl⟩
  have b0 : Below w.heap.size w w0 := by rw [e0]; exact (Below.refl _ _).alloc (Nat.le_refl _) _
  have s0 : w0.heap.size = w.heap.size + 1 := by rw [e0]; simp
  have g0 : GrpAt w0 GG gp gq gg gh := by rw [e0, hGG]; exact GrpAt.new _ _ _ _ _ _
  rw [← e0, ← s0, ← hGG]
  have HB0 := Lib.hid b0
  clear e0 hGG b0 s0
  obtain ⟨wz, e_0⟩ : ∃ w9, w9 = w0.alloc (.cells #[.int .u64 (dgt W64 a 0), .int .u64 (dgt W64 a 1), .int .u64 (dgt W64 a 2), .int .u64 (dgt W64 a 3)] 24) := ⟨_, rfl⟩
  have s_0 : wz.heap.size = w0.heap.size + 1 := by rw [e_0]; simp
  have b_0 : Below w0.heap.size w0 wz := by rw [e_0]; exact (Below.refl _ _).alloc (Nat.le_refl _) _
  have n_0 : NumAt wz (w0.heap.size) a := by rw [e_0]; exact NumAt.new w0 a _ _ rfl
  rw [← e_0]
  obtain ⟨AA, h_0⟩ : ∃ b, b = w0.heap.size := ⟨_, rfl⟩
  have hwL : w0.heap.size ≤ AA := by omega
  have hRd : AA < wz.heap.size := by omega
  rw [← h_0] at n_0 ⊢
  have HAA := Lib.hid n_0
  have B := Lib.hid b_0
  have hwAA : w0.heap.size ≤ AA := by omega
  have HSZ := Lib.hid (show wz.heap.size = AA + 1 by omega)
  clear e_0 s_0 b_0 n_0 h_0
  clear g0
  refine (CE.out _).mono ?_
  rintro _ w2 ⟨rfl, hb⟩
  have B := Lib.hid (below_later B.out hb)
  clear hb hRd HAA
  go_upto_region 2 with fail
  obtain ⟨w3, e3⟩ : ∃ w9, w9 = w2.alloc (.cells #[.int .u64 (dgt W64 x 0), .int .u64 (dgt W64 x 1), .int .u64 (dgt W64 x 2), .int .u64 (dgt W64 x 3)] 24) := ⟨_, rfl⟩
  obtain ⟨XX, hXX⟩ : ∃ b, b = w2.heap.size := ⟨_, rfl⟩
  have hb : Below w2.heap.size w2 w3 := by rw [e3]; exact (Below.refl _ _).alloc (Nat.le_refl _) _
  have HXX := Lib.hid (show NumAt w3 XX x by rw [e3, hXX]; exact NumAt.new _ _ _ _ rfl)
  have hRd : XX < w3.heap.size := HXX.out.lt
  have B := Lib.hid (below_later B.out hb)
  rw [← e3, ← hXX]
  clear e3 hXX hb
  refine wp_region_fresh 7 (fun _ => none) (by kernel_rfl) (by kernel_rfl) (fun _ _ _ _ _ h => h) (fun F hn9 hcl hbl => ?_)
  have r_XX_0 := fun X9 : Wd F => (NumAt.later (hbl X9.world X9.fact) HXX.out) 0 (by omega)
  have r_XX_1 := fun X9 : Wd F => (NumAt.later (hbl X9.world X9.fact) HXX.out) 1 (by omega)
  have r_XX_2 := fun X9 : Wd F => (NumAt.later (hbl X9.world X9.fact) HXX.out) 2 (by omega)
  have r_XX_3 := fun X9 : Wd F => (NumAt.later (hbl X9.world X9.fact) HXX.out) 3 (by omega)
  have HCL := Lib.hid hcl
  clear hcl hbl
  refine wpF_seg 7 0 _ _ (fun _ _ _ => rfl) (by decide) ?_
  simp only [List.take_succ_cons, List.take_zero, List.drop_succ_cons, List.drop_zero, Nat.reduceAdd]
  repeat (go_big_quiet_step ((first | (go_at_call 27; with_reducible exact to_class HCL.out (C1.out _)))))
  refine wpQuiet_nil ?_
  refine wpF_nil ?_
  intro bs w4 hb _ _
  clear r_XX_0 r_XX_1 r_XX_2 r_XX_3
  have HXX := Lib.hid (NumAt.later hb HXX.out)
  have hRd := Nat.lt_of_lt_of_le hRd hb.size
  have B := Lib.hid (below_later B.out hb)
  clear hb
  simp only [over]
  go_wp2_with fail
  refine bodyPost_ret (v := .bool false) ?_ rfl ⟨rfl, below_later HB0.out B.out⟩
  simp [results, Try.results44, go_sem]
theorem In_any {gp gq gg gh a : Nat} (ha9 : a < M256) (hq : gq < M256) (hm : gp < M256) (w : World) :
    Calls Try.prog 44 #[grpV gp gq gg gh, numV a] w fun e w' => e = .returned (.bool (decide (inG gp gq a))) ∧ Below w.heap.size w w' := by
  by_cases h : mayG gp a
  · exact in_yes h ha9 hq hm w
  · exact in_no h ha9 hq hm w
end Go.Proofs.Ytpoocnkflmimdaa
