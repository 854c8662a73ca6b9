/- Layer 22's own lives -/
import Derived.Test.YtdpkpcbikbbcbaaGreatBZWG43
import Derived.Test.YtdpkpcbikbbcbaaGreatBZWG45
set_option linter.unusedSimpArgs false
set_option linter.unusedVariables false
set_option maxHeartbeats 2000000
set_option maxRecDepth 20000
namespace Go.Proofs.YtdpkpcbikbbcbaaGreat
open Go.ChangeShapes Go.WideShapes Go.ChangeAt Go.RowKit
theorem zero_set22 : qg 0 0 0 0 0 0 (.slice none 0 0) = .agg zero19 := by
 unfold qg zero19
 rfl
theorem BNew_zero (w : World) : Calls Tryz.prog 9 #[.agg zero19, .int .u64 1] w fun r w' => r = .returned (.tuple #[.pointer none, .int .i64 1]) ∧ Below w.heap.size w w' := by
 have CD := jh (fun (W : World) => by have h9 := DSet_any (gp := 0) (gq := 0) (gg := 0) (gh := 0) (n := 0) (cap := 0) (fa := 0) (se := 0) (ao := none) (ks := []) (by simp) (by decide) (by decide) (by decide) (by decide) rfl (by decide) (by decide) (by decide) W (fun h0 => absurd h0 (by decide)); rw [show jL 0 0 0 0 0 0 0 [] = false by unfold jL; rw [if_neg (by decide), if_neg (by decide), if_pos (by decide)], zero_set22] at h9; exact h9); obtain ⟨Z, hZ⟩ := je (zero19); have hszZ : (Tryz.prog.info? 33).map (·.size) = some Z.size := by rw [qR, hZ]; rfl
 rw [← hZ] at CD ⊢; have HSZ := jh hszZ; clear hZ
 go_enter Tryz.func9, Tryz.ntmps9
 go_upto_region 1 with fail
 obtain ⟨w1, e1⟩ := je (w.alloc (.cells Z 33)); obtain ⟨SB, hSB⟩ := je (w.heap.size); have HB := jh (show Below w.heap.size w w1 by rw [e1]; exact ja); have HS := jh (show w1.heap[SB]? = some (.cells Z 33 (0, 0)) by rw [e1, hSB]; exact heap_alloc_new _ _); rw [← e1, ← hSB]; clear e1 hSB; refine wp_region_lit ?_; refine ji rfl (jg (jW HS.out Tryz.underlying33 rfl HSZ.out)) ?_; simp only [Act.put, pa, pb, pc]
 go_wp2_with fail
 refine (CD.out _).mono ?_; rintro _ w2 ⟨rfl, hb⟩; have HB := jw HB hb; clear hb
 go_wp2_with fail
 go_ret2
 exact ⟨rfl, HB.out⟩
theorem JU (w : World) : Calls Tryz.prog 8 #[] w fun r w' => r = .returned (.bool true) ∧ Below w.heap.size w w' := by
 have CN := jh (fun (W : World) => BNew_zero W); obtain ⟨Z, hZ⟩ := je (zero19); obtain ⟨V, hV⟩ := je (zm); obtain ⟨H, hH⟩ := je (zero32); have CP := jh (fun (W : World) => BPut_nil V (by rw [hV]; rfl) W); have CF := jh (fun (W : World) => BFull_nil 1 0 H (by rw [hH]; rfl) W); have CR := jh (fun (W : World) => BFar_nil W); have CV := jh (fun (W : World) => BVotes_nil 1 0 H (by rw [hH]; rfl) W)
 have BZ : ∀ (o : Oper) (ev : Operand → Value) (W : World), o.op = .build 33 #[] → (execOp ev o).run Tryz.prog W = .ok (.value (.agg Z)) W := fun o ev W ho => by
  unfold execOp; simp only [ho]; rw [hZ]
  kernel_rfl
 have BV : ∀ (o : Oper) (ev : Operand → Value) (W : World), o.op = .build 52 #[] → (execOp ev o).run Tryz.prog W = .ok (.value (.agg V)) W := fun o ev W ho => by
  unfold execOp; simp only [ho]; rw [hV]
  kernel_rfl
 have BH : ∀ (o : Oper) (ev : Operand → Value) (W : World), o.op = .build 48 #[] → (execOp ev o).run Tryz.prog W = .ok (.value (.agg H)) W := fun o ev W ho => by
  unfold execOp; simp only [ho]; rw [hH]
  kernel_rfl
 have HBZ := jh BZ; have HBV := jh BV; have HBH := jh BH; clear BZ BV BH; rw [← hZ] at CN; clear hZ hV hH
 go_enter Tryz.func8, Tryz.ntmps8
 go_upto_region 1 with fail
 refine wp_region_lit ?_; refine ji (v := .agg Z) rfl (HBZ.out _ _ _ rfl) ?_; simp only [Act.put, pa, pb, pc]
 go_upto_region 3 with (first | (go_at_call 9; refine (CN.out _).mono ?_; rintro _ w1 ⟨rfl, hb⟩; have HB := jh hb; clear hb))
 refine wp_region_lit ?_; refine ji (v := .pointer none) rfl (by kernel_rfl) ?_; refine ji (v := .agg V) rfl (HBV.out _ _ _ rfl) ?_; simp only [Act.put, pa, pb, pc]
 go_upto_region 4 with (first | (go_at_call 11; refine (CP.out _).mono ?_; rintro _ w2 ⟨rfl, hb⟩; have HB := jw HB hb; clear hb))
 go_wp2_with (first
  | (refine jt (v := .agg H) (by kernel_rfl) (HBH.out _ _ _ rfl) ?_; simp only [Act.put, pa, pb, pc])
  | (go_at_call 19; refine (CF.out _).mono ?_; rintro _ w3 ⟨rfl, hb⟩; have HB := jw HB hb; clear hb)
  | (go_at_call 12; refine (CR.out _).mono ?_; rintro _ _ ⟨rfl, rfl⟩)
  | (go_at_call 14; refine (CV.out _).mono ?_; rintro _ w4 ⟨rfl, hb⟩; have HB := jw HB hb; clear hb))
 go_ret
 exact ⟨rfl, HB.out⟩
end Go.Proofs.YtdpkpcbikbbcbaaGreat
