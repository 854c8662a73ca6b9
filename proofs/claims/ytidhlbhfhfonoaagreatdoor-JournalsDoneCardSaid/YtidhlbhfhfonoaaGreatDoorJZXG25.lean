/- Layer 18 (journals): of the function that is ranged over, the statement that asks a record's check and hands it over: in whatever order -/
import Derived.Test.YtidhlbhfhfonoaaGreatDoorJZXG24
import Derived.Test.YtidhlbhfhfonoaaGreatDoorJZXG04
import Derived.Test.YtidhlbhfhfonoaaGreatDoorJZXG13
import Derived.OwnWalkIn
import Derived.TacticsInMore
import Derived.RegionIn
import Derived.RangeFuncSeq
namespace Go.Proofs.YtidhlbhfhfonoaaGreatDoor
open Go.ChangeShapes Go.WideShapes Go.ChangeAt Go.RowKit

/-- A region of a code, by its number. -/
def regionOf (id : Nat) : Code → Option Code
  | .region i ops d => if i = id then some (.region i ops d) else none
  | .seq a b => match regionOf id a with
    | some c => some c
    | none => regionOf id b
  | .block _ c => regionOf id c
  | .loop c => regionOf id c
  | .cond _ a b => match regionOf id a with
    | some c => some c
    | none => regionOf id b
  | _ => none
noncomputable def it7 : Code := (Tryz.f114.body.bind (regionOf 7)).getD .skip
set_option linter.unusedSimpArgs false in
set_option linter.unusedVariables false in
set_option maxRecDepth 100000 in
set_option maxHeartbeats 8000000 in
theorem it7_ne (n : Nat) (hn1 : 1 ≤ n) (l Bn N e f m cap g o cn : Nat) (hcn9 : cn < 4294967296) (a6 a3 : Option Addr) (c6 c3 : Nat) (b3 r : List Nat) (heI : (e : Int) ≤ 1000000) (hfI : (f : Int) ≤ 1000010) (eF : (e : Int) + 4 = (f : Int)) (hfw : IntKind.i64.wrap (f : Int) = (f : Int)) (w4 : World) (B0 : Nat) (c0 : w4.cell? ⟨Bn, 0, none⟩ = some (.slice (some ⟨g, o, none⟩) m cap)) (ks3 : ∀ W, (Instr.sliceAt 58 (.slice (some ⟨g, o, none⟩) m cap) (some (.int .i64 e)) (some (.int .i64 f)) none).run Tryz.prog W = .ok (.slice a3 4 c3) W) (HK3 : Hid (KAt .u8 w4 (.slice a3 4 c3) b3)) (hB3 : Bytes b3) (HO : Hid (Own w4 B0 (.slice a6 N c6) r)) (HL : Hid (r.length = N)) (u2 u4 u7 u8 u9 u10 u11 u12 u13 u14 u15 u16 u17 u18 u19 u20 u21 u22 u23 u24 u25 u26 u27 u28 u29 u30 u31 u32 u33 u34 u35 u36 u37 u38 u39 u40 u41 u42 u43 u44 u45 u46 u47 u48 u49 u50 u51 u52 u53 u54 u55 u56 u57 u58 u59 u60 u61 u62 u63 u64 u65 u66 u67 u68 u69 u70 u71 u72 u73 u74 u75 : Value) (Q : Exit → Act → World → Prop) (hP : ∀ (d : Tmp) v c a w, Q (.panic c) (a.put (some d) v) w → Q (.panic c) a w) (hT : decide (num4 cn = b3) = false)
    (hQ : ∀ (x55 x56 x57 x58 x59 x60 x61 x62 x63 x64 x65 x66 x67 x68 x69 x70 : Value) (w' : World), Below w4.heap.size w4 w' → Q .normal { tmps := #[.func (.yield l) #[] #[], .pointer (some ⟨Bn, 0, none⟩), u2, .int .u32 cn, u4, .int .i64 e, .slice a6 N c6, u7, u8, u9, u10, u11, u12, u13, u14, u15, u16, u17, u18, u19, u20, u21, u22, u23, u24, u25, u26, u27, u28, u29, u30, u31, u32, u33, u34, u35, u36, u37, u38, u39, u40, u41, u42, u43, u44, u45, u46, u47, u48, u49, u50, u51, u52, u53, u54, x55, x56, x57, x58, x59, x60, x61, x62, x63, x64, x65, x66, x67, x68, x69, x70, .bool true, u72, u73, u74, u75], defers := [] } w') :
    it7.wpIn Fence.wide n Tryz.prog Q { tmps := #[.func (.yield l) #[] #[], .pointer (some ⟨Bn, 0, none⟩), u2, .int .u32 cn, u4, .int .i64 e, .slice a6 N c6, u7, u8, u9, u10, u11, u12, u13, u14, u15, u16, u17, u18, u19, u20, u21, u22, u23, u24, u25, u26, u27, u28, u29, u30, u31, u32, u33, u34, u35, u36, u37, u38, u39, u40, u41, u42, u43, u44, u45, u46, u47, u48, u49, u50, u51, u52, u53, u54, u55, u56, u57, u58, u59, u60, u61, u62, u63, u64, u65, u66, u67, u68, u69, u70, u71, u72, u73, u74, u75], defers := [] } w4 := by
  conv => arg 4; whnf
  refine wpIn_region_any (by kernel_rfl) ?_
  change wpAnyIn _ _ _ _ _ _ _ _ _ (World.drew _)
  refine wpAnyIn_take (i := 0) (v := ?_) rfl rfl (by kernel_rfl) (by kernel_rfl) (by kernel_rfl) (fun c a w h => hP _ _ c a w h) ⟨Or.inl ⟨by rfl, ?_⟩, fun _ => rfl⟩ ?_
  rotate_left
  · intro w8
    go_simp
    any_goals with_reducible rfl
  try simp only [Act.put, pa, pb, pc]
  refine wpAnyIn_take (i := 3) (v := ?_) rfl rfl (by kernel_rfl) (by kernel_rfl) (by kernel_rfl) (fun c a w h => hP _ _ c a w h) ⟨Or.inl ⟨by rfl, ?_⟩, fun _ => rfl⟩ ?_
  rotate_left
  · intro w8
    go_simp
    any_goals with_reducible rfl
  try simp only [Act.put, pa, pb, pc]
  refine wpAnyIn_take (i := 4) (v := ?_) rfl rfl (by kernel_rfl) (by kernel_rfl) (by kernel_rfl) (fun c a w h => hP _ _ c a w h) ⟨Or.inl ⟨by rfl, ?_⟩, fun _ => rfl⟩ ?_
  rotate_left
  · intro w8
    go_simp
    any_goals with_reducible rfl
  try simp only [Act.put, pa, pb, pc]
  refine wpAnyIn_take (i := 5) (v := ?_) rfl rfl (by kernel_rfl) (by kernel_rfl) (by kernel_rfl) (fun c a w h => hP _ _ c a w h) ⟨Or.inl ⟨by rfl, ?_⟩, fun _ => rfl⟩ ?_
  rotate_left
  · intro w8
    go_simp
    any_goals with_reducible rfl
  try simp only [Act.put, pa, pb, pc]
  refine wpAnyIn_ready (rs := [1, 2]) (by kernel_rfl) (by simp) ?_
  refine AllReadyIn.cons rfl (fun K hK => ?_) (AllReadyIn.cons rfl (fun K hK => ?_) AllReadyIn.nil)
  · go_simp
    refine ⟨trivial, (callsIn_wide.2 (number_any cn hcn9 w4.drew)).mono ?_⟩
    rintro _ w5 ⟨a5, rfl, ho5, hb5⟩
    have c5 := cell_on (w := w4.drew) c0 hb5
    have HO5 := Lib.hid ho5.at_
    have HB5 := Lib.hid (show Below w4.heap.size w4 w5 from ⟨hb5.os, hb5.tape, hb5.output, hb5.size, hb5.block⟩)
    clear ho5 hb5
    dsimp only
    refine hK _ _ ?_
    clear hK K
    try simp only [Act.put, pa, pb, pc]
    refine wpAnyIn_ready (rs := [2]) (by kernel_rfl) (by simp) ?_
    refine AllReadyIn.cons rfl (fun K hK => ?_) AllReadyIn.nil
    go_simp
    refine hK _ _ ?_
    clear hK K
    try simp only [Act.put, pa, pb, pc]
    refine wpAnyIn_take (i := 6) (v := ?_) rfl rfl (by kernel_rfl) (by kernel_rfl) (by kernel_rfl) (fun c a w h => hP _ _ c a w h) ⟨Or.inl ⟨by rfl, ?_⟩, fun _ => rfl⟩ ?_
    rotate_left
    · intro w8
      go_simp
      any_goals with_reducible rfl
    try simp only [Act.put, pa, pb, pc]
    refine wpAnyIn_ready (rs := [7]) (by kernel_rfl) (by simp) ?_
    refine AllReadyIn.cons rfl (fun K hK => ?_) AllReadyIn.nil
    go_simp
    refine ⟨trivial, (callsIn_wide.2 (Equal_any HO5.out (HK3.out.later HB5.out) (num4_bytes cn) hB3 hT)).mono ?_⟩
    rintro _ w6 ⟨rfl, rfl⟩
    dsimp only
    refine hK _ _ ?_
    clear hK K
    try simp only [Act.put, pa, pb, pc]
    refine wpAnyIn_take (i := 8) (v := ?_) rfl rfl (by kernel_rfl) (by kernel_rfl) (by kernel_rfl) (fun c a w h => hP _ _ c a w h) ⟨Or.inl ⟨by rfl, ?_⟩, fun _ => rfl⟩ ?_
    rotate_left
    · intro w8
      go_simp
      any_goals with_reducible rfl
    try simp only [Act.put, pa, pb, pc]
    refine wpAnyIn_take (i := 9) (v := ?_) rfl rfl (by kernel_rfl) (by kernel_rfl) (by kernel_rfl) (fun c a w h => hP _ _ c a w h) ⟨Or.inl ⟨by rfl, ?_⟩, fun _ => rfl⟩ ?_
    rotate_left
    · intro w8
      go_simp
      any_goals with_reducible rfl
    try simp only [Act.put, pa, pb, pc]
    refine wpAnyIn_take (i := 10) (v := undef) rfl rfl (by kernel_rfl) (by kernel_rfl) (by kernel_rfl) (fun c a w h => hP _ _ c a w h) ⟨Or.inr ⟨by rfl, rfl⟩, fun _ => rfl⟩ ?_
    try simp only [Act.put, pa, pb, pc]
    refine wpAnyIn_take (i := 11) (v := undef) rfl rfl (by kernel_rfl) (by kernel_rfl) (by kernel_rfl) (fun c a w h => hP _ _ c a w h) ⟨Or.inr ⟨by rfl, rfl⟩, fun _ => rfl⟩ ?_
    try simp only [Act.put, pa, pb, pc]
    refine wpAnyIn_take (i := 13) (v := undef) rfl rfl (by kernel_rfl) (by kernel_rfl) (by kernel_rfl) (fun c a w h => hP _ _ c a w h) ⟨Or.inr ⟨by rfl, rfl⟩, fun _ => rfl⟩ ?_
    try simp only [Act.put, pa, pb, pc]
    refine wpAnyIn_ready (rs := [12]) (by kernel_rfl) (by simp) ?_
    refine AllReadyIn.cons rfl (fun K hK => ?_) AllReadyIn.nil
    refine ite_else (by rfl) ?_
    refine And.intro (fun _ _ => True.intro) ?_
    refine hK _ _ ?_
    clear hK K
    try simp only [Act.put, pa, pb, pc]
    refine wpAnyIn_ready (rs := [14]) (by kernel_rfl) (by simp) ?_
    refine AllReadyIn.cons rfl (fun K hK => ?_) AllReadyIn.nil
    go_simp
    refine And.intro (fun _ _ => True.intro) ?_
    refine hK _ _ ?_
    clear hK K
    try simp only [Act.put, pa, pb, pc]
    refine wpAnyIn_take (i := 15) (v := undef) rfl rfl (by kernel_rfl) (by kernel_rfl) (by kernel_rfl) (fun c a w h => hP _ _ c a w h) ⟨Or.inr ⟨by rfl, rfl⟩, fun _ => rfl⟩ ?_
    try simp only [Act.put, pa, pb, pc]
    refine wpAnyIn_take (i := 16) (v := ?_) rfl rfl (by kernel_rfl) (by kernel_rfl) (by kernel_rfl) (fun c a w h => hP _ _ c a w h) ⟨Or.inl ⟨by rfl, ?_⟩, fun _ => rfl⟩ ?_
    rotate_left
    · intro w8
      go_simp
      any_goals with_reducible rfl
    try simp only [Act.put, pa, pb, pc]
    refine wpAnyIn_done (by kernel_rfl) ?_ _
    exact hQ _ _ _ _ _ _ _ _ _ _ _ _ _ _ _ _ _ HB5.out
  · go_simp
    refine hK _ _ ?_
    clear hK K
    try simp only [Act.put, pa, pb, pc]
    refine wpAnyIn_take (i := 6) (v := ?_) rfl rfl (by kernel_rfl) (by kernel_rfl) (by kernel_rfl) (fun c a w h => hP _ _ c a w h) ⟨Or.inl ⟨by rfl, ?_⟩, fun _ => rfl⟩ ?_
    rotate_left
    · intro w8
      go_simp
      any_goals with_reducible rfl
    try simp only [Act.put, pa, pb, pc]
    refine wpAnyIn_ready (rs := [1]) (by kernel_rfl) (by simp) ?_
    refine AllReadyIn.cons rfl (fun K hK => ?_) AllReadyIn.nil
    go_simp
    refine ⟨trivial, (callsIn_wide.2 (number_any cn hcn9 w4.drew)).mono ?_⟩
    rintro _ w5 ⟨a5, rfl, ho5, hb5⟩
    have c5 := cell_on (w := w4.drew) c0 hb5
    have HO5 := Lib.hid ho5.at_
    have HB5 := Lib.hid (show Below w4.heap.size w4 w5 from ⟨hb5.os, hb5.tape, hb5.output, hb5.size, hb5.block⟩)
    clear ho5 hb5
    dsimp only
    refine hK _ _ ?_
    clear hK K
    try simp only [Act.put, pa, pb, pc]
    refine wpAnyIn_ready (rs := [7]) (by kernel_rfl) (by simp) ?_
    refine AllReadyIn.cons rfl (fun K hK => ?_) AllReadyIn.nil
    go_simp
    refine ⟨trivial, (callsIn_wide.2 (Equal_any HO5.out (HK3.out.later HB5.out) (num4_bytes cn) hB3 hT)).mono ?_⟩
    rintro _ w6 ⟨rfl, rfl⟩
    dsimp only
    refine hK _ _ ?_
    clear hK K
    try simp only [Act.put, pa, pb, pc]
    refine wpAnyIn_take (i := 8) (v := ?_) rfl rfl (by kernel_rfl) (by kernel_rfl) (by kernel_rfl) (fun c a w h => hP _ _ c a w h) ⟨Or.inl ⟨by rfl, ?_⟩, fun _ => rfl⟩ ?_
    rotate_left
    · intro w8
      go_simp
      any_goals with_reducible rfl
    try simp only [Act.put, pa, pb, pc]
    refine wpAnyIn_take (i := 9) (v := ?_) rfl rfl (by kernel_rfl) (by kernel_rfl) (by kernel_rfl) (fun c a w h => hP _ _ c a w h) ⟨Or.inl ⟨by rfl, ?_⟩, fun _ => rfl⟩ ?_
    rotate_left
    · intro w8
      go_simp
      any_goals with_reducible rfl
    try simp only [Act.put, pa, pb, pc]
    refine wpAnyIn_take (i := 10) (v := undef) rfl rfl (by kernel_rfl) (by kernel_rfl) (by kernel_rfl) (fun c a w h => hP _ _ c a w h) ⟨Or.inr ⟨by rfl, rfl⟩, fun _ => rfl⟩ ?_
    try simp only [Act.put, pa, pb, pc]
    refine wpAnyIn_take (i := 11) (v := undef) rfl rfl (by kernel_rfl) (by kernel_rfl) (by kernel_rfl) (fun c a w h => hP _ _ c a w h) ⟨Or.inr ⟨by rfl, rfl⟩, fun _ => rfl⟩ ?_
    try simp only [Act.put, pa, pb, pc]
    refine wpAnyIn_take (i := 13) (v := undef) rfl rfl (by kernel_rfl) (by kernel_rfl) (by kernel_rfl) (fun c a w h => hP _ _ c a w h) ⟨Or.inr ⟨by rfl, rfl⟩, fun _ => rfl⟩ ?_
    try simp only [Act.put, pa, pb, pc]
    refine wpAnyIn_ready (rs := [12]) (by kernel_rfl) (by simp) ?_
    refine AllReadyIn.cons rfl (fun K hK => ?_) AllReadyIn.nil
    refine ite_else (by rfl) ?_
    refine And.intro (fun _ _ => True.intro) ?_
    refine hK _ _ ?_
    clear hK K
    try simp only [Act.put, pa, pb, pc]
    refine wpAnyIn_ready (rs := [14]) (by kernel_rfl) (by simp) ?_
    refine AllReadyIn.cons rfl (fun K hK => ?_) AllReadyIn.nil
    go_simp
    refine And.intro (fun _ _ => True.intro) ?_
    refine hK _ _ ?_
    clear hK K
    try simp only [Act.put, pa, pb, pc]
    refine wpAnyIn_take (i := 15) (v := undef) rfl rfl (by kernel_rfl) (by kernel_rfl) (by kernel_rfl) (fun c a w h => hP _ _ c a w h) ⟨Or.inr ⟨by rfl, rfl⟩, fun _ => rfl⟩ ?_
    try simp only [Act.put, pa, pb, pc]
    refine wpAnyIn_take (i := 16) (v := ?_) rfl rfl (by kernel_rfl) (by kernel_rfl) (by kernel_rfl) (fun c a w h => hP _ _ c a w h) ⟨Or.inl ⟨by rfl, ?_⟩, fun _ => rfl⟩ ?_
    rotate_left
    · intro w8
      go_simp
      any_goals with_reducible rfl
    try simp only [Act.put, pa, pb, pc]
    refine wpAnyIn_done (by kernel_rfl) ?_ _
    exact hQ _ _ _ _ _ _ _ _ _ _ _ _ _ _ _ _ _ HB5.out
set_option linter.unusedSimpArgs false in
set_option linter.unusedVariables false in
set_option maxRecDepth 100000 in
set_option maxHeartbeats 8000000 in
theorem it7_eq (n : Nat) (hn1 : 1 ≤ n) (l Bn N e f m cap g o cn : Nat) (hcn9 : cn < 4294967296) (a6 a3 : Option Addr) (c6 c3 : Nat) (b3 r : List Nat) (heI : (e : Int) ≤ 1000000) (hfI : (f : Int) ≤ 1000010) (eF : (e : Int) + 4 = (f : Int)) (hfw : IntKind.i64.wrap (f : Int) = (f : Int)) (w4 : World) (B0 : Nat) (c0 : w4.cell? ⟨Bn, 0, none⟩ = some (.slice (some ⟨g, o, none⟩) m cap)) (ks3 : ∀ W, (Instr.sliceAt 58 (.slice (some ⟨g, o, none⟩) m cap) (some (.int .i64 e)) (some (.int .i64 f)) none).run Tryz.prog W = .ok (.slice a3 4 c3) W) (HK3 : Hid (KAt .u8 w4 (.slice a3 4 c3) b3)) (hB3 : Bytes b3) (HO : Hid (Own w4 B0 (.slice a6 N c6) r)) (HL : Hid (r.length = N)) (u2 u4 u7 u8 u9 u10 u11 u12 u13 u14 u15 u16 u17 u18 u19 u20 u21 u22 u23 u24 u25 u26 u27 u28 u29 u30 u31 u32 u33 u34 u35 u36 u37 u38 u39 u40 u41 u42 u43 u44 u45 u46 u47 u48 u49 u50 u51 u52 u53 u54 u55 u56 u57 u58 u59 u60 u61 u62 u63 u64 u65 u66 u67 u68 u69 u70 u71 u72 u73 u74 u75 : Value) (Q : Exit → Act → World → Prop) (hP : ∀ (d : Tmp) v c a w, Q (.panic c) (a.put (some d) v) w → Q (.panic c) a w) (hT : decide (num4 cn = b3) = true) (J' : World → Prop)
    (HY : Hid (∀ (w5 : World) (a7 : Option Addr) (c7 : Nat), Below w4.heap.size w4 w5 → Own w5 B0 (.slice a7 N c7) r → YieldAt Fence.wide (n - 1) Tryz.prog l #[.slice a7 N c7, .int .u32 cn] w5 fun e9 W' => e9 = .returned (.bool true) ∧ J' W'))
    (hQ : ∀ (x55 x56 x57 x58 x59 x60 x61 x62 x63 x64 x65 x66 x67 x68 x69 x70 : Value) (w' : World), J' w' → Q .normal { tmps := #[.func (.yield l) #[] #[], .pointer (some ⟨Bn, 0, none⟩), u2, .int .u32 cn, u4, .int .i64 e, .slice a6 N c6, u7, u8, u9, u10, u11, u12, u13, u14, u15, u16, u17, u18, u19, u20, u21, u22, u23, u24, u25, u26, u27, u28, u29, u30, u31, u32, u33, u34, u35, u36, u37, u38, u39, u40, u41, u42, u43, u44, u45, u46, u47, u48, u49, u50, u51, u52, u53, u54, x55, x56, x57, x58, x59, x60, x61, x62, x63, x64, x65, x66, x67, x68, x69, x70, .bool false, u72, u73, u74, u75], defers := [] } w') :
    it7.wpIn Fence.wide n Tryz.prog Q { tmps := #[.func (.yield l) #[] #[], .pointer (some ⟨Bn, 0, none⟩), u2, .int .u32 cn, u4, .int .i64 e, .slice a6 N c6, u7, u8, u9, u10, u11, u12, u13, u14, u15, u16, u17, u18, u19, u20, u21, u22, u23, u24, u25, u26, u27, u28, u29, u30, u31, u32, u33, u34, u35, u36, u37, u38, u39, u40, u41, u42, u43, u44, u45, u46, u47, u48, u49, u50, u51, u52, u53, u54, u55, u56, u57, u58, u59, u60, u61, u62, u63, u64, u65, u66, u67, u68, u69, u70, u71, u72, u73, u74, u75], defers := [] } w4 := by
  conv => arg 4; whnf
  refine wpIn_region_any (by kernel_rfl) ?_
  change wpAnyIn _ _ _ _ _ _ _ _ _ (World.drew _)
  refine wpAnyIn_take (i := 0) (v := ?_) rfl rfl (by kernel_rfl) (by kernel_rfl) (by kernel_rfl) (fun c a w h => hP _ _ c a w h) ⟨Or.inl ⟨by rfl, ?_⟩, fun _ => rfl⟩ ?_
  rotate_left
  · intro w8
    go_simp
    any_goals with_reducible rfl
  try simp only [Act.put, pa, pb, pc]
  refine wpAnyIn_take (i := 3) (v := ?_) rfl rfl (by kernel_rfl) (by kernel_rfl) (by kernel_rfl) (fun c a w h => hP _ _ c a w h) ⟨Or.inl ⟨by rfl, ?_⟩, fun _ => rfl⟩ ?_
  rotate_left
  · intro w8
    go_simp
    any_goals with_reducible rfl
  try simp only [Act.put, pa, pb, pc]
  refine wpAnyIn_take (i := 4) (v := ?_) rfl rfl (by kernel_rfl) (by kernel_rfl) (by kernel_rfl) (fun c a w h => hP _ _ c a w h) ⟨Or.inl ⟨by rfl, ?_⟩, fun _ => rfl⟩ ?_
  rotate_left
  · intro w8
    go_simp
    any_goals with_reducible rfl
  try simp only [Act.put, pa, pb, pc]
  refine wpAnyIn_take (i := 5) (v := ?_) rfl rfl (by kernel_rfl) (by kernel_rfl) (by kernel_rfl) (fun c a w h => hP _ _ c a w h) ⟨Or.inl ⟨by rfl, ?_⟩, fun _ => rfl⟩ ?_
  rotate_left
  · intro w8
    go_simp
    any_goals with_reducible rfl
  try simp only [Act.put, pa, pb, pc]
  refine wpAnyIn_ready (rs := [1, 2]) (by kernel_rfl) (by simp) ?_
  refine AllReadyIn.cons rfl (fun K hK => ?_) (AllReadyIn.cons rfl (fun K hK => ?_) AllReadyIn.nil)
  · go_simp
    refine ⟨trivial, (callsIn_wide.2 (number_any cn hcn9 w4.drew)).mono ?_⟩
    rintro _ w5 ⟨a5, rfl, ho5, hb5⟩
    have c5 := cell_on (w := w4.drew) c0 hb5
    have HO5 := Lib.hid ho5.at_
    have HB5 := Lib.hid (show Below w4.heap.size w4 w5 from ⟨hb5.os, hb5.tape, hb5.output, hb5.size, hb5.block⟩)
    clear ho5 hb5
    dsimp only
    refine hK _ _ ?_
    clear hK K
    try simp only [Act.put, pa, pb, pc]
    refine wpAnyIn_ready (rs := [2]) (by kernel_rfl) (by simp) ?_
    refine AllReadyIn.cons rfl (fun K hK => ?_) AllReadyIn.nil
    go_simp
    refine hK _ _ ?_
    clear hK K
    try simp only [Act.put, pa, pb, pc]
    refine wpAnyIn_take (i := 6) (v := ?_) rfl rfl (by kernel_rfl) (by kernel_rfl) (by kernel_rfl) (fun c a w h => hP _ _ c a w h) ⟨Or.inl ⟨by rfl, ?_⟩, fun _ => rfl⟩ ?_
    rotate_left
    · intro w8
      go_simp
      any_goals with_reducible rfl
    try simp only [Act.put, pa, pb, pc]
    refine wpAnyIn_ready (rs := [7]) (by kernel_rfl) (by simp) ?_
    refine AllReadyIn.cons rfl (fun K hK => ?_) AllReadyIn.nil
    go_simp
    refine ⟨trivial, (callsIn_wide.2 (Equal_any HO5.out (HK3.out.later HB5.out) (num4_bytes cn) hB3 hT)).mono ?_⟩
    rintro _ w6 ⟨rfl, rfl⟩
    dsimp only
    refine hK _ _ ?_
    clear hK K
    try simp only [Act.put, pa, pb, pc]
    refine wpAnyIn_take (i := 8) (v := ?_) rfl rfl (by kernel_rfl) (by kernel_rfl) (by kernel_rfl) (fun c a w h => hP _ _ c a w h) ⟨Or.inl ⟨by rfl, ?_⟩, fun _ => rfl⟩ ?_
    rotate_left
    · intro w8
      go_simp
      any_goals with_reducible rfl
    try simp only [Act.put, pa, pb, pc]
    refine wpAnyIn_take (i := 9) (v := ?_) rfl rfl (by kernel_rfl) (by kernel_rfl) (by kernel_rfl) (fun c a w h => hP _ _ c a w h) ⟨Or.inl ⟨by rfl, ?_⟩, fun _ => rfl⟩ ?_
    rotate_left
    · intro w8
      go_simp
      any_goals with_reducible rfl
    try simp only [Act.put, pa, pb, pc]
    refine wpAnyIn_take (i := 10) (v := ?_) rfl rfl (by kernel_rfl) (by kernel_rfl) (by kernel_rfl) (fun c a w h => hP _ _ c a w h) ⟨Or.inl ⟨by rfl, ?_⟩, fun _ => rfl⟩ ?_
    rotate_left
    · intro w8
      go_simp
      any_goals with_reducible rfl
    try simp only [Act.put, pa, pb, pc]
    refine wpAnyIn_take (i := 11) (v := ?_) rfl rfl (by kernel_rfl) (by kernel_rfl) (by kernel_rfl) (fun c a w h => hP _ _ c a w h) ⟨Or.inl ⟨by rfl, ?_⟩, fun _ => rfl⟩ ?_
    rotate_left
    · intro w8
      go_simp
      any_goals with_reducible rfl
    try simp only [Act.put, pa, pb, pc]
    refine wpAnyIn_take (i := 13) (v := ?_) rfl rfl (by kernel_rfl) (by kernel_rfl) (by kernel_rfl) (fun c a w h => hP _ _ c a w h) ⟨Or.inl ⟨by rfl, ?_⟩, fun _ => rfl⟩ ?_
    rotate_left
    · intro w8
      go_simp
      any_goals with_reducible rfl
    try simp only [Act.put, pa, pb, pc]
    refine wpAnyIn_ready (rs := [12]) (by kernel_rfl) (by simp) ?_
    refine AllReadyIn.cons rfl (fun K hK => ?_) AllReadyIn.nil
    go_simp
    refine ⟨trivial, (callsIn_wide.2 (Clip_any w6 (HO.out.later HB5.out))).mono ?_⟩
    rintro _ w7 ⟨v7, rfl, ho7, rfl⟩
    obtain ⟨a7, c7, rfl⟩ := ho7.sl
    rw [HL.out] at ho7 ⊢
    obtain ⟨fn9, tmps9, assign9, body9, hy9, hR9⟩ := HY.out w6 a7 c7 HB5.out ho7
    have HR9 := Lib.hid hR9
    clear ho7 hR9
    dsimp only
    refine hK _ _ ?_
    clear hK K
    try simp only [Act.put, pa, pb, pc]
    refine wpAnyIn_ready (rs := [14]) (by kernel_rfl) (by simp) ?_
    refine AllReadyIn.cons rfl (fun K hK => ?_) AllReadyIn.nil
    go_simp
    refine HR9.out.mono ?_
    rintro _ w9 ⟨rfl, hj9⟩
    dsimp only
    refine hK _ _ ?_
    clear hK K
    try simp only [Act.put, pa, pb, pc]
    refine wpAnyIn_take (i := 15) (v := ?_) rfl rfl (by kernel_rfl) (by kernel_rfl) (by kernel_rfl) (fun c a w h => hP _ _ c a w h) ⟨Or.inl ⟨by rfl, ?_⟩, fun _ => rfl⟩ ?_
    rotate_left
    · intro w8
      go_simp
      any_goals with_reducible rfl
    try simp only [Act.put, pa, pb, pc]
    refine wpAnyIn_take (i := 16) (v := ?_) rfl rfl (by kernel_rfl) (by kernel_rfl) (by kernel_rfl) (fun c a w h => hP _ _ c a w h) ⟨Or.inl ⟨by rfl, ?_⟩, fun _ => rfl⟩ ?_
    rotate_left
    · intro w8
      go_simp
      any_goals with_reducible rfl
    try simp only [Act.put, pa, pb, pc]
    refine wpAnyIn_done (by kernel_rfl) ?_ _
    exact hQ _ _ _ _ _ _ _ _ _ _ _ _ _ _ _ _ _ hj9
  · go_simp
    refine hK _ _ ?_
    clear hK K
    try simp only [Act.put, pa, pb, pc]
    refine wpAnyIn_take (i := 6) (v := ?_) rfl rfl (by kernel_rfl) (by kernel_rfl) (by kernel_rfl) (fun c a w h => hP _ _ c a w h) ⟨Or.inl ⟨by rfl, ?_⟩, fun _ => rfl⟩ ?_
    rotate_left
    · intro w8
      go_simp
      any_goals with_reducible rfl
    try simp only [Act.put, pa, pb, pc]
    refine wpAnyIn_ready (rs := [1]) (by kernel_rfl) (by simp) ?_
    refine AllReadyIn.cons rfl (fun K hK => ?_) AllReadyIn.nil
    go_simp
    refine ⟨trivial, (callsIn_wide.2 (number_any cn hcn9 w4.drew)).mono ?_⟩
    rintro _ w5 ⟨a5, rfl, ho5, hb5⟩
    have c5 := cell_on (w := w4.drew) c0 hb5
    have HO5 := Lib.hid ho5.at_
    have HB5 := Lib.hid (show Below w4.heap.size w4 w5 from ⟨hb5.os, hb5.tape, hb5.output, hb5.size, hb5.block⟩)
    clear ho5 hb5
    dsimp only
    refine hK _ _ ?_
    clear hK K
    try simp only [Act.put, pa, pb, pc]
    refine wpAnyIn_ready (rs := [7]) (by kernel_rfl) (by simp) ?_
    refine AllReadyIn.cons rfl (fun K hK => ?_) AllReadyIn.nil
    go_simp
    refine ⟨trivial, (callsIn_wide.2 (Equal_any HO5.out (HK3.out.later HB5.out) (num4_bytes cn) hB3 hT)).mono ?_⟩
    rintro _ w6 ⟨rfl, rfl⟩
    dsimp only
    refine hK _ _ ?_
    clear hK K
    try simp only [Act.put, pa, pb, pc]
    refine wpAnyIn_take (i := 8) (v := ?_) rfl rfl (by kernel_rfl) (by kernel_rfl) (by kernel_rfl) (fun c a w h => hP _ _ c a w h) ⟨Or.inl ⟨by rfl, ?_⟩, fun _ => rfl⟩ ?_
    rotate_left
    · intro w8
      go_simp
      any_goals with_reducible rfl
    try simp only [Act.put, pa, pb, pc]
    refine wpAnyIn_take (i := 9) (v := ?_) rfl rfl (by kernel_rfl) (by kernel_rfl) (by kernel_rfl) (fun c a w h => hP _ _ c a w h) ⟨Or.inl ⟨by rfl, ?_⟩, fun _ => rfl⟩ ?_
    rotate_left
    · intro w8
      go_simp
      any_goals with_reducible rfl
    try simp only [Act.put, pa, pb, pc]
    refine wpAnyIn_take (i := 10) (v := ?_) rfl rfl (by kernel_rfl) (by kernel_rfl) (by kernel_rfl) (fun c a w h => hP _ _ c a w h) ⟨Or.inl ⟨by rfl, ?_⟩, fun _ => rfl⟩ ?_
    rotate_left
    · intro w8
      go_simp
      any_goals with_reducible rfl
    try simp only [Act.put, pa, pb, pc]
    refine wpAnyIn_take (i := 11) (v := ?_) rfl rfl (by kernel_rfl) (by kernel_rfl) (by kernel_rfl) (fun c a w h => hP _ _ c a w h) ⟨Or.inl ⟨by rfl, ?_⟩, fun _ => rfl⟩ ?_
    rotate_left
    · intro w8
      go_simp
      any_goals with_reducible rfl
    try simp only [Act.put, pa, pb, pc]
    refine wpAnyIn_take (i := 13) (v := ?_) rfl rfl (by kernel_rfl) (by kernel_rfl) (by kernel_rfl) (fun c a w h => hP _ _ c a w h) ⟨Or.inl ⟨by rfl, ?_⟩, fun _ => rfl⟩ ?_
    rotate_left
    · intro w8
      go_simp
      any_goals with_reducible rfl
    try simp only [Act.put, pa, pb, pc]
    refine wpAnyIn_ready (rs := [12]) (by kernel_rfl) (by simp) ?_
    refine AllReadyIn.cons rfl (fun K hK => ?_) AllReadyIn.nil
    go_simp
    refine ⟨trivial, (callsIn_wide.2 (Clip_any w6 (HO.out.later HB5.out))).mono ?_⟩
    rintro _ w7 ⟨v7, rfl, ho7, rfl⟩
    obtain ⟨a7, c7, rfl⟩ := ho7.sl
    rw [HL.out] at ho7 ⊢
    obtain ⟨fn9, tmps9, assign9, body9, hy9, hR9⟩ := HY.out w6 a7 c7 HB5.out ho7
    have HR9 := Lib.hid hR9
    clear ho7 hR9
    dsimp only
    refine hK _ _ ?_
    clear hK K
    try simp only [Act.put, pa, pb, pc]
    refine wpAnyIn_ready (rs := [14]) (by kernel_rfl) (by simp) ?_
    refine AllReadyIn.cons rfl (fun K hK => ?_) AllReadyIn.nil
    go_simp
    refine HR9.out.mono ?_
    rintro _ w9 ⟨rfl, hj9⟩
    dsimp only
    refine hK _ _ ?_
    clear hK K
    try simp only [Act.put, pa, pb, pc]
    refine wpAnyIn_take (i := 15) (v := ?_) rfl rfl (by kernel_rfl) (by kernel_rfl) (by kernel_rfl) (fun c a w h => hP _ _ c a w h) ⟨Or.inl ⟨by rfl, ?_⟩, fun _ => rfl⟩ ?_
    rotate_left
    · intro w8
      go_simp
      any_goals with_reducible rfl
    try simp only [Act.put, pa, pb, pc]
    refine wpAnyIn_take (i := 16) (v := ?_) rfl rfl (by kernel_rfl) (by kernel_rfl) (by kernel_rfl) (fun c a w h => hP _ _ c a w h) ⟨Or.inl ⟨by rfl, ?_⟩, fun _ => rfl⟩ ?_
    rotate_left
    · intro w8
      go_simp
      any_goals with_reducible rfl
    try simp only [Act.put, pa, pb, pc]
    refine wpAnyIn_done (by kernel_rfl) ?_ _
    exact hQ _ _ _ _ _ _ _ _ _ _ _ _ _ _ _ _ _ hj9
end Go.Proofs.YtidhlbhfhfonoaaGreatDoor
