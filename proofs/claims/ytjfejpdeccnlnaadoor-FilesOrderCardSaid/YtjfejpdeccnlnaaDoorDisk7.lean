/- Layer 17 (files): Append, Read, New. -/
import Derived.Test.YtjfejpdeccnlnaaDoorDisk6
import Derived.Test.YtjfejpdeccnlnaaDoorClip
namespace Go.Proofs.YtjfejpdeccnlnaaDoor
open Go.ChangeShapes Go.WideShapes Go.ChangeAt Go.RowKit

theorem rowGrown {w2 w3 : World} {base b : Nat} {v v' : Value} {r : Rw} {l : List Nat} (h : RowAt w2 base b v r) (hv : v.ownBlock ≠ some b) (ho : OwnV w3 base 5 1 v' (r.l.length + l.length) (cellsK .u8 r.l ++ cellsK .u8 l)) (hg : w2.grownBy w3 v.ownBlock) (hl : Lies w2 w3 v v' r.l.length l.length) :
    RowAt (w3.setCell ⟨b, 0, none⟩ v') base b v' ⟨r.l ++ l, r.m⟩ := by
  have hb := lt_of_heap h.blk
  have h3 : w3.heap[b]? = some (.cells #[v, .int .i64 r.m] 85 (0, 0)) := (hg.block b hb (fun e => hv e.symm)).trans h.blk
  have hn := lies_apart hl hv hb
  refine ⟨?_, ?_⟩
  · rw [heap_setCell_same w3 b 0 _ _ _ h3]
    rfl
  · have h4 := ho.block (w' := w3.setCell ⟨b, 0, none⟩ v') fun g hg => Below.heap_setCell _ _ _ _ (fun e => hn (by rw [hg, e]))
    rw [← cellsK_append] at h4
    rw [List.length_append]
    exact h4
theorem lies_block {w2 w3 : World} {v v' : Value} {n m : Nat} (hl : Lies w2 w3 v v' n m) : v'.ownBlock = v.ownBlock ∨ ∀ g, v'.ownBlock = some g → w2.heap.size ≤ g := by
  rcases hl with ⟨b, o, cap, rfl, rfl⟩ | ⟨h, _⟩ | ⟨_, rfl, _⟩
  · exact .inl rfl
  · refine .inr fun g hg => ?_
    rw [h] at hg
    cases hg
    exact Nat.le_refl _
  · exact .inl rfl
set_option maxRecDepth 20000 in
set_option maxHeartbeats 1500000 in
theorem Append_any {w : World} {base D : Nat} {M : Dm} {S : Nat → Prop} (hd : Dk w base D M S) (s : ByteArray) (hs : s.size ≤ 140737488355328) {v : Value} {l : List Nat} (hv : KAt .u8 w v l) (hl : Bytes l) :
    Calls Tryd.prog 27 #[.pointer (some ⟨D, 0, none⟩), .string s, v] w (Errs w base D S (M.append s l)) := by
  have HD := Lib.hid hd
  have HK := Lib.hid hv
  have hlen := hv.len
  obtain ⟨av, cv, hve⟩ : ∃ a c, v = .slice a l.length c := by obtain ⟨a, c, h, _⟩ := hv; exact ⟨a, c, h⟩
  obtain ⟨⟨rb, rv, h, hS⟩, _⟩ := hd
  unfold maxLen at hlen
  rcases M.ways s with ⟨hok, i, hf⟩ | hno
  · obtain ⟨k, r, h1, h2, h3, h4, h5⟩ := h.ok.found hok hf
    have hap : M.append s l = if l.length ≤ M.left ∧ r.l.length + l.length ≤ 1048576 then ({ M with rows := M.rows.set k ⟨r.l ++ l, r.m⟩ }, 0) else (M, 6) := by rw [Dm.append, Dm.at_yes hok hf, h4, h5]
    have HF := Lib.hid (finds_yes h s hs hok i hf)
    have HL := Lib.hid (fun (w1 : World) (hb : Below w.heap.size w w1) => Left_any (HD.out.later hb))
    have c2 := (h.place h1).2
    have H := Lib.hid h
    have HS := Lib.hid hS
    have HR := Lib.hid h2
    have hrl := h.ok.rl k r h2
    have hr1 := hrl.1
    have hleft : M.left ≤ 8388608 := by have := h.ok.size.2; unfold Dm.left; omega
    have HOK := Lib.hid (fun (hle : r.l.length + l.length ≤ 1048576) => h.ok.setRow (k := k) (r := ⟨r.l ++ l, r.m⟩) (by simpa using hle) (by have := hrl.2.1; simp; omega) (fun b hb => by
      rcases List.mem_append.1 hb with hb | hb
      · exact hrl.2.2 b hb
      · exact hl b hb))
    have C2 := Lib.hid (fun w1 (hb : Below w.heap.size w w1) => cell_on c2 hb)
    have hk : k < M.rows.length := (List.getElem?_eq_some_iff.1 h2).1
    obtain ⟨L, hL⟩ : ∃ L, M.left = L := ⟨_, rfl⟩
    rw [hL] at HL hleft hap
    by_cases hc : l.length ≤ L ∧ r.l.length + l.length ≤ 1048576
    · rw [if_pos hc] at hap
      rw [hap]
      obtain ⟨hc1, hc2⟩ := hc
      obtain ⟨i0, hi0, hz0, hz1, hz2⟩ := info_parts infoB
      have HI := Lib.hid hi0
      subst hve
      have hcI : (r.l.length : Int) + (l.length : Int) ≤ 1048576 := by omega
      clear h hS h1 h2 h4 h5 hf hok c2 hrl hap hv hL hi0
      go_enter Tryd.func27, Tryd.ntmps27
      go_wp2_with fail
      refine HF.out.mono ?_
      rintro _ w1 ⟨rfl, hb⟩
      have HB := Lib.hid hb
      have c2 : w1.cell? ⟨D, 1 + i * 2 + 1, none⟩ = some (.pointer (some ⟨rb k, 0, none⟩)) := C2.out w1 hb
      clear hb
      go_wp2_with fail
      refine (HL.out w1 HB.out).mono ?_
      rintro _ w2 ⟨rfl, hb⟩
      have HB2 := Lib.hid (below_on HB.out hb)
      have H2 := H.out.later HB2.out
      have hrow := H2.row k r HR.out
      obtain ⟨c3, c4⟩ := hrow.cells
      have HROW := Lib.hid hrow
      have HO2 := Lib.hid hrow.own
      have hnv := H2.two k k hk hk
      have HNV := Lib.hid hnv.1
      have hkb := lt_of_heap hrow.blk
      have hbs := H2.lowD
      have hDs := lt_of_heap H2.blk
      have hbase : base ≤ w2.heap.size := by omega
      obtain ⟨vv, hvv⟩ : ∃ x, x = rv k := ⟨_, rfl⟩
      rw [← hvv] at c3 HROW HO2 HNV
      obtain ⟨a, c, hsl⟩ := HO2.out.sl
      have HH := Lib.hid H2
      have HVV := Lib.hid hvv
      have HSRC := Lib.hid (HK.out.later HB2.out).src
      subst hsl
      have f3 := frozen_row hrow.blk 0
      clear hb H2 hrow hnv hvv
      go_wp2_with (at_builtin; refine wpList_append_W rfl _ _ 37 rfl base 5 i0 (.int .u8 0) 1 1 Tryd.underlying37 HI.out hz0 hz1 hz2 rfl (.slice a r.l.length c) r.l.length (cellsK .u8 r.l) rfl HO2.out (.slice av l.length cv) l.length (cellsK .u8 l) rfl HSRC.out (by unfold maxLen; omega) (by omega) hbase ?_; intro v3 w3 ho3 hg3 hl3; obtain ⟨a3, cp3, rfl⟩ := ho3.sl; have HO3 := Lib.hid ho3; have HG3 := Lib.hid hg3; have HL3 := Lib.hid hl3; have hb3 : w3.heap[rb k]? = w2.heap[rb k]? := hg3.block (rb k) hkb (fun e => HNV.out e.symm); have d3 := (World.cell?_of_block (w := w2) (a := ⟨rb k, 0, none⟩) hb3).trans c3; have g3 := (World.frozen?_of_block (w := w2) (a := ⟨rb k, 0, none⟩) hb3).trans f3; clear ho3 hg3 hl3 hb3)
      go_ret
      have hro := rowGrown HROW.out HNV.out HO3.out HG3.out HL3.out
      have hset := HH.out.setRow (k := k) (r' := ⟨r.l ++ l, r.m⟩) (w' := w3.setCell ⟨rb k, 0, none⟩ (.slice a3 (r.l.length + l.length) cp3)) HR.out (HOK.out hc2) (fun g hg h1 h2 => by
        rw [Below.heap_setCell _ _ _ _ h1]
        exact HG3.out.block g hg (fun e => h2 (by rw [← HVV.out]; exact e.symm))) hro (by have := lies_block HL3.out; rwa [HVV.out] at this)
      refine ⟨rfl, dn_of HD.out hset (((Chg.of_below HB2.out S).grown HG3.out (fun j hj => .inl (HS.out _ (.inr ⟨k, hk, .inr (by rw [← HVV.out]; exact hj)⟩)))).setCell (.inl (HS.out _ (.inr ⟨k, hk, .inl rfl⟩))) _) (fun g hg => (foot_setRow (n := w.heap.size) hk ?_ hg).imp_left (HS.out g))⟩
      rw [← HVV.out]
      exact (lies_block HL3.out).imp_right fun h g hg => Nat.le_trans HB2.out.size (h g hg)
    · rw [if_neg hc] at hap
      rw [hap]
      subst hve
      have hr0 : (r.l.length : Int) ≤ 1048576 := by omega
      by_cases hc1 : l.length ≤ L
      · have hc2 : ¬ ((r.l.length : Int) + (l.length : Int) ≤ 1048576) := by omega
        clear hc h hS h1 h2 h4 h5 hf hok c2 hrl hap hv hL
        go_enter Tryd.func27, Tryd.ntmps27
        go_wp2_with fail
        refine HF.out.mono ?_
        rintro _ w1 ⟨rfl, hb⟩
        have HB := Lib.hid hb
        have c2 : w1.cell? ⟨D, 1 + i * 2 + 1, none⟩ = some (.pointer (some ⟨rb k, 0, none⟩)) := C2.out w1 hb
        clear hb
        go_wp2_with fail
        refine (HL.out w1 HB.out).mono ?_
        rintro _ w2 ⟨rfl, hb⟩
        have HB2 := Lib.hid (below_on HB.out hb)
        have hrow := (H.out.later HB2.out).row k r HR.out
        obtain ⟨c3, c4⟩ := hrow.cells
        obtain ⟨a, c, hsl⟩ := hrow.own.sl
        rw [hsl] at c3
        clear hb hrow hsl
        go_wp2_with fail
        go_ret
        exact ⟨rfl, HD.out.looked HB2.out⟩
      · clear hc h hS h1 h2 h4 h5 hf hok c2 hrl hap hv hL
        have hc2 : ¬ ((l.length : Int) ≤ (L : Int)) := by omega
        go_enter Tryd.func27, Tryd.ntmps27
        go_wp2_with fail
        refine HF.out.mono ?_
        rintro _ w1 ⟨rfl, hb⟩
        have HB := Lib.hid hb
        have c2 : w1.cell? ⟨D, 1 + i * 2 + 1, none⟩ = some (.pointer (some ⟨rb k, 0, none⟩)) := C2.out w1 hb
        clear hb
        go_wp2_with fail
        refine (HL.out w1 HB.out).mono ?_
        rintro _ w2 ⟨rfl, hb⟩
        have HB2 := Lib.hid (below_on HB.out hb)
        clear hb
        go_wp2_with fail
        go_ret
        exact ⟨rfl, HD.out.looked HB2.out⟩
  · rw [show M.append s l = (M, M.why true s) from Dm.at_no hno]
    have HF := Lib.hid (finds_no h true s hs hno)
    obtain ⟨e, he⟩ : ∃ e, M.why true s = e := ⟨_, rfl⟩
    rw [he] at HF hno ⊢
    have hn : ((e : Int) != 0) = true := by simp; omega
    subst hve
    clear h he hS hv
    go_enter Tryd.func27, Tryd.ntmps27
    go_wp2_with fail
    refine HF.out.mono ?_
    rintro _ w1 ⟨rfl, hb⟩
    have HB := Lib.hid hb
    clear hb
    go_wp2_with fail
    go_ret
    exact ⟨rfl, HD.out.looked HB.out⟩
theorem kat_ints {w : World} {g o : Nat} {l : List Nat} (hc : ∀ i x : Nat, l[i]? = some x → w.cell? ⟨g, o + i, none⟩ = some (.int .u8 (x : Int))) (i : Nat) (hi : i < l.length) :
    w.cell? ((⟨g, o, none⟩ : Addr).add i) = some (.int .u8 ((l.map fun x : Nat => (x : Int)).getD i 0)) := by
  rw [Addr.add_lit, hc i l[i] (List.getElem?_eq_getElem hi)]
  simp [hi]
/-- bytes.Clone. -/
theorem BClone_any {w : World} {v : Value} {l : List Nat} (hv : KAt .u8 w v l) (hsz : l.length ≤ 140737488355328) :
    Calls Tryd.prog 42 #[v] w fun e w' => ∃ v', e = .returned v' ∧ Own w' w.heap.size v' l ∧ Below w.heap.size w w' := by
  obtain ⟨ao, cap, rfl, h1, h2, h3, h4⟩ := hv
  cases ao with
  | none =>
    have : l = [] := List.length_eq_zero_iff.1 (by have := h3 rfl; omega)
    subst this
    refine (Tryd.bytes_Clone_nil _ _ w).mono ?_
    rintro e w' ⟨rfl, rfl⟩
    exact ⟨_, rfl, ⟨rfl, .inl ⟨rfl, rfl⟩⟩, Below.refl _ _⟩
  | some a =>
    have hb : ∀ i, i < l.length → w.cell? (a.add i) = some (.int .u8 ((l.map fun x : Nat => (x : Int)).getD i 0)) := by
      intro i hi
      obtain ⟨g, o, hao, hc⟩ := h4 (by omega)
      cases hao
      exact kat_ints hc i hi
    refine (Tryd.bytes_Clone_at a l.length cap (l.map fun x : Nat => (x : Int)) w (by simp) hsz hb).mono ?_
    rintro e w' ⟨v', rfl, ho, _, hbl⟩
    refine ⟨v', rfl, ?_, hbl⟩
    have := OwnV.of_row ho
    rw [List.map_map] at this
    exact this
/-- What Read tells: bytes, and an error. -/
def Dm.readE (M : Dm) (s : ByteArray) (at_ n : Int) : List Nat × Nat :=
  if 0 ≤ at_ ∧ 0 ≤ n then
    if M.why true s = 0 then
      let b := ((find M.now s).map fun i => (M.row i).l).getD []
      if at_ ≤ b.length ∧ n ≤ b.length - at_ then ((b.drop at_.toNat).take n.toNat, 0) else ([], 5)
    else ([], M.why true s)
  else ([], 1)
set_option maxRecDepth 20000 in
set_option maxHeartbeats 1500000 in
theorem Read_any {w : World} {base D : Nat} {M : Dm} {S : Nat → Prop} (hd : Dk w base D M S) (s : ByteArray) (hs : s.size ≤ 140737488355328) (at_ n : Int) (ha : -9223372036854775808 ≤ at_ ∧ at_ ≤ 9223372036854775807) (hn : -9223372036854775808 ≤ n ∧ n ≤ 9223372036854775807) :
    Calls Tryd.prog 33 #[.pointer (some ⟨D, 0, none⟩), .string s, .int .i64 at_, .int .i64 n] w fun e w' => ∃ v, e = .returned (.tuple #[v, .int .i64 (M.readE s at_ n).2]) ∧ Own w' w.heap.size v (M.readE s at_ n).1 ∧ Below w.heap.size w w' := by
  have HD := Lib.hid hd
  have hnil : ∀ W : World, Own W w.heap.size (.slice none 0 0) [] := fun W => ⟨rfl, .inl ⟨rfl, rfl⟩⟩
  obtain ⟨⟨rb, rv, h, hS⟩, _⟩ := hd
  by_cases h0 : 0 ≤ at_ ∧ 0 ≤ n
  · obtain ⟨ha0, hn0⟩ := h0
    have hmin : (0 : Int) ≤ min at_ n := by omega
    rcases M.ways s with ⟨hok, i, hf⟩ | hno
    · obtain ⟨k, r, h1, h2, h3, h4, h5⟩ := h.ok.found hok hf
      have hre : M.readE s at_ n = if at_ ≤ r.l.length ∧ n ≤ r.l.length - at_ then ((r.l.drop at_.toNat).take n.toNat, 0) else ([], 5) := by
        rw [Dm.readE, if_pos ⟨ha0, hn0⟩, if_pos (Dm.why_yes hok hf)]
        simp [hf, h5]
      have HF := Lib.hid (finds_yes h s hs hok i hf)
      have c2 := (h.place h1).2
      have H := Lib.hid h
      have HR := Lib.hid h2
      have hr1 := (h.ok.rl k r h2).1
      have C2 := Lib.hid (fun w1 (hb : Below w.heap.size w w1) => cell_on c2 hb)
      obtain ⟨p, rfl⟩ : ∃ p : Nat, at_ = p := ⟨at_.toNat, by omega⟩
      obtain ⟨q, rfl⟩ : ∃ q : Nat, n = q := ⟨n.toNat, by omega⟩
      rw [Int.toNat_natCast, Int.toNat_natCast] at hre
      by_cases hc1 : p ≤ r.l.length
      · by_cases hc2 : q ≤ r.l.length - p
        · rw [if_pos (by omega)] at hre
          obtain ⟨L2, hL2⟩ : ∃ L2, L2 = (r.l.drop p).take q := ⟨_, rfl⟩
          rw [hre, ← hL2]
          have HL2 := Lib.hid hL2
          clear hL2
          have hcI : (q : Int) ≤ (r.l.length : Int) - (p : Int) := by omega
          clear h hS h1 h2 h4 h5 hf hok c2 hre
          go_enter Tryd.func33, Tryd.ntmps33
          go_wp2_with fail
          refine HF.out.mono ?_
          rintro _ w1 ⟨rfl, hb⟩
          have HB := Lib.hid hb
          have c2 : w1.cell? ⟨D, 1 + i * 2 + 1, none⟩ = some (.pointer (some ⟨rb k, 0, none⟩)) := C2.out w1 hb
          have hrow := (H.out.later hb).row k r HR.out
          obtain ⟨c3, c4⟩ := hrow.cells
          have hkat : KAt .u8 w1 (rv k) r.l := Own.at_ (base := base) hrow.own
          obtain ⟨a, c, hsl⟩ := hrow.own.sl
          rw [hsl] at c3 hkat
          obtain ⟨a1, c1, hr1', hk1⟩ := slice_from hkat p hc1
          obtain ⟨a2, c2', hr2', hk2⟩ := slice_to hk1 q (by simpa using hc2)
          have HR1 := Lib.hid hr1'
          have HR2 := Lib.hid hr2'
          have hcl := BClone_any hk2 (by simp; omega)
          rw [← HL2.out] at hcl
          have HCL := Lib.hid hcl
          clear hb hrow hsl hkat hr1' hr2' hk1 hk2 hcl
          have hs1 := HR1.out
          have hs2 := HR2.out
          go_wp2_with fail
          clear hs1 hs2
          refine HCL.out.mono ?_
          rintro _ w2 ⟨v2, rfl, ho, hb⟩
          have HO := Lib.hid ho
          have HB2 := Lib.hid hb
          obtain ⟨a3, c3', rfl⟩ := ho.sl
          clear ho hb
          go_wp2_with fail
          refine (Clip_any w2 HO.out).mono ?_
          rintro _ w3 ⟨v3, rfl, ho, rfl⟩
          have HO3 := Lib.hid ho
          obtain ⟨a4, c4', rfl⟩ := ho.sl
          clear ho
          go_wp2_with fail
          go_ret2
          exact ⟨_, rfl, HO3.out.base HB.out.size, below_on HB.out HB2.out⟩
        · rw [if_neg (by omega)] at hre
          have hcI : ¬ ((q : Int) ≤ (r.l.length : Int) - (p : Int)) := by omega
          rw [hre]
          clear h hS h1 h2 h4 h5 hf hok c2 hre
          go_enter Tryd.func33, Tryd.ntmps33
          go_wp2_with fail
          refine HF.out.mono ?_
          rintro _ w1 ⟨rfl, hb⟩
          have HB := Lib.hid hb
          have c2 : w1.cell? ⟨D, 1 + i * 2 + 1, none⟩ = some (.pointer (some ⟨rb k, 0, none⟩)) := C2.out w1 hb
          have hrow := (H.out.later hb).row k r HR.out
          obtain ⟨c3, c4⟩ := hrow.cells
          obtain ⟨a, c, hsl⟩ := hrow.own.sl
          rw [hsl] at c3
          clear hb hrow hsl
          go_wp2_with fail
          go_ret2
          exact ⟨_, rfl, hnil _, HB.out⟩
      · rw [if_neg (by omega)] at hre
        have hcI : ¬ ((p : Int) ≤ (r.l.length : Int)) := by omega
        rw [hre]
        clear h hS h1 h2 h4 h5 hf hok c2 hre
        go_enter Tryd.func33, Tryd.ntmps33
        go_wp2_with fail
        refine HF.out.mono ?_
        rintro _ w1 ⟨rfl, hb⟩
        have HB := Lib.hid hb
        have c2 : w1.cell? ⟨D, 1 + i * 2 + 1, none⟩ = some (.pointer (some ⟨rb k, 0, none⟩)) := C2.out w1 hb
        have hrow := (H.out.later hb).row k r HR.out
        obtain ⟨c3, c4⟩ := hrow.cells
        obtain ⟨a, c, hsl⟩ := hrow.own.sl
        rw [hsl] at c3
        clear hb hrow hsl
        go_wp2_with fail
        go_ret2
        exact ⟨_, rfl, hnil _, HB.out⟩
    · rw [show M.readE s at_ n = ([], M.why true s) by rw [Dm.readE, if_pos ⟨ha0, hn0⟩, if_neg hno]]
      have HF := Lib.hid (finds_no h true s hs hno)
      obtain ⟨e, he⟩ : ∃ e, M.why true s = e := ⟨_, rfl⟩
      rw [he] at HF hno ⊢
      have hne : ((e : Int) != 0) = true := by simp; omega
      clear h he hS
      go_enter Tryd.func33, Tryd.ntmps33
      go_wp2_with fail
      refine HF.out.mono ?_
      rintro _ w1 ⟨rfl, hb⟩
      have HB := Lib.hid hb
      clear hb
      go_wp2_with fail
      go_ret2
      exact ⟨_, rfl, hnil _, HB.out⟩
  · rw [show M.readE s at_ n = ([], 1) by rw [Dm.readE, if_neg h0]]
    have hmin : ¬ ((0 : Int) ≤ min at_ n) := by omega
    have hw : M.why false s = 1 := by simp [Dm.why]
    have HF := Lib.hid (finds_no h false s hs (by rw [hw]; decide))
    rw [hw] at HF
    clear h hS hw
    go_enter Tryd.func33, Tryd.ntmps33
    go_wp2_with fail
    refine HF.out.mono ?_
    rintro _ w1 ⟨rfl, hb⟩
    have HB := Lib.hid hb
    clear hb
    go_wp2_with fail
    go_ret2
    exact ⟨_, rfl, hnil _, HB.out⟩

end Go.Proofs.YtjfejpdeccnlnaaDoor
