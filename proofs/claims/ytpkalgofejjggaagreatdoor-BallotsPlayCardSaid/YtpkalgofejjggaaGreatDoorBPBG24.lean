/- The library's Grow and Concat, of words -/
import Derived.Test.YtpkalgofejjggaaGreatDoorBPBG04
import Derived.WalkSpells
set_option maxHeartbeats 1500000
set_option maxRecDepth 20000
namespace Go.Proofs.YtpkalgofejjggaaGreatDoor
open Go.ChangeShapes Go.WideShapes Go.ChangeAt Go.RowKit Go.Proofs.Tryz
theorem infoL:(prog.info? 22).map (fun i=>(i.zero,i.size,i.bytes))=some (some (.int .u64 0),1,8):=by kernel_rfl
def OwnL(w:World)(base:Nat)(v:Value)(l:List Nat):Prop:=O1 w base 22 1 v l.length (jo .u64 l)
theorem OwnL.at_{w:World}{base:Nat}{v:Value}{l:List Nat}(h:OwnL w base v l):F7 .u64 w v l:=by
 have h':=h;obtain⟨h1,h2⟩:=h'
 rcases h2 with⟨rfl,h3⟩|⟨g,o,cap,cur,rfl,hb,hg,hc,hm,hs,ht⟩
 ·have:l=[]:=List.length_eq_zero_iff.1 h3;subst this;exact F7.nil _ w
 ·refine⟨_,_,rfl,hc,hm,(fun h=>by cases h),fun _=>⟨g,o,rfl,fun i x hx=>?_⟩⟩;have:=O1.cells h i (.int .u64 x) (by rw[qC,hx];rfl);rw[Addr.add_lit] at this;exact this
def PartsL(w:World)(g o:Nat)(vs:List Value)(ls:List (List Nat)):Prop:=vs.length=ls.length/\∀i,i<ls.length->∃v l,vs[i]?=some v/\ls[i]?=some l/\w.cell? ⟨g,o+i,none⟩=some v/\F7 .u64 w v l
theorem TG{P:Program}(w:World)(t k ty e:TypeId)(kk:IntKind)(i:TypeInfo)(z:Value)(ht:P.underlying t=some (.slice e))(hk:P.underlying k=some (.int kk))(hi:P.info? e=some i)(hz:i.zero=some z)(hs:i.size=1)(hby:i.bytes=8)
  (n:Nat) (h0:0<n) (h48:n<=1000000):
  (Builtin.append_ #[t,k] ty #[.slice none 0 0,.int .i64 n]).run P w=.ok (.slice (some ⟨w.heap.size,0,none⟩) n (grownCap w n 0 e)) (w.drew.alloc (.cells (Builtin.zeroCells z.cells n++Builtin.zeroCells z.cells (grownCap w n 0 e-n)) e)):=by
 have hn:n≠0:=by omega
 have w0:IntKind.i64.wrap (n:Int)=n:=by rw[IntKind.wrap_i64];omega
 have h1:¬((n:Int)<0):=by omega
 have h2:¬(281474976710656<(n:Int)*8):=by omega
 have h63':¬(9223372036854775807<(n:Int)):=by omega
 have h48':¬(281474976710656<Builtin.nextslicecap n 0*8):=by rw[nextslicecap_zero h0];omega
 have ha:∀w,(asInt (Value.int IntKind.i64 (n:Int))).run P w=.ok (n:Int) w:=fun w=>rfl
 have hmax:max (n:Int) 0=n:=by omega
 simp[Builtin.append_,ha,hmax,run_underlying ht,run_underlying hk,sizeOf,typeInfo,zeroValue,hi,hz,hs,hby,Builtin.lenOf,hn,w0,h1,h2,h63',h48',Question.forced,run_firstCells_none,newRow,grownCap]
theorem XZ(n:Nat)(hn:n<=1000000)(w:World):
  Calls prog 276 #[.slice none 0 0,.int .i64 n] w fun e w'=>∃v',e=.returned v'/\OwnL w' w.heap.size v' []/\Below w.heap.size w w':=by
 obtain⟨i0,hi,hz0,hz1,hz2⟩:=info_parts infoL
 by_cases h0:0<n
 ·obtain⟨gc,cz,hge,hle,hcz,hap⟩:∃(gc:Nat) (cz:Array Value),n<=gc/\gc<=maxLen/\Hid (cz.size=gc)/\
    Hid (∀ty,(Builtin.append_ #[293,3] ty #[.slice none 0 0,.int .i64 n]).run prog w=.ok (.slice (some ⟨w.heap.size,0,none⟩) n gc) (w.drew.alloc (.cells cz 22))):=by
   have h:=fun ty=>TG w 293 3 ty 22 .i64 i0 (.int .u64 0) underlying293 underlying3 hi hz0 hz1 hz2 n h0 hn
   have hg:=grownCap_ge w n 0 22;refine⟨_,_,hg,grownCap_le_maxLen w n 0 _ (by unfold maxLen;omega),jh ?_,jh h⟩;simp only[Array.size_append,size_zeroCells]
   simp[Value.cells]
   omega
  have hl2:gc<=9223372036854775807:=by unfold maxLen at hle;omega
  clear hi hz0 hz1 hz2
  go_enter func276,ntmps276
  go_wp2_with (at_builtin;refine Zb rfl _ _ 293 3 rfl _ _ _ _ rfl rfl hap.out ?_)
  go_ret
  exact⟨_,rfl,⟨by simp[jo],.inr ⟨w.heap.size,0,gc,cz,rfl,Nat.le_refl _,heap_alloc_new w.drew _,Nat.zero_le _,hle,by rw[hcz.out];omega,by simp[jo]⟩⟩,((Below.refl _ w).drew).alloc (Nat.le_refl _) _⟩
 ·obtain rfl:n=0:=by omega
  clear hi hz0 hz1 hz2
  go_enter func276,ntmps276
  go_wp2
  go_ret
  exact⟨_,rfl,⟨by simp[jo],.inl ⟨rfl,rfl⟩⟩,U3⟩
theorem gU{g o cap:Nat}{vs:List Value}{ls:List (List Nat)}(w:World)(hP:PartsL w g o vs ls)(hcap:ls.length<=cap)(hcm:cap<=maxLen)(hsz:ls.flatten.length<=1000000):
  Calls prog 255 #[.slice (some ⟨g,o,none⟩) ls.length cap] w fun e w'=>∃v',e=.returned v'/\OwnL w' w.heap.size v' ls.flatten/\Below w.heap.size w w':=by
 obtain⟨i0,hi,hz0,hz1,hz2⟩:=info_parts infoL;have HI:=jh hi;have HP:=jh hP;have HZ:=jh hsz;unfold maxLen at hcm;clear hi hP hsz;obtain⟨N,hN⟩:∃N,Hid (ls.flatten.length=N):=⟨_,jh rfl⟩;have hNs:N<=1000000:=by have h1:=hN.out;have h2:=HZ.out;omega
 go_enter func255,ntmps255
 go_wp2
 go_loop [3,11] (fun s i=>∃i' s':Nat,i'<=ls.length/\i=.int .i64 i'/\s=.int .i64 s'/\s'<=N/\Hid ((ls.take i').flatten.length=s')) (fun _ i=>ls.length-(intOf i).toNat)
 case atStart=>exact⟨0,0,Nat.zero_le _,rfl,rfl,Nat.zero_le _,jh (by simp)⟩
 case round=>
  obtain⟨i,s,hi,rfl,rfl,hs,hss⟩:=hrel
  by_cases hlt:i<ls.length
  ·obtain⟨v,l,hv,hl,hcell,hk⟩:=HP.out.2 i hlt;obtain⟨ao,c,rfl,hk1,hk2,hk3,hk4⟩:=hk;have hst:=Qy hl;have hle:=Zg ls (i+1);rw[hst,List.length_append,hss.out,hN.out] at hle;have HT:=jh hst;unfold maxLen at hk2;clear hv hl hk3 hk4 hst
   go_wp2
   go_round
   case rel=>exact⟨i+1,s+l.length,by omega,by go_num,by go_num,by omega,jh (by rw[HT.out,List.length_append,hss.out])⟩
   case measure=>simp[intOf];omega
  ·obtain rfl:i=ls.length:=by omega
   have hsN:s=N:=by have h1:=hss.out;have h2:=hN.out;rw[List.take_length] at h1;omega
   clear hss hs;subst hsN
   go_wp2_with (go_at_call 276;refine(XZ s hNs w).mono ?_;rintro e w1 ⟨v1,rfl,ho,hb⟩;have HO:=jh ho;have HB:=jh hb;clear ho hb)
   go_loopw [6,27] (fun v i wr=>∃i':Nat,i'<=ls.length/\i=.int .i64 i'/\OwnL wr w.heap.size v (ls.take i').flatten/\Below w.heap.size w wr) (fun _ i _=>ls.length-(intOf i).toNat)
   case atStart=>exact⟨0,Nat.zero_le _,rfl,HO.out,HB.out⟩
   case round=>
    obtain⟨i,hi,rfl,ho,hb⟩:=hrel;have YA:=jh ho;have HB1:=jh hb;clear ho hb HO HB
    by_cases hlt:i<ls.length
    ·obtain⟨v,l,hv,hl,hcell,hk⟩:=HP.out.2 i hlt;have hcell2:=HB1.out.cell (p:=⟨g,o+i,none⟩) (World.block_lt_of_cell? (a:=⟨g,o+i,none⟩) _ hcell);rw[hcell] at hcell2;have hst:=Qy hl;have hle:=Zg ls (i+1);rw[hst,List.length_append,hN.out] at hle;have HT:=jh hst;have HL:=jh hle;have HK:=jh (hk.later HB1.out).src;clear hv hl hst hcell hle hk
     go_wp2_with (at_builtin;refine JN rfl _ _ 293 rfl w.heap.size 22 i0 (.int .u64 0) 1 8 underlying293 HI.out hz0 hz1 hz2 rfl _ (ls.take i).flatten.length (jo .u64 (ls.take i).flatten) rfl YA.out _ l.length (jo .u64 l) rfl HK.out (by have:=HL.out;unfold maxLen;omega) (by have:=HL.out;omega) HB1.out.size ?_;intro v' w2 ho2 hg2;have D9:=jh ho2;have HG2:=jh hg2;clear ho2 hg2)
     go_roundw
     case rel=>exact⟨i+1,by omega,by go_num,by unfold OwnL;rw[HT.out,List.length_append,qp];exact D9.out,HB1.out.grown HG2.out HB1.out.size (fun k hk=>(YA.out.lt k hk).1)⟩
     case measure=>simp[intOf];omega
    ·obtain rfl:i=ls.length:=by omega
     go_wp2
     go_ret
     exact⟨_,rfl,by have h:=YA.out;rw[List.take_length] at h;exact h,HB1.out⟩
end Go.Proofs.YtpkalgofejjggaaGreatDoor
