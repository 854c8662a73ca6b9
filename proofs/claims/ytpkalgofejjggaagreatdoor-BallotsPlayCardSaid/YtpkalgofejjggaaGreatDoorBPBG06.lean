/- Layer 7 (primes) -/
import Derived.Test.YtpkalgofejjggaaGreatDoorBPBG05
import Derived.Deep.WholeRow
import Derived.Deep.MidRow
import Derived.Deep.DeepCutAuto
set_option linter.unusedSimpArgs false
set_option linter.unusedVariables false
set_option maxHeartbeats 2000000
set_option maxRecDepth 20000
namespace Go.Proofs.YtpkalgofejjggaaGreatDoor
open Go.ChangeShapes Go.WideShapes Go.ChangeAt Go.RowKit Go.Proofs.Tryz
theorem zu{P:Program}{ops:Array Oper}{rest:List Oper}{o:Oper}{a:Act}{w:World}{Q:Exit->Act->World->Prop}{v:Value}(hgd:o.guard=none)(h:(execOp a.eval o).run P w=.ok (.value v) w)
  (k:wpList P ops Q rest (a.put o.dst v) w):wpList P ops Q (o::rest) a w:=
 wpList_plain hgd fun _ hK=>by
  unfold Oper.wp;rw[h];exact hK _ _ k
theorem jL{P:Program}{ops:Array Oper}{rest:List Oper}{o:Oper}{a a':Act}{w:World}{Q:Exit->Act->World->Prop}(v:Value)(k:wpList P ops Q rest a' w)(h:(execOp a.eval o).run P w=.ok (.value v) w:=by kernel_rfl)(hgd:o.guard=none:=by rfl)(he:a.put o.dst v=a':=by(first|(simp only[Act.put,pa,pb,pc,jP,jA,jB,jC,jD,jE,jG];rfl)|(simp only[Act.put,pa,pb,pc,jP,jA,jB,jC];rfl)|rfl)):wpList P ops Q (o::rest) a w:=
 zu hgd h (he▸k)
theorem jW{P:Program}{ops:Array Oper}{rest:List Oper}{o:Oper}{a:Act}{w:World}{Q:Exit->Act->World->Prop}(hgd:o.guard=none)(ty:TypeId)(x y:Operand)(ho:o.op=.store ty x y)(c T:Array Value)
  (hx:a.eval x=.pointer (some ⟨w.heap.size,0,none⟩)) (hy:a.eval y=.agg T) (hi:(P.info? ty).map (·.size)=some T.size) (hc:c.size=T.size) (h1:T.all (·.oneCell')=true)
  (k:wpList P ops Q rest (a.put o.dst undef) (w.alloc (.cells T ty))):wpList P ops Q (o::rest) a (w.alloc (.cells c ty)):=
 wpList_plain hgd fun _ hK=>by
  unfold Oper.wp execOp;simp only[ho,hx,hy,Sem.run_bind,run_storeAt_new w ty c T hi hc h1,Result.andThen_ok,Sem.run_pure];exact hK _ _ k
def S8.val(s:S8):Value:=.agg #[.int .u32 s.a,.int .u32 s.b,.int .u32 s.c,.int .u32 s.d,.int .u32 s.e,.int .u32 s.f,.int .u32 s.g,.int .u32 s.h]
theorem info8:(prog.info? 327).map (fun i=>(i.zero,i.size))=some (some (.agg (Array.replicate 8 (.int .u32 0))),8):=by kernel_rfl
theorem info64:(prog.info? 336).map (fun i=>(i.zero,i.size))=some (some (.agg (Array.replicate 64 (.int .u32 0))),64):=by kernel_rfl
theorem Jc(k:IntKind)(l:List Nat):(jo k l).toArray.all (·.oneCell')=true:=all_oneCell_toArray (Jx k l)
theorem begin_any(w:World):Calls prog 267 #[] w fun e w'=>e=.returned EC.val/\Below w.heap.size w w':=by
 obtain⟨hz,hs⟩:=zero_of_info info8
 go_enter func267,ntmps267
 go_upto_region 1 with fail
 refine wp_region_lit ?_;refine jL (EC.val) ?_;obtain⟨T,hT⟩:∃T:Array Value,EC.val=.agg T:=⟨_,rfl⟩;have hn:T.size=8:=by unfold S8.val at hT;injection hT with hT;rw[<-hT];rfl
 have ho:T.all (·.oneCell')=true:=by unfold S8.val at hT;injection hT with hT;rw[<-hT];simp[go_sem,Value.oneCell']
 rw[hT];refine jW rfl _ _ _ rfl _ T rfl rfl (by rw[hs,hn]) (by rw[hn];rfl) ho ?_
 go_wp2
 have h9:=results_cell_row (P:=prog) (fn:=f267) rfl #[Value.pointer (some ⟨w.heap.size,0,none⟩),.agg T] (w.alloc (.cells T 327)) w.heap.size _ _ _ _ rfl jQ underlying327 rfl (by rw[hs,hn]);exact bodyPost_ret h9 rfl ⟨by rw[hT],ja⟩
theorem steps_any(w:World):Calls prog 283 #[] w fun e w'=>e=.returned (.agg (jo .u32 ZG).toArray)/\Below w.heap.size w w':=by
 obtain⟨hz,hs⟩:=zero_of_info info64
 go_enter func283,ntmps283
 go_upto_region 1 with fail
 refine wp_region_lit ?_;refine jL (.agg (jo .u32 ZG).toArray) ?_;obtain⟨T,hT⟩:=je ((jo .u32 ZG).toArray);have hn:T.size=64:=by rw[hT];rfl
 have ho:T.all (·.oneCell')=true:=by rw[hT];exact Jc _ _
 rw[<-hT];refine jW rfl _ _ _ rfl _ T rfl rfl (by rw[hs,hn]) (by rw[hn];rfl) ho ?_
 go_wp2
 have h9:=results_cell_row (P:=prog) (fn:=f283) rfl #[Value.pointer (some ⟨w.heap.size,0,none⟩),.agg T] (w.alloc (.cells T 336)) w.heap.size _ _ _ _ rfl jQ underlying336 rfl (by rw[hs,hn]);exact bodyPost_ret h9 rfl ⟨by rw[hT],ja⟩
theorem GU{n:Nat}(hn:n<2∨4294967296<=n)(O9:n<18446744073709551616)(w:World):Calls prog 100 #[.int .u64 n] w fun e w'=>e=.returned (.bool false)/\w'=w:=by
 by_cases h2:n<2
 ·have hI:(n:Int)<2:=by omega
  clear hn h2
  go_enter func100,ntmps100
  go_wp2
  go_step3
  go_wp2
  try rw[Exit.noGoto_ret]
  go_ret
  exact⟨rfl,rfl⟩
 ·have hI:¬(n:Int)<2:=by omega
  obtain⟨t,ht⟩:=je (n/4294967296);have htI:(n:Int)/4294967296=(t:Int):=by omega
  have htp:(0:Int)<(t:Int):=by omega
  clear hn h2 ht
  go_enter func100,ntmps100
  go_wp2
  go_step3
  go_wp2
  try rw[Exit.noGoto_ret]
  go_ret
  exact⟨rfl,rfl⟩
theorem small_yes{n:Nat}(h2:2<=n)(h32:n<4294967296)(w:World):Calls prog 100 #[.int .u64 n] w fun e w'=>∃b,e=.returned (.bool b)/\(b=true↔yG n)/\w'=w:=by
 have hI:¬(n:Int)<2:=by omega
 have htI:(n:Int)/4294967296=0:=by omega
 go_enter func100,ntmps100
 go_wp2
 go_step3
 go_wp2
 go_step3
 go_wp2
 go_loopw [3,4] (fun t i wr=>∃d:Nat,(2<=d/\d<=65536)/\t=.bool true/\i=.int .u64 d/\Hid (∀e,2<=e->e<d->n%e≠0)/\wr=w) (fun _ i _=>65536-(intOf i).toNat)
 case atStart=>exact⟨2,⟨by omega,by omega⟩,rfl,rfl,jh (fun e h1 h2=>by omega),rfl⟩
 case round=>
  obtain⟨d,⟨hd2,hd6⟩,rfl,rfl,HD,hwr⟩:=hrel;subst hwr;obtain⟨s,hs⟩:=je (d*d);have hsI:(d:Int)*(d:Int)=(s:Int):=by rw[hs];simp
  have hsb:s<=4294967296:=by rw[hs];exact Nat.mul_le_mul hd6 hd6
  have HS:=jh hs
  by_cases hle:s<=n
  ·have hleI:(s:Int)<=(n:Int):=by omega
   have hd5:d<65536:=by
    rcases Nat.lt_or_ge d 65536 with h|h
    ·exact h
    ·have h9:=Nat.mul_le_mul h h;omega
   obtain⟨r,hr⟩:=je (n%d);have hrI:(n:Int)%(d:Int)=(r:Int):=by rw[hr];simp
   have hd0:¬(d:Int)=0:=by omega
   have HR:=jh hr;have HLE:=jh hle;clear hr hs hle
   by_cases hz:r=0
   ·have HZ:=jh hz;have hzI:(r:Int)=0:=by omega
    clear hz
    go_wp2_with fail
    try rw[Exit.noGoto_ret]
    go_ret
    exact⟨_,rfl,⟨(fun h=>by cases h),fun h=>absurd (HR.out.symm.trans HZ.out) (h.2 d hd2 (by rw[<-HS.out];exact HLE.out))⟩,rfl⟩
   ·have HZ:=jh hz;have hzI:¬(r:Int)=0:=by omega
    clear hz
    go_wp2_with fail
    go_roundw
    case rel=>exact⟨d+1,⟨by omega,by omega⟩,rfl,by go_num,jh (fun e h1 h2=>by
     rcases Nat.lt_or_ge e d with h|h
     ·exact HD.out e h1 h
     ·obtain rfl:e=d:=by omega
      rw[<-HR.out]
      exact HZ.out),trivial⟩
    case measure=>simp[intOf];omega
  ·have hleI:¬(s:Int)<=(n:Int):=by omega
   have HLE:=jh hle;clear hs hle
   go_wp2_with fail
   try rw[Exit.noGoto_ret]
   go_ret
   exact⟨_,rfl,⟨fun _=>⟨h2,fun e h1 h3=>HD.out e h1 (by
    rcases Nat.lt_or_ge e d with h|h
    ·exact h
    ·have h9:=Nat.mul_le_mul h h;have:=HS.out;have:=HLE.out
     omega)⟩,fun _=>rfl⟩,rfl⟩
theorem Small_any{n:Nat}(O9:n<18446744073709551616)(w:World):Calls prog 100 #[.int .u64 n] w fun e w'=>∃b,e=.returned (.bool b)/\(b=true↔yG n/\n<4294967296)/\w'=w:=by
 by_cases h2:2<=n
 ·by_cases h32:n<4294967296
  ·exact(small_yes h2 h32 w).mono fun _ _ ⟨b,h1,h3,h4⟩=>⟨b,h1,h3.trans ⟨fun h=>⟨h,h32⟩,fun h=>h.1⟩,h4⟩
  ·exact(GU (Or.inr (by omega)) O9 w).mono fun _ _ ⟨h1,h3⟩=>⟨false,h1,⟨(fun h=>by cases h),fun h=>absurd h.2 h32⟩,h3⟩
 ·exact(GU (Or.inl (by omega)) O9 w).mono fun _ _ ⟨h1,h3⟩=>⟨false,h1,⟨(fun h=>by cases h),fun h=>absurd h.1.1 h2⟩,h3⟩
end Go.Proofs.YtpkalgofejjggaaGreatDoor
