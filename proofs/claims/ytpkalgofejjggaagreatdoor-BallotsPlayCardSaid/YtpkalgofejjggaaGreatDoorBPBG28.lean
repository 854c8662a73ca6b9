/- Casts in memory -/
import Derived.Test.YtpkalgofejjggaaGreatDoorBPBG20
import Derived.Test.YtpkalgofejjggaaGreatDoorBPBG21
import Derived.Laws.OwnMore
import Derived.Test.YtpkalgofejjggaaGreatDoorBPBG27
set_option linter.unusedSimpArgs false
set_option linter.unusedVariables false
set_option maxHeartbeats 16000000
set_option maxRecDepth 100000
namespace Go.Proofs.YtpkalgofejjggaaGreatDoor
open Go.ChangeShapes Go.WideShapes Go.ChangeAt Go.RowKit
theorem NM:∀(b:List Nat) (z:Nat),b.foldl (fun n c=>n*256+c) z=z*256^b.length+b.foldl (fun n c=>n*256+c) 0
 |[],z=>by simp
 |c::b,z=>by
  rw[List.foldl_cons,List.foldl_cons,NM b (z*256+c),NM b (0*256+c),List.length_cons,Nat.pow_succ,Nat.zero_mul,Nat.zero_add,Nat.add_mul,Nat.mul_assoc,Nat.mul_comm 256,Nat.add_assoc]
theorem iG(a b:List Nat):num (a++b)=num a*256^b.length+num b:=by
 unfold num;rw[List.foldl_append,NM]
theorem word_lt{b:List Nat}(hb:qk b)(i:Nat)(h:8*i+8<=b.length):qK b i<jf:=by
 have h9:=GL 8 ((b.drop (8*i)).take 8) (by rw[List.length_take,List.length_drop];omega) (fun x hx=>hb x (List.drop_subset _ _ (List.take_subset _ _ hx)));exact h9
theorem num32{b:List Nat}(hl:b.length=32):num b=((qK b 0*jf+qK b 1)*jf+qK b 2)*jf+qK b 3:=by
 have e0:b=(((b.drop 0).take 8++(b.drop 8).take 8)++(b.drop 16).take 8)++(b.drop 24).take 8:=by
  have h1:(b.drop 24).take 8=b.drop 24:=List.take_of_length_le (by rw[List.length_drop];omega);rw[h1,List.append_assoc,List.append_assoc];have h2:=List.take_append_drop 8 (b.drop 16);rw[List.drop_drop] at h2;have h3:=List.take_append_drop 8 (b.drop 8);rw[List.drop_drop] at h3;have h4:=List.take_append_drop 8 (b.drop 0);rw[List.drop_drop] at h4;rw[show(16+8:Nat)=24 from rfl] at h2;rw[show(8+8:Nat)=16 from rfl] at h3;rw[show(0+8:Nat)=8 from rfl] at h4;rw[h2,h3,h4]
  rfl
 have l1:((b.drop 8).take 8).length=8:=by rw[List.length_take,List.length_drop];omega
 have l2:((b.drop 16).take 8).length=8:=by rw[List.length_take,List.length_drop];omega
 have l3:((b.drop 24).take 8).length=8:=by rw[List.length_take,List.length_drop];omega
 conv=>lhs;rw[e0]
 rw[iG,iG,iG,l1,l2,l3]
 rfl
theorem numV_of{b:List Nat}(hb:qk b)(hl:b.length=32):Value.agg #[.int .u64 (qK b 3),.int .u64 (qK b 2),.int .u64 (qK b 1),.int .u64 (qK b 0)]=ji (num b):=by
 have h0:=word_lt hb 0 (by omega);have h1:=word_lt hb 1 (by omega);have h2:=word_lt hb 2 (by omega);have h3:=word_lt hb 3 (by omega);rw[num32 hl]
 generalize qK b 0=x0 at*
 generalize qK b 1=x1 at*
 generalize qK b 2=x2 at*
 generalize qK b 3=x3 at*
 have e3:jg jf (((x0*jf+x1)*jf+x2)*jf+x3) 0=x3:=by unfold jg jf at*;omega
 have e2:jg jf (((x0*jf+x1)*jf+x2)*jf+x3) 1=x2:=by unfold jg jf at*;omega
 have e1:jg jf (((x0*jf+x1)*jf+x2)*jf+x3) 2=x1:=by unfold jg jf at*;omega
 have e0:jg jf (((x0*jf+x1)*jf+x2)*jf+x3) 3=x0:=by unfold jg jf at*;omega
 unfold ji words;rw[e3,e2,e1,e0]
theorem num_lt256{b:List Nat}(hb:qk b)(hl:b.length=32):num b<jk:=by
 have h:=GL 32 b hl hb;exact h
open Go.ChangeShapes Go.WideShapes Go.ChangeAt Go.RowKit Go.Proofs.Tryz
theorem row_block{w w':World}{base:Nat}{e:TypeId}{size:Nat}{v:Value}{n:Nat}{xs:List Value}(h:w.ownsRow base e size v n xs)(hb:∀g,v.ownBlock=some g->w'.heap[g]?=w.heap[g]?):w'.ownsRow base e size v n xs:=by
 obtain⟨h1,h2⟩:=h;refine⟨h1,?_⟩
 rcases h2 with h2|⟨g,cap,cur,h3,h4,h5,h6⟩
 ·exact .inl h2
 ·exact .inr ⟨g,cap,cur,h3,h4,(hb g (by rw[h3];rfl)).trans h5,h6⟩
theorem PU{w:World}{base g:Nat}{e:TypeId}{cap n:Nat}{xs:List Value}{x:Value}(h:w.ownsRow base e 1 (.slice (some ⟨g,0,none⟩) (n+1) cap) (n+1) (xs++[x])):w.ownsRow base e 1 (.slice (some ⟨g,0,none⟩) n cap) n xs:=by
 obtain⟨h1,h2⟩:=h;have h7:xs.length=n:=by simpa using h1
 refine⟨by simpa using h7,?_⟩
 rcases h2 with⟨h2,_⟩|⟨g',cap',cur,h3,h4,h5,h6,h8,h9,h10⟩
 ·cases h2
 ·cases h3
  have e:=congrArg (List.take n) h10;rw[List.take_take,show min n ((n+1)*1)=n by omega,List.take_append_of_le_length (Nat.le_of_eq h7.symm),List.take_of_length_le (Nat.le_of_eq h7)] at e;exact .inr ⟨g,cap,cur,rfl,h4,h5,by omega,h8,h9,by simpa using e⟩
theorem vP{w:World}{base g:Nat}{e:TypeId}{cap n:Nat}{xs:List Value}(h:w.ownsRow base e 1 (.slice (some ⟨g,0,none⟩) n cap) n xs){j:Nat}{u:Value}(hj:xs[j]?=some u):w.cell? ⟨g,j,none⟩=some u:=by
 obtain⟨h1,h2⟩:=h
 rcases h2 with⟨h2,_⟩|⟨g',cap',cur,h3,h4,h5,h6,h8,h9,h10⟩
 ·cases h2
 ·cases h3
  rw[cell_of_row _ _ _ _ _ _ h5];rw[<-h10,List.getElem?_take] at hj
  split at hj
  ·simpa using hj
  ·cases hj
theorem Qm{c:Bool}{A B:Prop}(h:c=true)(ha:A):if c=true then A else B:=by
 rw[if_pos h];exact ha
theorem yL{P:Program}{o:Oper}{a:Act}{w:World}{K:Act->World->Prop}{Q:Exit->Act->World->Prop}(ty:TypeId)(x y:Operand)(ho:o.op=.store ty x y)(g:Nat)(c T:Array Value)(t:TypeId)
  (hg:w.heap[g]?=some (.cells c t (0,0))) (hx:a.eval x=.pointer (some ⟨g,0,none⟩)) (hy:a.eval y=.agg T) (hi:(P.info? ty).map (·.size)=some T.size) (hc:c.size=T.size) (h1:T.all (·.oneCell')=true)
  (k:K (a.put o.dst undef) (w.setRow g T)):o.wp P a w K Q:=by
 unfold Oper.wp execOp;simp only[ho,hx,hy,Sem.run_bind,Instr.storeAt,Instr.sureAddr,Sem.run_pure,Result.andThen_ok,run_storeVar_row w g t ty c T hg hi hc h1];exact k
theorem Zu{P:Program}{o:Oper}{a:Act}{w w':World}{K:Act->World->Prop}{Q:Exit->Act->World->Prop}{v:Value}(h:(execOp a.eval o).run P w=.ok (.value v) w')(k:K (a.put o.dst v) w'):o.wp P a w K Q:=by
 unfold Oper.wp;rw[h];exact k
theorem Zv{P:Program}{o:Oper}{a:Act}{w:World}{K:Act->World->Prop}{Q:Exit->Act->World->Prop}(s x:Operand)(t:TypeId)(ho:o.op=.call {callee:=.builtin .append,args:=#[s,x],argTypes:=#[t,t]})
  (base:Nat) (e:TypeId) (i:TypeInfo) (size:Nat) (ht:P.underlying t=some (.slice e)) (hi:P.info? e=some i) (hsize:i.size=size) (g n cap:Nat) (xs:List Value) (hs:a.eval s=.slice (some ⟨g,0,none⟩) n cap) (hown:w.ownsRow base e size (.slice (some ⟨g,0,none⟩) n cap) n xs)
  (ad:Addr) (m c:Nat) (news:List Value) (hx:a.eval x=.slice (some ad) m c) (hl:news.length=m*size) (hnews:∀j u,news[j]?=some u->w.cell? (ad.add j)=some u) (h1:∀u∈news,u.oneCell'=true) (hroom:n+m<=cap)
  (k:∀w',w'.ownsRow base e size (.slice (some ⟨g,0,none⟩) (n+m) cap) (n+m) (xs++news)->w.grownBy w' (some g)->K (a.put o.dst (.slice (some ⟨g,0,none⟩) (n+m) cap)) w'):o.wp P a w K Q:=by
 obtain⟨w',hr,h2,h3⟩:=run_append_fits (P:=P) w base t o.type e i size ht hi hsize g n cap xs hown ad m c news hl hnews h1 hroom;unfold Oper.wp execOp;simp only[ho,resolve,invoke,builtin,Sem.run_bind,Sem.run_pure,Result.andThen_ok,List.map_toArray,List.map_cons,List.map_nil,hs,hx,hr];exact k w' h2 h3
structure nC(wB wr:World)(AS AL G:Nat)(s:ByteArray)(vs:List Value)(ls:List (List Nat))(cap:Nat):Prop where
 as_:wr.cell? ⟨AS,0,none⟩=some (.string s)
 all:wr.cell? ⟨AL,0,none⟩=some (.slice (some ⟨G,0,none⟩) ls.length cap)
 row:wr.ownsRow G 138 1 (.slice (some ⟨G,0,none⟩) ls.length cap) ls.length vs
 kat:∀(i:Nat) v l,vs[i]?=some v->ls[i]?=some l->F7 .u8 wB v l
 below:Below wB.heap.size wB wr
 gt:wB.heap.size<=G
 ne1:AS≠G
 ne2:AL≠G
 room:ls.length+1<=cap
theorem nC.lt{wB wr:World}{AS AL G:Nat}{s:ByteArray}{vs:List Value}{ls:List (List Nat)}{cap:Nat}(h:nC wB wr AS AL G s vs ls cap):G<wr.heap.size:=by
 obtain⟨_,h2⟩:=h.row
 rcases h2 with⟨h2,_⟩|⟨g',cap',cur,h3,h4,h5,_⟩
 ·cases h2
 ·cases h3
  exact(J6.1 h5).1
theorem nC.grown{wB wr w':World}{AS AL G:Nat}{s:ByteArray}{vs:List Value}{ls:List (List Nat)}{cap:Nat}(h:nC wB wr AS AL G s vs ls cap)(hg:wr.grownBy w' (some G))(hr:w'.ownsRow G 138 1 (.slice (some ⟨G,0,none⟩) ls.length cap) ls.length vs):nC wB w' AS AL G s vs ls cap:=
 ⟨hg.cell h.as_ (fun e=>h.ne1 (by injection e)),hg.cell h.all (fun e=>h.ne2 (by injection e)),hr,h.kat,h.below.grown hg h.below.size (fun k hk=>by injection hk with hk;have:=h.gt;omega),h.gt,h.ne1,h.ne2,h.room⟩
theorem VD{w w':World}(hb:Below w.heap.size w w')(r:Option Nat):w.grownBy w' r:=⟨hb.os,hb.tape,hb.output,hb.size,fun k hk _=>hb.block k hk⟩
theorem nC.later{wB wr w':World}{AS AL G:Nat}{s:ByteArray}{vs:List Value}{ls:List (List Nat)}{cap:Nat}(h:nC wB wr AS AL G s vs ls cap)(hb:Below wr.heap.size wr w'):nC wB w' AS AL G s vs ls cap:=
 h.grown (VD hb _) (row_block h.row fun g hg=>hb.block g (by have e:G=g:=(by injection hg);rw[<-e];exact h.lt))
theorem KY:(prog.info? 138).map (·.size)=some 1:=by kernel_rfl
theorem cZ{wB wr:World}{AS AL G:Nat}{s:ByteArray}{vs:List Value}{ls:List (List Nat)}{cap x B1:Nat}(h:nC wB wr AS AL G s vs ls cap)(hr:wr.ownsRow G 138 1 (.slice (some ⟨G,0,none⟩) (ls.length+1) cap) (ls.length+1) (vs++[.slice (some ⟨B1,0,none⟩) 1 1]))
  (hx:F7 .u8 wr (.slice (some ⟨B1,0,none⟩) 1 1) [x]):Parts wr G 0 (vs++[.slice (some ⟨B1,0,none⟩) 1 1]) (ls++[[x]]):=by
 have hl:vs.length=ls.length:=by have:=h.row.1;simpa using this
 refine⟨by simp[hl],fun i hi=>?_⟩;simp only[List.length_append,List.length_singleton] at hi
 rcases Nat.lt_or_ge i ls.length with h1|h1
 ·obtain⟨v,hv⟩:∃v,vs[i]?=some v:=⟨_,Jd (by omega)⟩;obtain⟨l,fJ⟩:∃l,ls[i]?=some l:=⟨_,List.getElem?_eq_getElem h1⟩;have h2:(vs++[Value.slice (some ⟨B1,0,none⟩) 1 1])[i]?=some v:=by rw[List.getElem?_append_left (by omega)];exact hv
  refine⟨v,l,h2,by rw[List.getElem?_append_left h1];exact fJ,by rw[Nat.zero_add];exact vP hr h2,(h.kat i v l hv fJ).later h.below⟩
 ·obtain rfl:i=ls.length:=by omega
  have h2:(vs++[Value.slice (some ⟨B1,0,none⟩) 1 1])[ls.length]?=some (.slice (some ⟨B1,0,none⟩) 1 1):=by rw[<-hl];simp
  exact⟨_,_,h2,by simp,by rw[Nat.zero_add];exact vP hr h2,hx⟩
theorem OE{w w':World}{base g:Nat}{e:TypeId}{n cap:Nat}{xs:List Value}(h:w.ownsRow base e 1 (.slice (some ⟨g,0,none⟩) n cap) n xs)(hb:Below w.heap.size w w'):w'.ownsRow base e 1 (.slice (some ⟨g,0,none⟩) n cap) n xs:=by
 obtain⟨h1,h2⟩:=h;refine⟨h1,?_⟩
 rcases h2 with h2|⟨g',cap',cur,h3,h4,h5,h6⟩
 ·exact .inl h2
 ·exact .inr ⟨g',cap',cur,h3,h4,(hb.block g' (J6.1 h5).1).trans h5,h6⟩
theorem kat_lt{w:World}{B n c:Nat}{x:Nat}{l:List Nat}(h:F7 .u8 w (.slice (some ⟨B,0,none⟩) n c) (x::l)):B<w.heap.size:=by
 obtain⟨ao,cap,e,_,_,_,h4⟩:=h;obtain⟨b,o,e2,h5⟩:=h4 (by simp);injection e with e _ _
 rw[<-e] at e2;have e3:B=b:=by injection e2 with e2;injection e2
 rw[e3];exact World.block_lt_of_cell? (a:=⟨b,o+0,none⟩) _ (h5 0 x rfl)
theorem qI{w w':World}{b j:Nat}(h:w'.heap[b]?=w.heap[b]?):w'.frozen? ⟨b,j,none⟩=w.frozen? ⟨b,j,none⟩:=by simp[World.frozen?,h]
theorem WE{w:World}{a b:Nat}(h:a<w.heap.size)(h2:w.heap.size<=b):a≠b:=by omega
theorem ZL{w:World}{g:Nat}{l:List Nat}{t:TypeId}(h:w.heap[g]?=some (.cells (jo .u8 l).toArray t (0,0))) (hl:l.length=32):F7 .u8 w (.slice (some ⟨g,0,none⟩) 32 32) l:=by
 refine⟨some ⟨g,0,none⟩,32,by rw[hl],by rw[hl];decide,by unfold maxLen;decide,(fun h=>nomatch h),fun _=>⟨g,0,rfl,fun i x hx=>?_⟩⟩;rw[Nat.zero_add,cell_of_row _ _ _ _ _ _ h]
 simp[qC,hx]
theorem dZ{a w w':World}{G H:Nat}(h:a.grownBy w (some G))(h':w.grownBy w' (some H))(hH:a.heap.size<=H):a.grownBy w' (some G):=
 ⟨h'.os.trans h.os,h'.tape.trans h.tape,h'.output.trans h.output,Nat.le_trans h.size h'.size,fun k hk hne=>(h'.block k (jv hk h.size) (fun e=>by injection e with e;omega)).trans (h.block k hk hne)⟩
theorem YP{wB wr w':World}{AS AL G:Nat}{s:ByteArray}{vs:List Value}{ls:List (List Nat)}{cap H:Nat}(h:nC wB wr AS AL G s vs ls cap)(hg:wr.grownBy w' (some H))(h1:G<H)(h2:AS≠H)(h3:AL≠H)(h4:wB.heap.size<=H):nC wB w' AS AL G s vs ls cap:=
 ⟨hg.cell h.as_ (fun e=>h2 (by injection e)),hg.cell h.all (fun e=>h3 (by injection e)),row_block h.row (fun g hgg=>hg.block g (by have e:G=g:=(by injection hgg);rw[<-e];exact h.lt) (fun e=>by have e2:G=g:=(by injection hgg);have e3:g=H:=(by injection e);omega)),h.kat,h.below.grown hg h.below.size (fun k hk=>by injection hk with hk;omega),h.gt,h.ne1,h.ne2,h.room⟩
theorem bW{wB:World}{AS AL G:Nat}{s:ByteArray}{vs:List Value}{ls:List (List Nat)}{cap x:Nat}(w:World)(h:nC wB w AS AL G s vs ls cap)(hx:x<256)(hby:∀l∈ls,qk l)(hsz:(qA (zx s) (ls++[[x]])).length<=1073741824):
  Calls prog 225 #[.int .u8 x,.pointer (some ⟨AS,0,none⟩),.pointer (some ⟨AL,0,none⟩)] w fun e w'=>e=.returned (ji (num (zr (qA (zx s) (ls++[[x]])))))/\nC wB w' AS AL G s vs ls cap/\w.grownBy w' (some G):=by
 have HW:=jh h;have HX9:=jh hx;have HGL:=jh h.lt;have HAS:=jh (show AS<w.heap.size from World.block_lt_of_cell? (a:=⟨AS,0,none⟩) _ h.as_);have HAL:=jh (show AL<w.heap.size from World.block_lt_of_cell? (a:=⟨AL,0,none⟩) _ h.all);have HWB:=jh h.below.size;have hr0:=h.room
 have hcm:cap<=maxLen:=by
  obtain⟨_,h2⟩:=h.row
  rcases h2 with⟨h2,_⟩|⟨g',cap',cur,h3,h4,h5,h6,h7,_⟩
  ·cases h2
  ·cases h3
   exact h7
 obtain⟨i0,hi⟩:∃i0,prog.info? 138=some i0:=by
  cases hq:prog.info? 138 with
  |none=>have:=KY;rw[hq] at this;cases this
  |some i=>exact⟨i,rfl⟩
 have hi1:i0.size=1:=by have:=KY;rw[hi] at this;simpa using this
 have HI:=jh hi;have hmm:=hcm;unfold maxLen at hmm;have HCM:=jh hcm
 have HBY:=jh (show∀l∈ls++[[x]],qk l from fun l hl=>by
  rcases List.mem_append.1 hl with hl|hl
  ·exact hby l hl
  ·simp only[List.mem_singleton] at hl;subst hl;intro y hy;simp only[List.mem_singleton] at hy
   omega)
 have I7:=jh hsz
 have HP:=jh (fun(W:World) (B1:Nat) (hw:nC wB W AS AL G s vs ls cap) (hr:W.ownsRow G 138 1 (.slice (some ⟨G,0,none⟩) (ls.length+1) cap) (ls.length+1) (vs++[.slice (some ⟨B1,0,none⟩) 1 1])) (hk:F7 .u8 W (.slice (some ⟨B1,0,none⟩) 1 1) [x])=>by
  have h9:=Of_any (s:=s) W (cZ hw hr hk) (by simpa using hr0) hcm HBY.out I7.out;rw[List.length_append,List.length_singleton] at h9
  exact h9)
 obtain⟨T,hT⟩:=je (zr (qA (zx s) (ls++[[x]])));have HTL:=jh (show T.length=32 by rw[hT];exact jY _);have HTB:=jh (show qk T by rw[hT];exact JS _);have HNV:=jh (numV_of HTB.out HTL.out);rw[<-hT] at HP⊢;have hszH:(prog.info? 67).map (·.size)=some (jo .u8 T).toArray.size:=by rw[qR];simp[js,HTL.out]
 clear hT h hx hby hsz hi hcm;obtain⟨n,hn⟩:=je (ls.length);obtain⟨X,hX⟩:=je (num T);rw[<-hX] at HNV⊢;clear hX
 go_enter func225,ntmps225
 go_upto_region 1 with fail
 obtain⟨w1,e1⟩:=je (w.alloc (.cells jA 24));obtain⟨OO,KJ⟩:=je (w.heap.size);have hb:=jc e1;have HO:=jh (show U0 w1 OO 0 by rw[e1,KJ];exact qV w _);have Y6:=jh (show Y0 w1 OO 4 by rw[e1,KJ];exact Y0.new _ _ _ _);rw[<-e1,<-KJ];have HW:=jh (HW.out.later (hb.drew));have HG:=jh (show w.grownBy w1.drew (some G) from VD hb.drew _);have HO:=jh (show U0 w1.drew OO 0 from HO.out);have Y6:=jh (show Y0 w1.drew OO 4 from Y6.out);have HOL:=jh (show OO<w1.drew.heap.size by rw[KJ];show w.heap.size<w1.heap.size;rw[e1];simp);have HOG:=jh (show G<OO by rw[KJ];exact HGL.out);have oC:=jh KJ;clear e1 hb hn hr0 KJ;refine jJ (.take 0 (.take 1 (.take 2 (.fork 3 (.fork 4 (.fork 5 (.fork 6 (.step 7 (.step 8 .done)) 7 (.step 6 (.step 8 .done))) 7 (.step 5 (.step 6 (.step 8 .done)))) 7 (.step 4 (.step 5 (.step 6 (.step 8 .done))))) 7 (.step 3 (.step 4 (.step 5 (.step 6 (.step 8 .done))))))))) (fun w8=>w8.cell? ⟨AS,0,none⟩=some (.string s)/\w8.cell? ⟨AL,0,none⟩=some (.slice (some ⟨G,0,none⟩) ls.length cap)) (by kernel_rfl) (by kernel_rfl) (fun _ _ _ _ _ h=>h) (⟨HW.out.as_,HW.out.all⟩) (fun hHeld=>?_);obtain⟨w0,e0⟩:=je (w1.drew);rw[<-e0] at HW HG HO Y6 HOL⊢;clear e0
 iterate 3
  refine jz ?_
 focus
  refine WT.fork rfl rfl (fun K hK=>?_) (fun K hK=>?_)
 rotate_left
 focus
  refine Qm (by rfl) ?_;refine Zu (v:=.pointer (some ⟨w0.heap.size,0,none⟩)) (w':=w0.alloc (.cells (Array.replicate 32 (.int .u8 0)) 67)) (by kernel_rfl) ?_;obtain⟨w2,e9⟩:=je (w0.alloc (.cells (Array.replicate 32 (.int .u8 0)) 67));obtain⟨YC,aF⟩:=je (w0.heap.size);have hb:=jc e9;have HH:=jh (show w2.heap[YC]?=some (.cells (Array.replicate 32 (.int .u8 0)) 67 (0,0)) by rw[e9,aF];exact jQ);have HHG:=jh (show G<YC by rw[aF];exact HW.out.lt);have HHO:=jh (show OO<YC by rw[aF];exact HOL.out);have HHw:=jh (show w.heap.size<=YC by rw[aF];exact HG.out.size);rw[<-e9,<-aF]
  try simp only[Act.put,pa,pb,pc]
  clear e9 aF;have HW:=jh (HW.out.later hb);have HG:=jh (qG HG.out hb);have HO:=jn hb HO;have Y6:=jh (Y6.out.later hb HOL.out);have HOL:=jl HOL hb.size;clear hb;refine qD hK (⟨HW.out.as_,HW.out.all⟩) (fun hHeld=>?_);clear hK K
 rotate_right
 focus
  go_simp
  obtain⟨w2,e9⟩:=je (w0.alloc (.cells #[.int .u8 x] 5));obtain⟨B1,hB1⟩:=je (w0.heap.size);have hb:=jc e9;have HX:=jh (show F7 .u8 w2 (.slice (some ⟨B1,0,none⟩) 1 1) [x] by rw[e9,hB1];exact F7.made w0 [x] (by unfold maxLen;simp) _ rfl _);have HB1:=jh (show G<B1 by rw[hB1];exact HW.out.lt);rw[<-e9,<-hB1];clear e9 hB1;have HW:=jh (HW.out.later hb);have HG:=jh (qG HG.out hb);have HO:=jn hb HO;have Y6:=jh (Y6.out.later hb HOL.out);have HOL:=jl HOL hb.size;clear hb;refine qD hK (⟨HW.out.as_,HW.out.all⟩) (fun hHeld=>?_);clear hK K
 focus
  refine WT.fork rfl rfl (fun K hK=>?_) (fun K hK=>?_)
 rotate_left
 focus
  refine Qm (by rfl) ?_;refine Zu (v:=.pointer (some ⟨w2.heap.size,0,none⟩)) (w':=w2.alloc (.cells (Array.replicate 32 (.int .u8 0)) 67)) (by kernel_rfl) ?_;obtain⟨w3,e9⟩:=je (w2.alloc (.cells (Array.replicate 32 (.int .u8 0)) 67));obtain⟨YC,aF⟩:=je (w2.heap.size);have hb:=jc e9;have HH:=jh (show w3.heap[YC]?=some (.cells (Array.replicate 32 (.int .u8 0)) 67 (0,0)) by rw[e9,aF];exact jQ);have HHG:=jh (show G<YC by rw[aF];exact HW.out.lt);have HHO:=jh (show OO<YC by rw[aF];exact HOL.out);have HHw:=jh (show w.heap.size<=YC by rw[aF];exact HG.out.size);rw[<-e9,<-aF]
  try simp only[Act.put,pa,pb,pc]
  clear e9 aF;have HW:=jh (HW.out.later hb);have HG:=jh (qG HG.out hb);have HO:=jn hb HO;have Y6:=jh (Y6.out.later hb HOL.out);have HOL:=jl HOL hb.size;have HX:=jh (HX.out.later hb);clear hb;refine qD hK (⟨HW.out.as_,HW.out.all⟩) (fun hHeld=>?_);clear hK K
 rotate_right
 focus
  go_simp
  obtain⟨w3,e9⟩:=je (w2.alloc (.cells #[.slice (some ⟨B1,0,none⟩) 1 1] 138));obtain⟨C1,hC1⟩:=je (w2.heap.size);have hb:=jc e9;have HC:=jh (show w3.cell? ⟨C1,0,none⟩=some (.slice (some ⟨B1,0,none⟩) 1 1) by rw[e9,hC1,cell_of_row _ _ _ _ _ _ jQ];rfl);have HC1:=jh (show G<C1 by rw[hC1];exact HW.out.lt);rw[<-e9,<-hC1];clear e9 hC1;have HW:=jh (HW.out.later hb);have HG:=jh (qG HG.out hb);have HO:=jn hb HO;have Y6:=jh (Y6.out.later hb HOL.out);have HOL:=jl HOL hb.size;have HX:=jh (HX.out.later hb);clear hb;refine qD hK (⟨HW.out.as_,HW.out.all⟩) (fun hHeld=>?_);clear hK K
 focus
  refine WT.fork rfl rfl (fun K hK=>?_) (fun K hK=>?_)
 rotate_left
 focus
  refine Qm (by rfl) ?_;refine Zu (v:=.pointer (some ⟨w3.heap.size,0,none⟩)) (w':=w3.alloc (.cells (Array.replicate 32 (.int .u8 0)) 67)) (by kernel_rfl) ?_;obtain⟨w4,e9⟩:=je (w3.alloc (.cells (Array.replicate 32 (.int .u8 0)) 67));obtain⟨YC,aF⟩:=je (w3.heap.size);have hb:=jc e9;have HH:=jh (show w4.heap[YC]?=some (.cells (Array.replicate 32 (.int .u8 0)) 67 (0,0)) by rw[e9,aF];exact jQ);have HHG:=jh (show G<YC by rw[aF];exact HW.out.lt);have HHO:=jh (show OO<YC by rw[aF];exact HOL.out);have HHw:=jh (show w.heap.size<=YC by rw[aF];exact HG.out.size);rw[<-e9,<-aF]
  try simp only[Act.put,pa,pb,pc]
  clear e9 aF;have HW:=jh (HW.out.later hb);have HG:=jh (qG HG.out hb);have HO:=jn hb HO;have Y6:=jh (Y6.out.later hb HOL.out);have HOL:=jl HOL hb.size;have HX:=jh (HX.out.later hb);have HC:=jh (jj HC.out hb);clear hb;refine qD hK (⟨HW.out.as_,HW.out.all⟩) (fun hHeld=>?_);clear hK K
 rotate_right
 focus
  refine Qm (by rfl) ?_;refine Zv _ _ 223 rfl G 138 i0 1 underlying223 HI.out hi1 G ls.length cap vs rfl HW.out.row ⟨C1,0,none⟩ 1 1 [.slice (some ⟨B1,0,none⟩) 1 1] rfl rfl (fun j u hj=>?_) (fun u hu=>?_) HW.out.room (fun w4 hrow hgr=>?_)
  ·have hj0:j=0:=by have:=(List.getElem?_eq_some_iff.1 hj).1;simp at this;omega
   subst hj0;simp only[List.getElem?_cons_zero,Option.some.injEq] at hj;subst hj;rw[Addr.add_mid];exact HC.out
  ·simp only[List.mem_singleton] at hu;subst hu
   rfl
  have HR:=jh hrow
  have HX:=jh (HX.out.block fun g9 S9=>hgr.block g9 (by have e9:B1=g9:=by injection S9
                                                        rw[<-e9];exact kat_lt HX.out) (fun e8=>by have e9:B1=g9:=by injection S9
                                                                                                  have e7:g9=G:=by injection e8
                                                                                                  have:=HB1.out;omega))
  have HO:=jh (show U0 w4 OO 0 from fun j hj=>(hgr.cell (HO.out j hj) (fun e=>by have e7:OO=G:=by injection e
                                                                                 have:=HOG.out;omega)))
  have Y6:=jh (show Y0 w4 OO 4 from fun j hj=>(qI (hgr.block OO HOL.out (fun e=>by have e7:OO=G:=by injection e
                                                                                   have:=HOG.out;omega))).trans (Y6.out j hj))
  have HOL:=jl HOL hgr.size;have HW:=jh (HW.out.grown hgr (PU hrow));have HG:=jh (JV HG.out hgr)
  try simp only[Act.put,pa,pb,pc]
  clear hrow hgr;refine qD hK (⟨HW.out.as_,HW.out.all⟩) (fun hHeld=>?_);clear hK K
 focus
  refine WT.fork rfl rfl (fun K hK=>?_) (fun K hK=>?_)
 rotate_left
 focus
  refine Qm (by rfl) ?_;refine Zu (v:=.pointer (some ⟨w4.heap.size,0,none⟩)) (w':=w4.alloc (.cells (Array.replicate 32 (.int .u8 0)) 67)) (by kernel_rfl) ?_;obtain⟨w5,e9⟩:=je (w4.alloc (.cells (Array.replicate 32 (.int .u8 0)) 67));obtain⟨YC,aF⟩:=je (w4.heap.size);have hb:=jc e9;have HH:=jh (show w5.heap[YC]?=some (.cells (Array.replicate 32 (.int .u8 0)) 67 (0,0)) by rw[e9,aF];exact jQ);have HHG:=jh (show G<YC by rw[aF];exact HW.out.lt);have HHO:=jh (show OO<YC by rw[aF];exact HOL.out);have HHw:=jh (show w.heap.size<=YC by rw[aF];exact HG.out.size);rw[<-e9,<-aF]
  try simp only[Act.put,pa,pb,pc]
  clear e9 aF;have HW:=jh (HW.out.later hb);have HG:=jh (qG HG.out hb);have HO:=jn hb HO;have Y6:=jh (Y6.out.later hb HOL.out);have HOL:=jl HOL hb.size;have HX:=jh (HX.out.later hb);have HR:=jh (OE HR.out hb);clear hb;refine qD hK (⟨HW.out.as_,HW.out.all⟩) (fun hHeld=>?_);clear hK K
 rotate_right
 focus
  go_simp
  refine(HP.out _ B1 HW.out HR.out HX.out).mono ?_;rintro _ w5 ⟨rfl,hb⟩;have HW:=jh (HW.out.later hb);have HG:=jh (qG HG.out hb);have HO:=jn hb HO;have Y6:=jh (Y6.out.later hb HOL.out);have HOL:=jl HOL hb.size;have HX:=jh (HX.out.later hb);have HR:=jh (OE HR.out hb);clear hb;refine qD hK (⟨HW.out.as_,HW.out.all⟩) (fun hHeld=>?_);clear hK K
 focus
  refine WT.step rfl (fun K hK=>?_);refine Qm (by rfl) ?_;refine Zu (v:=.pointer (some ⟨w5.heap.size,0,none⟩)) (w':=w5.alloc (.cells (Array.replicate 32 (.int .u8 0)) 67)) (by kernel_rfl) ?_;obtain⟨w6,e9⟩:=je (w5.alloc (.cells (Array.replicate 32 (.int .u8 0)) 67));obtain⟨YC,aF⟩:=je (w5.heap.size);have hb:=jc e9;have HH:=jh (show w6.heap[YC]?=some (.cells (Array.replicate 32 (.int .u8 0)) 67 (0,0)) by rw[e9,aF];exact jQ);have HHG:=jh (show G<YC by rw[aF];exact HW.out.lt);have HHO:=jh (show OO<YC by rw[aF];exact HOL.out);have HHw:=jh (show w.heap.size<=YC by rw[aF];exact HG.out.size);rw[<-e9,<-aF]
  try simp only[Act.put,pa,pb,pc]
  clear e9 aF;have HW:=jh (HW.out.later hb);have HG:=jh (qG HG.out hb);have HO:=jn hb HO;have Y6:=jh (Y6.out.later hb HOL.out);have HOL:=jl HOL hb.size;have HX:=jh (HX.out.later hb);have HR:=jh (OE HR.out hb);clear hb;refine qD hK (⟨HW.out.as_,HW.out.all⟩) (fun hHeld=>?_);clear hK K
 rotate_right
 focus
  refine WT.step rfl (fun K hK=>?_)
  go_simp
  obtain⟨w3,e9⟩:=je (w2.alloc (.cells #[.int .u8 x] 5));obtain⟨B1,hB1⟩:=je (w2.heap.size);have hb:=jc e9;have HX:=jh (show F7 .u8 w3 (.slice (some ⟨B1,0,none⟩) 1 1) [x] by rw[e9,hB1];exact F7.made w2 [x] (by unfold maxLen;simp) _ rfl _);have HB1:=jh (show G<B1 by rw[hB1];exact HW.out.lt);rw[<-e9,<-hB1];clear e9 hB1;have HW:=jh (HW.out.later hb);have HG:=jh (qG HG.out hb);have HO:=jn hb HO;have Y6:=jh (Y6.out.later hb HOL.out);have HOL:=jl HOL hb.size;have HH:=jh ((hb.block YC (J6.1 HH.out).1).trans HH.out);clear hb;refine qD hK (⟨HW.out.as_,HW.out.all⟩) (fun hHeld=>?_);clear hK K
 rotate_left
 rotate_right 2
 iterate 2
  focus
   refine WT.step rfl (fun K hK=>?_)
   go_simp
   obtain⟨w4,e9⟩:=je (w3.alloc (.cells #[.slice (some ⟨B1,0,none⟩) 1 1] 138));obtain⟨C1,hC1⟩:=je (w3.heap.size);have hb:=jc e9;have HC:=jh (show w4.cell? ⟨C1,0,none⟩=some (.slice (some ⟨B1,0,none⟩) 1 1) by rw[e9,hC1,cell_of_row _ _ _ _ _ _ jQ];rfl);have HC1:=jh (show G<C1 by rw[hC1];exact HW.out.lt);rw[<-e9,<-hC1];clear e9 hC1;have HW:=jh (HW.out.later hb);have HG:=jh (qG HG.out hb);have HO:=jn hb HO;have Y6:=jh (Y6.out.later hb HOL.out);have HOL:=jl HOL hb.size;have HX:=jh (HX.out.later hb);have HH:=jh ((hb.block YC (J6.1 HH.out).1).trans HH.out);clear hb;refine qD hK (⟨HW.out.as_,HW.out.all⟩) (fun hHeld=>?_);clear hK K
  rotate_left
 rotate_right 3
 iterate 3
  focus
   refine WT.step rfl (fun K hK=>?_);refine Qm (by rfl) ?_;refine Zv _ _ 223 rfl G 138 i0 1 underlying223 HI.out hi1 G ls.length cap vs rfl HW.out.row ⟨C1,0,none⟩ 1 1 [.slice (some ⟨B1,0,none⟩) 1 1] rfl rfl (fun j u hj=>?_) (fun u hu=>?_) HW.out.room (fun w5 hrow hgr=>?_)
   ·have hj0:j=0:=by have:=(List.getElem?_eq_some_iff.1 hj).1;simp at this;omega
    subst hj0;simp only[List.getElem?_cons_zero,Option.some.injEq] at hj;subst hj;rw[Addr.add_mid];exact HC.out
   ·simp only[List.mem_singleton] at hu;subst hu
    rfl
   have HR:=jh hrow
   have HX:=jh (HX.out.block fun g9 S9=>hgr.block g9 (by have e9:B1=g9:=by injection S9
                                                         rw[<-e9];exact kat_lt HX.out) (fun e8=>by have e9:B1=g9:=by injection S9
                                                                                                   have e7:g9=G:=by injection e8
                                                                                                   have:=HB1.out;omega))
   have HO:=jh (show U0 w5 OO 0 from fun j hj=>(hgr.cell (HO.out j hj) (fun e=>by have e7:OO=G:=by injection e
                                                                                  have:=HOG.out;omega)))
   have Y6:=jh (show Y0 w5 OO 4 from fun j hj=>(qI (hgr.block OO HOL.out (fun e=>by have e7:OO=G:=by injection e
                                                                                    have:=HOG.out;omega))).trans (Y6.out j hj))
   have HOL:=jl HOL hgr.size
   have HH:=jh ((hgr.block YC (J6.1 HH.out).1 (fun e=>by have e7:YC=G:=by injection e
                                                         have:=HHG.out;omega)).trans HH.out)
   have HW:=jh (HW.out.grown hgr (PU hrow));have HG:=jh (JV HG.out hgr)
   try simp only[Act.put,pa,pb,pc]
   clear hrow hgr;refine qD hK (⟨HW.out.as_,HW.out.all⟩) (fun hHeld=>?_);clear hK K
  rotate_left
 rotate_right 4
 iterate 4
  focus
   refine WT.step rfl (fun K hK=>?_)
   go_simp
   refine(HP.out _ B1 HW.out HR.out HX.out).mono ?_;rintro _ w6 ⟨rfl,hb⟩;have HW:=jh (HW.out.later hb);have HG:=jh (qG HG.out hb);have HO:=jn hb HO;have Y6:=jh (Y6.out.later hb HOL.out);have HOL:=jl HOL hb.size;have HX:=jh (HX.out.later hb);have HR:=jh (OE HR.out hb);have HH:=jh ((hb.block YC (J6.1 HH.out).1).trans HH.out);clear hb;refine qD hK (⟨HW.out.as_,HW.out.all⟩) (fun hHeld=>?_);clear hK K
  rotate_left
 all_goals(
  refine WT.step rfl (fun K hK=>?_);refine Qm (by rfl) ?_;refine yL _ _ _ rfl YC _ _ _ HH.out rfl rfl hszH (by simp[js,HTL.out]) (Jc _ _) ?_;obtain⟨w7,e9⟩:=je (w6.setRow YC (jo .u8 T).toArray);have HH:=jh (show w7.heap[YC]?=some (.cells (jo .u8 T).toArray 67 (0,0)) by rw[e9];exact setRow_heap _ _ _ _ _ _ HH.out);have hgr:∀k,k≠YC->w7.heap[k]?=w6.heap[k]?:=fun k hk=>by rw[e9];exact setRow_other _ YC k _ hk
  have hgs:w6.grownBy w7 (some YC):=by rw[e9];exact⟨rfl,rfl,rfl,by simp[World.setRow],fun k _ hk=>setRow_other _ YC k _ (fun e=>hk (by rw[e]))⟩
  have HW:=jh (YP HW.out hgs HHG.out (WE HAS.out HHw.out) (WE HAL.out HHw.out) (Nat.le_trans HWB.out HHw.out));have HG:=jh (show w.grownBy w7 (some G) from⟨hgs.os.trans HG.out.os,hgs.tape.trans HG.out.tape,hgs.output.trans HG.out.output,Nat.le_trans HG.out.size hgs.size,fun k hk hne=>(hgr k (by have:=HHw.out;omega)).trans (HG.out.block k hk hne)⟩)
  have HO:=jh (show U0 w7 OO 0 from fun j hj=>hgs.cell (HO.out j hj) (fun e=>by have e7:OO=YC:=by injection e
                                                                                have:=HHO.out;omega))
  have Y6:=jh (show Y0 w7 OO 4 from fun j hj=>(qI (hgr OO (by have:=HHO.out;omega))).trans (Y6.out j hj));have HOL:=jl HOL hgs.size;rw[<-e9]
  try simp only[Act.put,pa,pb,pc]
  clear e9 hgr hgs;refine qD hK (⟨HW.out.as_,HW.out.all⟩) (fun hHeld=>?_);clear hK K;refine WT.done ?_;clear hHeld HX HR HB1
  go_wp2_with fail
  refine(rX _ (ZL HH.out HTL.out) HTB.out (by rw[HTL.out];decide)).mono ?_;rintro _ w8 ⟨rfl,hb⟩;rw[HNV.out];have HW:=jh (HW.out.later hb);have HG:=jh (qG HG.out hb);have HO:=jn hb HO;have Y6:=jh (Y6.out.later hb HOL.out);have HOL:=jl HOL hb.size;have HH:=jh ((hb.block YC (J6.1 HH.out).1).trans HH.out);clear hb;unfold ji words;dsimp only
  go_upto_region 3 with fail
  obtain⟨w9,e9⟩:=je (w8.alloc (.cells (jD X) 24));obtain⟨VV,Y8⟩:=je (w8.heap.size);have hb:=jc e9;have HV:=jh (show U0 w9 VV X by rw[e9,Y8];exact U0.new _ _ _ _ rfl);rw[<-e9,<-Y8];clear e9 Y8;have HW:=jh (HW.out.later hb);have HG:=jh (qG HG.out hb);have HO:=jn hb HO;have Y6:=jh (Y6.out.later hb HOL.out);have HOL:=jl HOL hb.size;have HH:=jh ((hb.block YC (J6.1 HH.out).1).trans HH.out);clear hb;obtain⟨r0,r1,r2,r3⟩:=jF HV.out;obtain⟨c0,c1,c2,c3,f0,f1,f2,f3⟩:=jU HO.out Y6.out
  go_wp2_with fail
  have HGS:=jh (jT (jT (jT (jT (World.grownBy.refl w9 (some OO)) 0 (.int .u64 (jg jf X 0))) 1 (.int .u64 (jg jf X 1))) 2 (.int .u64 (jg jf X 2))) 3 (.int .u64 (jg jf X 3)));have HW:=jh (YP HW.out HGS.out HOG.out (WE HAS.out (Nat.le_of_eq oC.out.symm)) (WE HAL.out (Nat.le_of_eq oC.out.symm)) (Nat.le_trans HWB.out (Nat.le_of_eq oC.out.symm)));have HG:=jh (dZ HG.out HGS.out (Nat.le_of_eq oC.out.symm));obtain⟨g0,g1,g2,g3⟩:=jF (U0.set4 HO.out X);refine bodyPost_ret (v:=.agg #[.int .u64 (jg jf X 0),.int .u64 (jg jf X 1),.int .u64 (jg jf X 2),.int .u64 (jg jf X 3)]) ?_ rfl ⟨rfl,HW.out,HG.out⟩
  simp[results,results225,go_sem,g0,g1,g2,g3])
theorem infoS9:(prog.info? 138).map (fun i=>(i.zero,i.size,i.bytes))=some (some (.slice none 0 0),1,24):=by kernel_rfl
def wM(s:List Nat)(ls:List (List Nat))(x:Nat):Nat:=num (zr (qA s (ls++[[x]])))
def QA(m:Nat)(s:List Nat)(ls:List (List Nat)):Nat:=(wM s ls 0*jk+wM s ls 1)%m
theorem tH(s:List Nat)(ls:List (List Nat))(x:Nat):wM s ls x<jk:=num_lt256 (JS _) (jY _)
theorem cellS_one:∀{vs:List Value},(∀v∈vs,∃a n c,v=.slice a n c)->∀v∈vs,v.oneCell'=true:=fun h v hv=>by
 obtain⟨a,n,c,rfl⟩:=h v hv
 rfl
theorem copy_all{w:World}{ops:Array Oper}{rest:List Oper}{o:Oper}{a:Act}{Q:Exit->Act->World->Prop}(hgd:o.guard=none)(d s:Operand)(ho:o.op=.call {callee:=.builtin .copy,args:=#[d,s],argTypes:=#[223,223]})
  {G n n1 g ob cap:Nat} {vs:List Value} (hd:a.eval d=.slice (some ⟨G,0,none⟩) n n1) (hs:a.eval s=.slice (some ⟨g,ob,none⟩) n cap) (hl:vs.length=n) (hn1:n1=n+1) (hG:w.heap[G]?=some (.cells (List.replicate n1 (Value.slice none 0 0)).toArray 138 (0,0)))
  (hcell:∀(j:Nat) v,vs[j]?=some v->w.cell? ⟨g,ob+j,none⟩=some v) (hsl:∀v∈vs,∃a n c,v=.slice a n c)
  (h:∀w',w'.heap[G]?=some (.cells (vs++[Value.slice none 0 0]).toArray 138 (0,0))->w.grownBy w' (some G)->wpList prog ops Q rest (a.put o.dst (.int .i64 n)) w'):wpList prog ops Q (o::rest) a w:=by
 subst hn1;refine wpList_copy_own hgd d s _ _ ho 138 underlying223 KY G 0 n (n+1) ⟨g,ob,none⟩ n cap hd hs _ _ hG vs (by rw[hl];exact(Nat.min_self n).symm) (fun j v hj=>by rw[Addr.add_mid];exact hcell j v hj) (by simp[hl]) (cellS_one hsl) ?_
 have e:((List.replicate (n+1) (Value.slice none 0 0)).toArray.toList.take 0++(vs++(List.replicate (n+1) (Value.slice none 0 0)).toArray.toList.drop (0+vs.length))).toArray=(vs++[Value.slice none 0 0]).toArray:=by
  rw[hl]
  simp
 rw[e,hl];exact h _ (setRow_heap w G _ _ _ _ hG) ⟨rfl,rfl,rfl,by simp[World.setRow],fun k _ hk=>setRow_other w G k _ (fun e=>hk (by rw[e]))⟩
theorem MZ{s:ByteArray}{g o cap m:Nat}{vs:List Value}{ls:List (List Nat)}(w:World)(hP:Parts w g o vs ls)(hn0:ls.length<=1000)(hcap:ls.length<=cap)(hcm:cap<=maxLen)(hby:∀l∈ls,qk l)(hm0:0<m)(hm:m<jk)
  (hsz:(qA (zx s) (ls++[[0]])).length<=1073741824):
  Calls prog 187 #[ji m,.string s,.slice (some ⟨g,o,none⟩) ls.length cap] w fun e w'=>e=.returned (.tuple #[ji (QA m (zx s) ls),.int .i64 0])/\Below w.heap.size w w':=by
 have hl:vs.length=ls.length:=hP.1;have HL:=jh hl
 have hsl:∀v∈vs,∃a n c,v=.slice a n c:=fun v hv=>by
  obtain⟨i,hi,e⟩:=List.getElem_of_mem hv;obtain⟨v',l',h1,h2,h3,h4⟩:=hP.2 i (by omega);obtain⟨ao,cp,e2,_⟩:=h4;rw[List.getElem?_eq_getElem hi,e] at h1
  cases h1
  exact⟨_,_,_,e2⟩
 have HSL:=jh hsl;have HP:=jh hP;have HBY:=jh hby;have I7:=jh hsz
 have HCELL:=jh (show∀(j:Nat) v,vs[j]?=some v->w.cell? ⟨g,o+j,none⟩=some v from fun j v hj=>by
  obtain⟨v',l',h1,h2,h3,h4⟩:=hP.2 j (by have:=(List.getElem?_eq_some_iff.1 hj).1;omega);rw[h1] at hj
  cases hj
  exact h3)
 obtain⟨n,hn⟩:=je (ls.length);obtain⟨n1,hn1⟩:=je (n+1);have HN:=jh hn;have SA:=jh hn1;have hnI:(n:Int)+1=(n1:Int):=by omega
 have hnb:n<=1000:=by omega
 have hcm2:=hcm;unfold maxLen at hcm2
 have hmk:∀W,(Instr.makeSlice 223 (.int .i64 n) (.int .i64 n1)).run prog W=.ok (.slice (some ⟨W.heap.size,0,none⟩) n n1) (W.alloc (.cells (List.replicate n1 (Value.slice none 0 0)).toArray 138)):=by
  intro W;obtain⟨i0,hi,hz0,hz1,hz2⟩:=info_parts infoS9;have e:=run_make (P:=prog) W 223 138 i0 (.slice none 0 0) underlying223 hi hz0 .i64 .i64 n n1 (by omega) (by omega) (by rw[hz2];omega) (by omega);rw[e,hz1]
  exact congrArg (fun c=>Result.ok _ (W.alloc (.cells c _))) (by
   apply Array.ext'
   simp[madeCells,Value.cells,Nat.mod_one,List.map_const'])
 obtain⟨x0,hx0⟩:=je (wM (zx s) ls 0);obtain⟨x1,hx1⟩:=je (wM (zx s) ls 1);obtain⟨q,hq⟩:=je (QA m (zx s) ls)
 have CW:=jh (fun W=>by
  have h:=PW (lo:=x1) (hi:=x0) (by rw[hx1];exact tH _ _ _) (by rw[hx0];exact tH _ _ _) hm hm0 W;rw[show(x0*jk+x1)%m=q by rw[hq,hx0,hx1];rfl] at h;unfold ji words at h
  exact h)
 have HX0:=jh hx0;have PZ:=jh hx1
 have fA:=jh (show(qA (zx s) (ls++[[1]])).length<=1073741824 from by
  have h9:=hsz;unfold qA at h9⊢;simp only[List.length_append,List.flatMap_append,List.flatMap_cons,List.flatMap_nil,zE,List.length_singleton,List.append_nil,zD] at h9⊢
  exact h9)
 rw[<-hq,<-hn];unfold ji words;clear hP hl hsl hby hsz hn hn1 hm0 hm hn0 hcap hcm hx0 hx1 hq
 go_enter func187,ntmps187
 go_upto_region 2 with fail
 obtain⟨V8,aI⟩:=je (w.alloc (.cells (jD m) 24));have s_0:V8.heap.size=w.heap.size+1:=by rw[aI];simp
 have b_0:=jc aI;have yX:U0 V8 w.heap.size m:=by rw[aI];exact U0.new w m _ _ rfl
 obtain⟨v_1,yH⟩:=je (V8.alloc (.cells #[.string s] 9));have s_1:v_1.heap.size=w.heap.size+1+1:=by rw[yH];simp[s_0]
 have nU:=jc yH;have WS:v_1.cell? ⟨w.heap.size+1,0,none⟩=some (.string s):=by rw[<-s_0,yH,cell_of_row _ _ _ _ _ _ jQ];rfl
 obtain⟨U8,UN⟩:=je (v_1.alloc (.cells jA 24));have s_2:U8.heap.size=w.heap.size+1+1+1:=by rw[UN];simp[s_1]
 have lU:=jc UN;have gZ:U0 U8 (w.heap.size+1+1) 0:=by rw[<-s_1,UN];exact qV v_1 _
 have g_2:Y0 U8 (w.heap.size+1+1) 4:=by rw[<-s_1,UN];exact Y0.new _ _ _ _
 obtain⟨fC,mW⟩:=je (U8.alloc (.cells (Array.replicate n1 (Value.slice none 0 0)) 138));have s_3:fC.heap.size=w.heap.size+1+1+1+1:=by rw[mW];simp[s_2]
 have kU:=jc mW;have xX:fC.heap[w.heap.size+1+1+1]?=some (.cells (List.replicate n1 (Value.slice none 0 0)).toArray 138 (0,0)):=by rw[<-s_2,mW,heap_alloc_new];simp
 obtain⟨iO,e_4⟩:=je (fC.alloc (.cells #[.slice (some ⟨w.heap.size+1+1+1,0,none⟩) n n1] 223));have s_4:iO.heap.size=w.heap.size+1+1+1+1+1:=by rw[e_4];simp[s_3]
 have b_4:=jc e_4;have f_4:iO.cell? ⟨w.heap.size+1+1+1+1,0,none⟩=some (.slice (some ⟨w.heap.size+1+1+1,0,none⟩) n n1):=by rw[<-s_3,e_4,cell_of_row _ _ _ _ _ _ jQ];rfl
 rw[<-aI,<-yH,<-UN,<-mW,<-e_4];have yX:=U0.later b_4 (U0.later kU (U0.later lU (U0.later nU yX)));have WS:=jj (jj (jj WS lU) kU) b_4;have gZ:=U0.later b_4 (U0.later kU gZ);have g_2:=(g_2.later kU (by omega)).later b_4 (by omega);have xX:=(b_4.block _ (by omega)).trans xX;have B:=jm (jm (jm (jm b_0 nU) lU) kU) b_4;have OY:=s_4;clear aI yH UN mW e_4 b_0 nU lU kU b_4 s_0 s_1 s_2 s_3 s_4;obtain⟨MM,hMM⟩:=je (w.heap.size);rw[<-hMM] at yX WS gZ g_2 xX f_4 OY⊢;obtain⟨AS,hAS⟩:=je (MM+1);rw[<-hAS] at WS gZ g_2 xX f_4 OY⊢;obtain⟨OO,KJ⟩:=je (AS+1);rw[<-KJ] at gZ g_2 xX f_4 OY⊢;obtain⟨GG,J8⟩:=je (OO+1);rw[<-J8] at xX f_4 OY⊢;obtain⟨AL,hAL⟩:=je (GG+1);rw[<-hAL] at f_4 OY⊢;have V4:=jh hMM;have HAS:=jh hAS;have oC:=jh KJ;have GX:=jh J8;have HAL:=jh hAL;have HSZ4:=jh OY;have F0:=jh yX;have F1:=jh WS;have F2:=jh gZ;have G2:=jh g_2;have F3:=jh xX;have F4:=jh f_4;have HB:=jh B;have q0:=f_4;clear hMM hAS KJ J8 hAL OY yX WS gZ g_2 xX f_4 B hmk;have hvl:vs.length=n:=by rw[HL.out,HN.out]
 have DX:=jh hvl;clear hvl
 go_wp2_with (refine copy_all rfl (.tmp 16) (.tmp 17) rfl rfl rfl DX.out SA.out F3.out (fun j v hj=>jj (HCELL.out j v hj) HB.out) HSL.out ?_;intro w5 h5 hg5;have H5:=jh h5;have nK:=jh hg5;clear h5 hg5)
 clear q0;have hneA:AS≠GG:=by have:=GX.out;have:=oC.out;omega
 have hneL:AL≠GG:=by have:=HAL.out;omega
 have HM:=jh (show U0 w5 MM m from fun j hj=>nK.out.cell (F0.out j hj) (fun e=>by have e7:MM=GG:=(by injection e);have:=GX.out;have:=HAS.out;have:=oC.out;have:=HAL.out;omega));have HO:=jh (show U0 w5 OO 0 from fun j hj=>nK.out.cell (F2.out j hj) (fun e=>by have e7:OO=GG:=(by injection e);have:=GX.out;have:=HAS.out;have:=oC.out;have:=HAL.out;omega));have Y6:=jh (show Y0 w5 OO 4 from fun j hj=>(qI (nK.out.block OO (by have:=HSZ4.out;have:=HAL.out;have:=GX.out;omega) (fun e=>by have e7:OO=GG:=(by injection e);have:=GX.out;have:=HAS.out;have:=oC.out;have:=HAL.out;omega))).trans (G2.out j hj));have HBW:=jh (show Below w.heap.size w w5 from HB.out.grown nK.out HB.out.size (fun k hk=>by have e7:GG=k:=(by injection hk);have:=GX.out;have:=HAS.out;have:=oC.out;have:=V4.out;omega));have HHW:=jh (show nC w w5 AS AL GG s vs ls n1 from⟨nK.out.cell F1.out (fun e=>hneA (by injection e)),by rw[<-HN.out];exact nK.out.cell F4.out (fun e=>hneL (by injection e)),by rw[<-HN.out];exact⟨by rw[DX.out,Nat.mul_one],.inr ⟨GG,n1,_,rfl,Nat.le_refl _,H5.out,by have:=SA.out;omega,by have:=SA.out;unfold maxLen;omega,by have:=SA.out;have:=DX.out;simp;omega,by simp[DX.out]⟩⟩,fun i v l hv hl=>(by obtain⟨v9,l9,h1,h2,_,h4⟩:=HP.out.2 i (List.getElem?_eq_some_iff.1 hl).1;rw[h1] at hv;rw[h2] at hl;cases hv;cases hl;exact h4),HBW.out,by have:=GX.out;have:=HAS.out;have:=oC.out;have:=V4.out;omega,hneA,hneL,by rw[<-HN.out];have:=SA.out;omega⟩);have dP:=jh (show OO<w5.heap.size from jv (by have:=HSZ4.out;have:=HAL.out;have:=GX.out;omega) nK.out.size);have HGW:=jh (show w.heap.size<=GG from HHW.out.gt);have HOW:=jh (show w.heap.size<=OO by have:=HAS.out;have:=oC.out;have:=V4.out;omega);have HMO:=jh (show MM≠OO by have:=HAS.out;have:=oC.out;omega);have HNM:=jh (show MM≠GG by have:=GX.out;have:=HAS.out;have:=oC.out;omega);have YT:=jh (show OO≠GG by have:=GX.out;omega);clear hneA hneL F0 F1 F2 G2 F3 F4 HB nK H5 hnI;obtain⟨w6,e6⟩:=je (w5.drew);have hb:Below w5.heap.size w5 w6:=by rw[e6];exact U3.drew
 have HM:=jn hb HM;have HO:=jn hb HO;have Y6:=jh (Y6.out.later hb dP.out);have dP:=jl dP hb.size;have HBW:=jw HBW hb;have HHW:=jh (HHW.out.later hb);clear hb;refine jK [(0,true),(2,true),(4,true),(1,false),(3,false),(5,false),(6,true),(7,true),(8,false),(9,true)] (fun w8=>w8.cell? ⟨MM,0,none⟩=some (.int .u64 (jg jf m 0))/\w8.cell? ⟨MM,1,none⟩=some (.int .u64 (jg jf m 1))/\w8.cell? ⟨MM,2,none⟩=some (.int .u64 (jg jf m 2))/\w8.cell? ⟨MM,3,none⟩=some (.int .u64 (jg jf m 3))) (by kernel_rfl) (by kernel_rfl) (fun _ _ _ _ _ h=>h) (jF (show U0 w5.drew MM m by rw[<-e6];exact HM.out)) (fun hHeld=>?_);rw[<-e6];clear e6
 iterate 3
  refine jq ?_
 refine WP.step rfl (fun K hK=>?_)
 go_simp
 refine(bW (x:=1) w6 HHW.out (by decide) HBY.out fA.out).mono ?_;rintro _ w7 ⟨rfl,hhw,hg⟩;have HHW:=jh hhw;have HM:=jh (show U0 w7 MM m from fun j hj=>hg.cell (HM.out j hj) (fun e=>HNM.out (by injection e)));have HO:=jh (show U0 w7 OO 0 from fun j hj=>hg.cell (HO.out j hj) (fun e=>YT.out (by injection e)));have Y6:=jh (show Y0 w7 OO 4 from fun j hj=>(qI (hg.block OO dP.out (fun e=>YT.out (by injection e)))).trans (Y6.out j hj));have dP:=jl dP hg.size;have HBW:=jh (HBW.out.grown hg HBW.out.size (fun k hk=>by have e7:GG=k:=(by injection hk);rw[<-e7];exact HGW.out));rw[show num (zr (qA (zx s) (ls++[[1]])))=x1 from PZ.out.symm];clear hhw hg;refine qD hK (jF HM.out) (fun hHeld=>?_);clear hK K;refine WP.step rfl (fun K hK=>?_)
 go_simp
 refine(bW (x:=0) w7 HHW.out (by decide) HBY.out I7.out).mono ?_;rintro _ w8 ⟨rfl,hhw,hg⟩;have HHW:=jh hhw;have HM:=jh (show U0 w8 MM m from fun j hj=>hg.cell (HM.out j hj) (fun e=>HNM.out (by injection e)));have HO:=jh (show U0 w8 OO 0 from fun j hj=>hg.cell (HO.out j hj) (fun e=>YT.out (by injection e)));have Y6:=jh (show Y0 w8 OO 4 from fun j hj=>(qI (hg.block OO dP.out (fun e=>YT.out (by injection e)))).trans (Y6.out j hj));have dP:=jl dP hg.size;have HBW:=jh (HBW.out.grown hg HBW.out.size (fun k hk=>by have e7:GG=k:=(by injection hk);rw[<-e7];exact HGW.out));rw[show num (zr (qA (zx s) (ls++[[0]])))=x0 from HX0.out.symm];clear hhw hg;refine qD hK (jF HM.out) (fun hHeld=>?_);clear hK K;refine WP.step rfl (fun K hK=>?_)
 go_simp
 refine(CW.out _).mono ?_;rintro _ w9 ⟨rfl,hb⟩;have HM:=jn hb HM;have HO:=jn hb HO;have Y6:=jh (Y6.out.later hb dP.out);have HBW:=jw HBW hb;clear hb;refine qD hK (jF HM.out) (fun hHeld=>?_);clear hK K;refine jq ?_;refine jq ?_;refine WP.step rfl (fun K hK=>?_);obtain⟨c0,c1,c2,c3,f0,f1,f2,f3⟩:=jU HO.out Y6.out
 go_simp
 have HM:=jh (U0.other4 HM.out HMO.out (.int .u64 (jg jf q 0)) (.int .u64 (jg jf q 1)) (.int .u64 (jg jf q 2)) (.int .u64 (jg jf q 3)));refine qD hK (jF HM.out) (fun hHeld=>?_);clear hK K;refine jq ?_;refine WP.done ?_;clear hHeld c0 c1 c2 c3 f0 f1 f2 f3
 go_wp2_with fail
 obtain⟨g0,g1,g2,g3⟩:=jF (U0.set4 HO.out q);have IC:=jh (jO HBW.out HOW.out (.int .u64 (jg jf q 0)) (.int .u64 (jg jf q 1)) (.int .u64 (jg jf q 2)) (.int .u64 (jg jf q 3)));refine bodyPost_ret (v:=.tuple #[ji q,.int .i64 0]) ?_ rfl ⟨rfl,IC.out⟩
 simp[results,results187,go_sem,ji,words,g0,g1,g2,g3]
def Qe(x:Nat):List Nat:=be 8 (jg jf x 3)++(be 8 (jg jf x 2)++(be 8 (jg jf x 1)++be 8 (jg jf x 0)))
theorem JC(x:Nat):(Qe x).length=32:=by unfold Qe;simp[jI]
theorem Zf(x:Nat):qk (Qe x):=fun y hy=>by
 unfold Qe at hy
 rcases List.mem_append.1 hy with hy|hy
 ·exact qN _ _ y hy
 ·rcases List.mem_append.1 hy with hy|hy
  ·exact qN _ _ y hy
  ·rcases List.mem_append.1 hy with hy|hy
   ·exact qN _ _ y hy
   ·exact qN _ _ y hy
theorem nH(x:Nat)(w:World):Calls prog 188 #[.slice none 0 0,.agg #[.int .u64 (jg jf x 0),.int .u64 (jg jf x 1),.int .u64 (jg jf x 2),.int .u64 (jg jf x 3)]] w fun e w'=>∃a c,e=.returned (.slice (some a) 32 c)/\F7 .u8 w' (.slice (some a) 32 c) (Qe x)/\Below w.heap.size w w':=by
 refine(gX (b:=[]) w (F7.nil _ _) _ _ _ _ (by simp)).mono ?_;rintro _ w' ⟨v',rfl,ho,hb⟩;have hk:=ho.at_;rw[List.nil_append] at hk;obtain⟨ao,cap,e,_,_,_,h4⟩:=hk;obtain⟨b,o,e2,_⟩:=h4 (by show 0<(Qe x).length;rw[JC];decide);subst e;have hl:(be 8 (jg jf x 3)++(be 8 (jg jf x 2)++(be 8 (jg jf x 1)++be 8 (jg jf x 0)))).length=32:=JC x;have hk:=ho.at_;rw[List.nil_append,hl,e2] at hk;exact⟨_,_,by rw[hl,e2],hk,hb⟩
def signB:List Nat:=zx ⟨#[115,105,103,110]⟩
def JE(gq key r:Nat)(h:List Nat):Nat:=QA gq signB [Qe key,Qe r,h]
theorem VQ{w:World}{b:Nat}{v0 v1 v2:Value}{l0 l1 l2:List Nat}(h0:w.cell? ⟨b,0,none⟩=some v0)(h1:w.cell? ⟨b,1,none⟩=some v1)(h2:w.cell? ⟨b,2,none⟩=some v2)(k0:F7 .u8 w v0 l0)(k1:F7 .u8 w v1 l1)(k2:F7 .u8 w v2 l2):Parts w b 0 [v0,v1,v2] [l0,l1,l2]:=
 ⟨rfl,fun i hi=>by
  rcases(show i=0∨i=1∨i=2 by simp at hi;omega) with rfl|rfl|rfl
  ·exact⟨_,_,rfl,rfl,h0,k0⟩
  ·exact⟨_,_,rfl,rfl,h1,k1⟩
  ·exact⟨_,_,rfl,rfl,h2,k2⟩⟩
theorem qu{w8:World}{GB KB RB gq key r:Nat}(h0:Z4 w8 GB 4 gq)(h1:U0 w8 KB key)(h2:U0 w8 RB r):w8.cell? ⟨GB,4,none⟩=some (.int .u64 (jg jf gq 0))/\w8.cell? ⟨GB,5,none⟩=some (.int .u64 (jg jf gq 1))/\w8.cell? ⟨GB,6,none⟩=some (.int .u64 (jg jf gq 2))/\w8.cell? ⟨GB,7,none⟩=some (.int .u64 (jg jf gq 3))/\w8.cell? ⟨KB,0,none⟩=some (.int .u64 (jg jf key 0))/\w8.cell? ⟨KB,1,none⟩=some (.int .u64 (jg jf key 1))/\w8.cell? ⟨KB,2,none⟩=some (.int .u64 (jg jf key 2))/\w8.cell? ⟨KB,3,none⟩=some (.int .u64 (jg jf key 3))/\w8.cell? ⟨RB,0,none⟩=some (.int .u64 (jg jf r 0))/\w8.cell? ⟨RB,1,none⟩=some (.int .u64 (jg jf r 1))/\w8.cell? ⟨RB,2,none⟩=some (.int .u64 (jg jf r 2))/\w8.cell? ⟨RB,3,none⟩=some (.int .u64 (jg jf r 3)):=
 ⟨h0 0 (by decide),h0 1 (by decide),h0 2 (by decide),h0 3 (by decide),(jF h1).1,(jF h1).2.1,(jF h1).2.2.1,(jF h1).2.2.2,jF h2⟩
theorem dY{GB KB HB gp gq gg gh key r:Nat}{h:List Nat}(w:World)(hg:J3 w GB gp gq gg gh)(hk:U0 w KB key)(hh:w.heap[HB]?=some (.cells (jo .u8 h).toArray 67 (0,0))) (hl:h.length=32) (L6:qk h) (hq0:0<gq) (hq:gq<jk):
  Calls prog 186 #[ji r,.pointer (some ⟨GB,0,none⟩),.pointer (some ⟨KB,0,none⟩),.pointer (some ⟨HB,0,none⟩)] w fun e w'=>e=.returned (ji (JE gq key r h))/\Below w.heap.size w w':=by
 obtain⟨q,hqq⟩:=je (JE gq key r h)
 have CN:=jh (fun(W:World) (B:Nat) (vs:List Value) (hP:Parts W B 0 vs [Qe key,Qe r,h])=>by
  have h9:=MZ (s:=⟨#[115,105,103,110]⟩) (m:=gq) (cap:=3) W hP (by simp) (by simp) (by unfold maxLen;decide) (by
   intro l fJ;simp only[List.mem_cons,List.not_mem_nil,or_false] at fJ
   rcases fJ with rfl|rfl|rfl
   ·exact Zf _
   ·exact Zf _
   ·exact L6) hq0 hq (by unfold qA;simp[zD,qM,zE,JC,hl,ByteArray.size])
  rw[show QA gq (zx ⟨#[115,105,103,110]⟩) [Qe key,Qe r,h]=q from hqq.symm] at h9;unfold ji words at h9
  exact h9)
 rw[<-hqq];have HG:=jh hg;have HK:=jh hk;have HH:=jh hh;have HL:=jh hl;clear hqq hg hk hh hl L6 hq0 hq;unfold ji words
 go_enter func186,ntmps186
 go_upto_region 1 with fail
 obtain⟨V8,aI⟩:=je (w.alloc (.cells (jD r) 24));obtain⟨w0,yH⟩:=je (V8.alloc (.cells jA 24));have s_0:V8.heap.size=w.heap.size+1:=by rw[aI];simp
 have s_1:w0.heap.size=w.heap.size+1+1:=by rw[yH];simp[s_0]
 have b_0:=jc aI;have nU:=jc yH;have yX:U0 V8 w.heap.size r:=by rw[aI];exact U0.new w r _ _ rfl
 have WS:U0 w0 (w.heap.size+1) 0:=by rw[<-s_0,yH];exact qV V8 _
 have g_1:Y0 w0 (w.heap.size+1) 4:=by rw[<-s_0,yH];exact Y0.new _ _ _ _
 rw[<-aI,<-yH];have HR:=jh (U0.later nU yX);have HB0:=jh (jm b_0 nU);have HG:=jh (HG.out.later HB0.out);have HK:=jh (U0.later HB0.out HK.out);have HH:=jh ((HB0.out.block _ (J6.1 HH.out).1).trans HH.out);obtain⟨RB,hRB⟩:=je (w.heap.size);rw[<-hRB] at HR WS g_1 s_1⊢;obtain⟨OO,KJ⟩:=je (RB+1);rw[<-KJ] at WS g_1 s_1⊢;have HO:=jh WS;have Y6:=jh g_1;have HOW:=jh (show w.heap.size<=OO by omega);have HOL:=jh (show OO<w0.heap.size by omega);clear aI yH s_0 s_1 b_0 nU yX WS g_1 hRB KJ;refine jJ (.take 0 (.take 1 (.take 2 (.take 4 (.take 6 (.fork 3 (.fork 5 (.fork 7 (.fork 8 (.take 9 (.take 10 (.take 11 (.step 12 (.step 13 (.take 14 .done)))))) 12 (.step 8 (.take 9 (.take 10 (.take 11 (.step 13 (.take 14 .done))))))) 12 (.step 7 (.step 8 (.take 9 (.take 10 (.take 11 (.step 13 (.take 14 .done)))))))) 12 (.step 5 (.step 7 (.step 8 (.take 9 (.take 10 (.take 11 (.step 13 (.take 14 .done))))))))) 12 (.step 3 (.step 5 (.step 7 (.step 8 (.take 9 (.take 10 (.take 11 (.step 13 (.take 14 .done))))))))))))))) (fun w8=>w8.cell? ⟨GB,4,none⟩=some (.int .u64 (jg jf gq 0))/\w8.cell? ⟨GB,5,none⟩=some (.int .u64 (jg jf gq 1))/\w8.cell? ⟨GB,6,none⟩=some (.int .u64 (jg jf gq 2))/\w8.cell? ⟨GB,7,none⟩=some (.int .u64 (jg jf gq 3))/\w8.cell? ⟨KB,0,none⟩=some (.int .u64 (jg jf key 0))/\w8.cell? ⟨KB,1,none⟩=some (.int .u64 (jg jf key 1))/\w8.cell? ⟨KB,2,none⟩=some (.int .u64 (jg jf key 2))/\w8.cell? ⟨KB,3,none⟩=some (.int .u64 (jg jf key 3))/\w8.cell? ⟨RB,0,none⟩=some (.int .u64 (jg jf r 0))/\w8.cell? ⟨RB,1,none⟩=some (.int .u64 (jg jf r 1))/\w8.cell? ⟨RB,2,none⟩=some (.int .u64 (jg jf r 2))/\w8.cell? ⟨RB,3,none⟩=some (.int .u64 (jg jf r 3))) (by kernel_rfl) (by kernel_rfl) (fun _ _ _ _ _ h=>h) (qu HG.out.2.1 HK.out HR.out) (fun hHeld=>?_);obtain⟨w1,e1⟩:=je (w0.drew);rw[<-e1];have hb:Below w0.heap.size w0 w1:=by rw[e1];exact U3.drew
 have HG:=jh (HG.out.later hb);have HK:=jn hb HK;have HR:=jn hb HR;have HH:=jb hb HH;have HO:=jn hb HO;have Y6:=jh (Y6.out.later hb HOL.out);have HOL:=jl HOL hb.size;have HB0:=jw HB0 hb;clear hb e1
 iterate 5
  refine jz ?_
 focus
  refine WT.fork rfl rfl (fun K hK=>?_) (fun K hK=>?_)
 rotate_left
 focus
  go_simp
  obtain⟨w2,e9⟩:=je (w1.alloc (.cells jA 24));obtain⟨VV,Y8⟩:=je (w1.heap.size);have hb:=jc e9;have HV:=jh (show U0 w2 VV 0 by rw[e9,Y8];exact qV _ _);have RI:=jh (show Y0 w2 VV 4 by rw[e9,Y8];exact Y0.new _ _ _ _);have HNG:=jh (show GB≠VV by have:=HG.out.lt;omega);have BA:=jh (show KB≠VV by have:=U0.lt HK.out;omega);have HNR:=jh (show RB≠VV by have:=U0.lt HR.out;omega);have YT:=jh (show OO≠VV by have:=HOL.out;omega);have HVW:=jh (show w.heap.size<=VV by rw[Y8];exact HB0.out.size);rw[<-e9,<-Y8];clear e9 Y8;have HG:=jh (HG.out.later hb);have HK:=jn hb HK;have HR:=jn hb HR;have HH:=jb hb HH;have HO:=jn hb HO;have Y6:=jh (Y6.out.later hb HOL.out);have HOL:=jl HOL hb.size;have HB0:=jw HB0 hb;clear hb;refine qD hK (qu HG.out.2.1 HK.out HR.out) (fun hHeld=>?_);clear hK K
 rotate_right
 focus
  go_simp
  refine(nH key _).mono ?_;rintro _ w2 ⟨a3,c3,rfl,hk9,hb⟩;have HG:=jh (HG.out.later hb);have HK:=jn hb HK;have HR:=jn hb HR;have HH:=jb hb HH;have HO:=jn hb HO;have Y6:=jh (Y6.out.later hb HOL.out);have HOL:=jl HOL hb.size;have HB0:=jw HB0 hb;have K3:=jh hk9;clear hk9 hb;refine qD hK (qu HG.out.2.1 HK.out HR.out) (fun hHeld=>?_);clear hK K
 focus
  refine WT.fork rfl rfl (fun K hK=>?_) (fun K hK=>?_)
 rotate_left
 focus
  go_simp
  obtain⟨w3,e9⟩:=je (w2.alloc (.cells jA 24));obtain⟨VV,Y8⟩:=je (w2.heap.size);have hb:=jc e9;have HV:=jh (show U0 w3 VV 0 by rw[e9,Y8];exact qV _ _);have RI:=jh (show Y0 w3 VV 4 by rw[e9,Y8];exact Y0.new _ _ _ _);have HNG:=jh (show GB≠VV by have:=HG.out.lt;omega);have BA:=jh (show KB≠VV by have:=U0.lt HK.out;omega);have HNR:=jh (show RB≠VV by have:=U0.lt HR.out;omega);have YT:=jh (show OO≠VV by have:=HOL.out;omega);have HVW:=jh (show w.heap.size<=VV by rw[Y8];exact HB0.out.size);rw[<-e9,<-Y8];clear e9 Y8;have HG:=jh (HG.out.later hb);have HK:=jn hb HK;have HR:=jn hb HR;have HH:=jb hb HH;have HO:=jn hb HO;have Y6:=jh (Y6.out.later hb HOL.out);have HOL:=jl HOL hb.size;have HB0:=jw HB0 hb;have K3:=jh (K3.out.later hb);clear hb;refine qD hK (qu HG.out.2.1 HK.out HR.out) (fun hHeld=>?_);clear hK K
 rotate_right
 focus
  go_simp
  refine(nH r _).mono ?_;rintro _ w3 ⟨a5,c5,rfl,hk9,hb⟩;have HG:=jh (HG.out.later hb);have HK:=jn hb HK;have HR:=jn hb HR;have HH:=jb hb HH;have HO:=jn hb HO;have Y6:=jh (Y6.out.later hb HOL.out);have HOL:=jl HOL hb.size;have HB0:=jw HB0 hb;have K3:=jh (K3.out.later hb);have K5:=jh hk9;clear hk9 hb;refine qD hK (qu HG.out.2.1 HK.out HR.out) (fun hHeld=>?_);clear hK K
 focus
  refine WT.fork rfl rfl (fun K hK=>?_) (fun K hK=>?_)
 rotate_left
 focus
  go_simp
  obtain⟨w4,e9⟩:=je (w3.alloc (.cells jA 24));obtain⟨VV,Y8⟩:=je (w3.heap.size);have hb:=jc e9;have HV:=jh (show U0 w4 VV 0 by rw[e9,Y8];exact qV _ _);have RI:=jh (show Y0 w4 VV 4 by rw[e9,Y8];exact Y0.new _ _ _ _);have HNG:=jh (show GB≠VV by have:=HG.out.lt;omega);have BA:=jh (show KB≠VV by have:=U0.lt HK.out;omega);have HNR:=jh (show RB≠VV by have:=U0.lt HR.out;omega);have YT:=jh (show OO≠VV by have:=HOL.out;omega);have HVW:=jh (show w.heap.size<=VV by rw[Y8];exact HB0.out.size);rw[<-e9,<-Y8];clear e9 Y8;have HG:=jh (HG.out.later hb);have HK:=jn hb HK;have HR:=jn hb HR;have HH:=jb hb HH;have HO:=jn hb HO;have Y6:=jh (Y6.out.later hb HOL.out);have HOL:=jl HOL hb.size;have HB0:=jw HB0 hb;have K3:=jh (K3.out.later hb);have K5:=jh (K5.out.later hb);clear hb;refine qD hK (qu HG.out.2.1 HK.out HR.out) (fun hHeld=>?_);clear hK K
 rotate_right
 focus
  go_simp
  obtain⟨w4,e9⟩:=je (w3.alloc (.cells #[.slice (some a3) 32 c3,.slice (some a5) 32 c5,.slice (some ⟨HB,0,none⟩) 32 32] 138));obtain⟨PB,xM⟩:=je (w3.heap.size);have hb:=jc e9;have P0:=jh (show w4.cell? ⟨PB,0,none⟩=some (.slice (some a3) 32 c3) by rw[e9,xM,cell_of_row _ _ _ _ _ _ jQ];rfl);have P1:=jh (show w4.cell? ⟨PB,1,none⟩=some (.slice (some a5) 32 c5) by rw[e9,xM,cell_of_row _ _ _ _ _ _ jQ];rfl);have P2:=jh (show w4.cell? ⟨PB,2,none⟩=some (.slice (some ⟨HB,0,none⟩) 32 32) by rw[e9,xM,cell_of_row _ _ _ _ _ _ jQ];rfl);rw[<-e9,<-xM];clear e9 xM;have HG:=jh (HG.out.later hb);have HK:=jn hb HK;have HR:=jn hb HR;have HH:=jb hb HH;have HO:=jn hb HO;have Y6:=jh (Y6.out.later hb HOL.out);have HOL:=jl HOL hb.size;have HB0:=jw HB0 hb;have K3:=jh (K3.out.later hb);have K5:=jh (K5.out.later hb);clear hb;refine qD hK (qu HG.out.2.1 HK.out HR.out) (fun hHeld=>?_);clear hK K
 focus
  refine WT.fork rfl rfl (fun K hK=>?_) (fun K hK=>?_)
 rotate_left
 focus
  go_simp
  obtain⟨w5,e9⟩:=je (w4.alloc (.cells jA 24));obtain⟨VV,Y8⟩:=je (w4.heap.size);have hb:=jc e9;have HV:=jh (show U0 w5 VV 0 by rw[e9,Y8];exact qV _ _);have RI:=jh (show Y0 w5 VV 4 by rw[e9,Y8];exact Y0.new _ _ _ _);have HNG:=jh (show GB≠VV by have:=HG.out.lt;omega);have BA:=jh (show KB≠VV by have:=U0.lt HK.out;omega);have HNR:=jh (show RB≠VV by have:=U0.lt HR.out;omega);have YT:=jh (show OO≠VV by have:=HOL.out;omega);have HVW:=jh (show w.heap.size<=VV by rw[Y8];exact HB0.out.size);rw[<-e9,<-Y8];clear e9 Y8;have HG:=jh (HG.out.later hb);have HK:=jn hb HK;have HR:=jn hb HR;have HH:=jb hb HH;have HO:=jn hb HO;have Y6:=jh (Y6.out.later hb HOL.out);have HOL:=jl HOL hb.size;have HB0:=jw HB0 hb;have K3:=jh (K3.out.later hb);have K5:=jh (K5.out.later hb);have P0:=jh (jj P0.out hb);have P1:=jh (jj P1.out hb);have P2:=jh (jj P2.out hb);clear hb;refine qD hK (qu HG.out.2.1 HK.out HR.out) (fun hHeld=>?_);clear hK K
 rotate_right
 focus
  go_simp
  refine(CN.out _ PB _ (VQ P0.out P1.out P2.out K3.out K5.out (ZL HH.out HL.out))).mono ?_;rintro _ w5 ⟨rfl,hb⟩;have HG:=jh (HG.out.later hb);have HK:=jn hb HK;have HR:=jn hb HR;have HH:=jb hb HH;have HO:=jn hb HO;have Y6:=jh (Y6.out.later hb HOL.out);have HOL:=jl HOL hb.size;have HB0:=jw HB0 hb;have K3:=jh (K3.out.later hb);have K5:=jh (K5.out.later hb);have P0:=jh (jj P0.out hb);have P1:=jh (jj P1.out hb);have P2:=jh (jj P2.out hb);clear hb;refine qD hK (qu HG.out.2.1 HK.out HR.out) (fun hHeld=>?_);clear hK K
 focus
  refine jz ?_;refine jz ?_;refine jz ?_;refine WT.step rfl (fun K hK=>?_)
  go_simp
  obtain⟨w6,e9⟩:=je (w5.alloc (.cells jA 24));obtain⟨VV,Y8⟩:=je (w5.heap.size);have hb:=jc e9;have HV:=jh (show U0 w6 VV 0 by rw[e9,Y8];exact qV _ _);have RI:=jh (show Y0 w6 VV 4 by rw[e9,Y8];exact Y0.new _ _ _ _);have HNG:=jh (show GB≠VV by have:=HG.out.lt;omega);have BA:=jh (show KB≠VV by have:=U0.lt HK.out;omega);have HNR:=jh (show RB≠VV by have:=U0.lt HR.out;omega);have YT:=jh (show OO≠VV by have:=HOL.out;omega);have HVW:=jh (show w.heap.size<=VV by rw[Y8];exact HB0.out.size);rw[<-e9,<-Y8];clear e9 Y8;have HG:=jh (HG.out.later hb);have HK:=jn hb HK;have HR:=jn hb HR;have HH:=jb hb HH;have HO:=jn hb HO;have Y6:=jh (Y6.out.later hb HOL.out);have HOL:=jl HOL hb.size;have HB0:=jw HB0 hb;have K3:=jh (K3.out.later hb);have K5:=jh (K5.out.later hb);have P0:=jh (jj P0.out hb);have P1:=jh (jj P1.out hb);have P2:=jh (jj P2.out hb);clear hb;refine qD hK (qu HG.out.2.1 HK.out HR.out) (fun hHeld=>?_);clear hK K
 rotate_right
 focus
  refine WT.step rfl (fun K hK=>?_)
  go_simp
  refine(nH key _).mono ?_;rintro _ w3 ⟨a3,c3,rfl,hk9,hb⟩;have HG:=jh (HG.out.later hb);have HK:=jn hb HK;have HR:=jn hb HR;have HH:=jb hb HH;have HO:=jn hb HO;have Y6:=jh (Y6.out.later hb HOL.out);have HOL:=jl HOL hb.size;have HB0:=jw HB0 hb;have RI:=jh (RI.out.later hb (U0.lt HV.out));have HV:=jn hb HV;have K3:=jh hk9;clear hk9 hb;refine qD hK (qu HG.out.2.1 HK.out HR.out) (fun hHeld=>?_);clear hK K
 rotate_left
 rotate_right 2
 iterate 2
  focus
   refine WT.step rfl (fun K hK=>?_)
   go_simp
   refine(nH r _).mono ?_;rintro _ w4 ⟨a5,c5,rfl,hk9,hb⟩;have HG:=jh (HG.out.later hb);have HK:=jn hb HK;have HR:=jn hb HR;have HH:=jb hb HH;have HO:=jn hb HO;have Y6:=jh (Y6.out.later hb HOL.out);have HOL:=jl HOL hb.size;have HB0:=jw HB0 hb;have K3:=jh (K3.out.later hb);have RI:=jh (RI.out.later hb (U0.lt HV.out));have HV:=jn hb HV;have K5:=jh hk9;clear hk9 hb;refine qD hK (qu HG.out.2.1 HK.out HR.out) (fun hHeld=>?_);clear hK K
  rotate_left
 rotate_right 3
 iterate 3
  focus
   refine WT.step rfl (fun K hK=>?_)
   go_simp
   obtain⟨w5,e9⟩:=je (w4.alloc (.cells #[.slice (some a3) 32 c3,.slice (some a5) 32 c5,.slice (some ⟨HB,0,none⟩) 32 32] 138));obtain⟨PB,xM⟩:=je (w4.heap.size);have hb:=jc e9;have P0:=jh (show w5.cell? ⟨PB,0,none⟩=some (.slice (some a3) 32 c3) by rw[e9,xM,cell_of_row _ _ _ _ _ _ jQ];rfl);have P1:=jh (show w5.cell? ⟨PB,1,none⟩=some (.slice (some a5) 32 c5) by rw[e9,xM,cell_of_row _ _ _ _ _ _ jQ];rfl);have P2:=jh (show w5.cell? ⟨PB,2,none⟩=some (.slice (some ⟨HB,0,none⟩) 32 32) by rw[e9,xM,cell_of_row _ _ _ _ _ _ jQ];rfl);rw[<-e9,<-xM];clear e9 xM;have HG:=jh (HG.out.later hb);have HK:=jn hb HK;have HR:=jn hb HR;have HH:=jb hb HH;have HO:=jn hb HO;have Y6:=jh (Y6.out.later hb HOL.out);have HOL:=jl HOL hb.size;have HB0:=jw HB0 hb;have K3:=jh (K3.out.later hb);have K5:=jh (K5.out.later hb);have RI:=jh (RI.out.later hb (U0.lt HV.out));have HV:=jn hb HV;clear hb;refine qD hK (qu HG.out.2.1 HK.out HR.out) (fun hHeld=>?_);clear hK K
  rotate_left
 rotate_right 4
 iterate 4
  focus
   refine WT.step rfl (fun K hK=>?_)
   go_simp
   refine(CN.out _ PB _ (VQ P0.out P1.out P2.out K3.out K5.out (ZL HH.out HL.out))).mono ?_;rintro _ w6 ⟨rfl,hb⟩;have HG:=jh (HG.out.later hb);have HK:=jn hb HK;have HR:=jn hb HR;have HH:=jb hb HH;have HO:=jn hb HO;have Y6:=jh (Y6.out.later hb HOL.out);have HOL:=jl HOL hb.size;have HB0:=jw HB0 hb;have K3:=jh (K3.out.later hb);have K5:=jh (K5.out.later hb);have P0:=jh (jj P0.out hb);have P1:=jh (jj P1.out hb);have P2:=jh (jj P2.out hb);have RI:=jh (RI.out.later hb (U0.lt HV.out));have HV:=jn hb HV;clear hb;refine qD hK (qu HG.out.2.1 HK.out HR.out) (fun hHeld=>?_);clear hK K;refine jz ?_;refine jz ?_;refine jz ?_
  rotate_left
 all_goals(
  refine WT.step rfl (fun K hK=>?_);obtain⟨c0,c1,c2,c3,f0,f1,f2,f3⟩:=jU HV.out RI.out
  go_simp
  have HGS:=jh (jT (jT (jT (jT (World.grownBy.refl w6 (some VV)) 0 (.int .u64 (jg jf q 0))) 1 (.int .u64 (jg jf q 1))) 2 (.int .u64 (jg jf q 2))) 3 (.int .u64 (jg jf q 3)));have HQ:=jh (show Z4 _ GB 4 gq from fun j hj=>HGS.out.cell (HG.out.2.1 j hj) (fun e=>HNG.out (by injection e)));have HK:=jh (U0.other4 HK.out BA.out (.int .u64 (jg jf q 0)) (.int .u64 (jg jf q 1)) (.int .u64 (jg jf q 2)) (.int .u64 (jg jf q 3)));have HR:=jh (U0.other4 HR.out HNR.out (.int .u64 (jg jf q 0)) (.int .u64 (jg jf q 1)) (.int .u64 (jg jf q 2)) (.int .u64 (jg jf q 3)));have HO:=jh (U0.other4 HO.out YT.out (.int .u64 (jg jf q 0)) (.int .u64 (jg jf q 1)) (.int .u64 (jg jf q 2)) (.int .u64 (jg jf q 3)));have Y6:=jh (Y0.set4 Y6.out ⟨VV,0,none⟩ ⟨VV,1,none⟩ ⟨VV,2,none⟩ ⟨VV,3,none⟩ (.int .u64 (jg jf q 0)) (.int .u64 (jg jf q 1)) (.int .u64 (jg jf q 2)) (.int .u64 (jg jf q 3)));have HV:=jh (U0.set4 HV.out q);have HB0:=jh (jO HB0.out HVW.out (.int .u64 (jg jf q 0)) (.int .u64 (jg jf q 1)) (.int .u64 (jg jf q 2)) (.int .u64 (jg jf q 3)));refine qD hK (qu HQ.out HK.out HR.out) (fun hHeld=>?_);clear hK K;refine jz ?_;refine WT.done ?_;clear hHeld c0 c1 c2 c3 f0 f1 f2 f3;obtain⟨r0,r1,r2,r3⟩:=jF HV.out;obtain⟨c0,c1,c2,c3,f0,f1,f2,f3⟩:=jU HO.out Y6.out
  go_wp2_with fail
  obtain⟨g0,g1,g2,g3⟩:=jF (U0.set4 HO.out q);have IC:=jh (jO HB0.out HOW.out (.int .u64 (jg jf q 0)) (.int .u64 (jg jf q 1)) (.int .u64 (jg jf q 2)) (.int .u64 (jg jf q 3)));refine bodyPost_ret (v:=.agg #[.int .u64 (jg jf q 0),.int .u64 (jg jf q 1),.int .u64 (jg jf q 2),.int .u64 (jg jf q 3)]) ?_ rfl ⟨rfl,IC.out⟩
  simp[results,results186,go_sem,g0,g1,g2,g3])
theorem signs_any{gp gq gg gh key:Nat}{h:List Nat}(hl:h.length=32)(w:World):
  Calls prog 116 #[qj gp gq gg gh,ji key,.agg (jo .u8 h).toArray] w fun e w'=>∃GB KB HB,e=.returned (.func (.func 186) #[] #[.pointer (some ⟨GB,0,none⟩),.pointer (some ⟨KB,0,none⟩),.pointer (some ⟨HB,0,none⟩)])/\
   J3 w' GB gp gq gg gh/\U0 w' KB key/\w'.heap[HB]?=some (.cells (jo .u8 h).toArray 67 (0,0))/\Below w.heap.size w w':=by
 obtain⟨T,hT⟩:=je ((jo .u8 h).toArray);rw[<-hT];unfold qj ji words;clear hT hl
 go_enter func116,ntmps116
 go_wp2_with fail
 go_ret
 obtain⟨V8,aI⟩:=je (w.alloc (.cells (jG gp gq gg gh) 26));obtain⟨v_1,yH⟩:=je (V8.alloc (.cells (jD key) 24));obtain⟨U8,UN⟩:=je (v_1.alloc (.cells T 67));have s_0:V8.heap.size=w.heap.size+1:=by rw[aI];simp
 have s_1:v_1.heap.size=w.heap.size+1+1:=by rw[yH];simp[s_0]
 have b_0:=jc aI;have nU:=jc yH;have lU:=jc UN;have yX:J3 V8 w.heap.size gp gq gg gh:=by rw[aI];exact J3.new _ _ _ _ _ _
 have WS:U0 v_1 (w.heap.size+1) key:=by rw[<-s_0,yH];exact U0.new _ _ _ _ rfl
 have gZ:U8.heap[w.heap.size+1+1]?=some (.cells T 67 (0,0)):=by rw[<-s_1,UN];exact jQ
 rw[<-aI,<-yH,<-UN];exact⟨_,_,_,rfl,(yX.later nU).later lU,U0.later lU WS,gZ,jm (jm b_0 nU) lU⟩
theorem info_g:(prog.info? 26).map (·.size)=some 16:=by kernel_rfl
theorem info_n:(prog.info? 24).map (·.size)=some 4:=by kernel_rfl
theorem qP{w:World}{b gp gq gg gh:Nat}(h:J3 w b gp gq gg gh):(Instr.loadAt 26 (.pointer (some ⟨b,0,none⟩))).run prog w=.ok (.agg #[.int .u64 (jg jf gp 0),.int .u64 (jg jf gp 1),.int .u64 (jg jf gp 2),.int .u64 (jg jf gp 3),.int .u64 (jg jf gq 0),.int .u64 (jg jf gq 1),.int .u64 (jg jf gq 2),.int .u64 (jg jf gq 3),.int .u64 (jg jf gg 0),.int .u64 (jg jf gg 1),.int .u64 (jg jf gg 2),.int .u64 (jg jf gg 3),.int .u64 (jg jf gh 0),.int .u64 (jg jf gh 1),.int .u64 (jg jf gh 2),.int .u64 (jg jf gh 3)]) w:=by
 obtain⟨y0,y1,y2,y3,y4,y5,y6,y7,y8,y9,y10,y11,y12,y13,y14,y15⟩:=aQ h
 exact run_loadAt_mid (P:=prog) w b 0 26 [.int .u64 (jg jf gp 0),.int .u64 (jg jf gp 1),.int .u64 (jg jf gp 2),.int .u64 (jg jf gp 3),.int .u64 (jg jf gq 0),.int .u64 (jg jf gq 1),.int .u64 (jg jf gq 2),.int .u64 (jg jf gq 3),.int .u64 (jg jf gg 0),.int .u64 (jg jf gg 1),.int .u64 (jg jf gg 2),.int .u64 (jg jf gg 3),.int .u64 (jg jf gh 0),.int .u64 (jg jf gh 1),.int .u64 (jg jf gh 2),.int .u64 (jg jf gh 3)] _ (by
  intro j v hj;have hl:=(List.getElem?_eq_some_iff.1 hj).1;simp only[List.length_cons,List.length_nil] at hl;rw[Nat.zero_add]
  rcases(show j=0∨j=1∨j=2∨j=3∨j=4∨j=5∨j=6∨j=7∨j=8∨j=9∨j=10∨j=11∨j=12∨j=13∨j=14∨j=15 by omega) with rfl|rfl|rfl|rfl|rfl|rfl|rfl|rfl|rfl|rfl|rfl|rfl|rfl|rfl|rfl|rfl<;>(simp at hj;subst hj;assumption)) underlying26 rfl info_g
theorem jZ{w:World}{b o x:Nat}(h:Z4 w b o x):(Instr.loadAt 24 (.pointer (some ⟨b,o,none⟩))).run prog w=.ok (.agg #[.int .u64 (jg jf x 0),.int .u64 (jg jf x 1),.int .u64 (jg jf x 2),.int .u64 (jg jf x 3)]) w:=
 run_loadAt_mid (P:=prog) w b o 24 [.int .u64 (jg jf x 0),.int .u64 (jg jf x 1),.int .u64 (jg jf x 2),.int .u64 (jg jf x 3)] _ (by
  intro j v hj;have hl:=(List.getElem?_eq_some_iff.1 hj).1;simp only[List.length_cons,List.length_nil] at hl
  rcases(show j=0∨j=1∨j=2∨j=3 by omega) with rfl|rfl|rfl|rfl<;>(simp at hj;subst hj;exact h _ (by decide))) underlying24 rfl info_n
theorem num_o{w:World}{b x:Nat}(h:U0 w b x):Z4 w b 0 x:=fun j hj=>by rw[Nat.zero_add];exact h j hj
theorem zV{w:World}{b x:Nat}(h:U0 w b x):(Instr.loadAt 24 (.pointer (some ⟨b,0,none⟩))).run prog w=.ok (.agg #[.int .u64 (jg jf x 0),.int .u64 (jg jf x 1),.int .u64 (jg jf x 2),.int .u64 (jg jf x 3)]) w:=jZ (num_o h)
theorem loadH{w:World}{b:Nat}{h:List Nat}{t:TypeId}(hr:w.heap[b]?=some (.cells (jo .u8 h).toArray t (0,0))) (hl:h.length=32):(Instr.loadAt 67 (.pointer (some ⟨b,0,none⟩))).run prog w=.ok (.agg (jo .u8 h).toArray) w:=by
 have:=run_loadVar_row (P:=prog) w b t 67 (jo .u8 h).toArray (0,0) _ hr underlying67 rfl (by rw[qR];simp[js,hl]);simp only[Instr.loadAt,Instr.sureAddr,Sem.run_bind,Sem.run_pure,Result.andThen_ok,this]
def iY(c s:Nat):Value:=.agg #[.int .u64 (jg jf c 0),.int .u64 (jg jf c 1),.int .u64 (jg jf c 2),.int .u64 (jg jf c 3),.int .u64 (jg jf s 0),.int .u64 (jg jf s 1),.int .u64 (jg jf s 2),.int .u64 (jg jf s 3)]
theorem iV{w:World}{b x y:Nat}{t:TypeId}(h:w.heap[b]?=some (.cells #[.int .u64 (jg jf x 0),.int .u64 (jg jf x 1),.int .u64 (jg jf x 2),.int .u64 (jg jf x 3),.int .u64 (jg jf y 0),.int .u64 (jg jf y 1),.int .u64 (jg jf y 2),.int .u64 (jg jf y 3)] t (0,0))):Q8 w b 0 [x,y]:=fun i z hz j hj=>by
 have hl:=(List.getElem?_eq_some_iff.1 hz).1;rw[cell_of_row _ _ _ _ _ _ h]
 rcases(show i=0∨i=1 by simp at hl;omega) with rfl|rfl
 ·simp at hz
  subst hz
  rcases(show j=0∨j=1∨j=2∨j=3 by omega) with rfl|rfl|rfl|rfl<;>rfl
 ·simp at hz
  subst hz
  rcases(show j=0∨j=1∨j=2∨j=3 by omega) with rfl|rfl|rfl|rfl<;>rfl
theorem kV{w w':World}{b x c:Nat}(h:U0 w b x)(hg:w.grownBy w' (some c))(hn:b≠c):U0 w' b x:=fun j hj=>hg.cell (h j hj) (fun e=>hn (by injection e))
theorem grp_keep{w w':World}{b c gp gq gg gh:Nat}(h:J3 w b gp gq gg gh)(hg:w.grownBy w' (some c))(hn:b≠c):J3 w' b gp gq gg gh:=
 ⟨fun j hj=>hg.cell (h.1 j hj) (fun e=>hn (by injection e)),fun j hj=>hg.cell (h.2.1 j hj) (fun e=>hn (by injection e)),fun j hj=>hg.cell (h.2.2.1 j hj) (fun e=>hn (by injection e)),fun j hj=>hg.cell (h.2.2.2 j hj) (fun e=>hn (by injection e))⟩
theorem row_keep{w w':World}{b c:Nat}{o:Obj}(h:w.heap[b]?=some o) (hg:w.grownBy w' (some c)) (hn:b≠c):w'.heap[b]?=some o:=(hg.block b (J6.1 h).1 (fun e=>hn (by injection e))).trans h
def zC(gp gq gg gh:Nat)(fa se:Int)(nodes:Value):Value:=.agg #[.int .u64 (jg jf gp 0),.int .u64 (jg jf gp 1),.int .u64 (jg jf gp 2),.int .u64 (jg jf gp 3),.int .u64 (jg jf gq 0),.int .u64 (jg jf gq 1),.int .u64 (jg jf gq 2),.int .u64 (jg jf gq 3),.int .u64 (jg jf gg 0),.int .u64 (jg jf gg 1),.int .u64 (jg jf gg 2),.int .u64 (jg jf gg 3),.int .u64 (jg jf gh 0),.int .u64 (jg jf gh 1),.int .u64 (jg jf gh 2),.int .u64 (jg jf gh 3),.int .i64 fa,.int .i64 se,nodes]
theorem bF{w:World}{b gp gq gg gh:Nat}(h:∀(j:Nat) v,[.int .u64 (jg jf gp 0),.int .u64 (jg jf gp 1),.int .u64 (jg jf gp 2),.int .u64 (jg jf gp 3),.int .u64 (jg jf gq 0),.int .u64 (jg jf gq 1),.int .u64 (jg jf gq 2),.int .u64 (jg jf gq 3),.int .u64 (jg jf gg 0),.int .u64 (jg jf gg 1),.int .u64 (jg jf gg 2),.int .u64 (jg jf gg 3),.int .u64 (jg jf gh 0),.int .u64 (jg jf gh 1),.int .u64 (jg jf gh 2),.int .u64 (jg jf gh 3)][j]?=some v->w.cell? ⟨b,j,none⟩=some v):J3 w b gp gq gg gh:=
 ⟨fun j hj=>by rcases(show j=0∨j=1∨j=2∨j=3 by omega) with rfl|rfl|rfl|rfl<;>exact h _ _ rfl,fun j hj=>by rcases(show j=0∨j=1∨j=2∨j=3 by omega) with rfl|rfl|rfl|rfl<;>exact h _ _ rfl,fun j hj=>by rcases(show j=0∨j=1∨j=2∨j=3 by omega) with rfl|rfl|rfl|rfl<;>exact h _ _ rfl,fun j hj=>by rcases(show j=0∨j=1∨j=2∨j=3 by omega) with rfl|rfl|rfl|rfl<;>exact h _ _ rfl⟩
def zw(gp gq a:Nat):Bool:=!decide (YH gp gq a)||decide (a=1)
theorem keys1_out{GB gp gq gg gh a:Nat}(h:¬YH gp gq a)(ha:a<jk)(hq:gq<jk)(hm:gp<jk)(w:World)(hg:J3 w GB gp gq gg gh):
  Calls prog 174 #[ji a,.pointer (some ⟨GB,0,none⟩)] w fun e w'=>e=.returned (.bool (zw gp gq a))/\Below w.heap.size w w':=by
 have CI:=jh (fun W=>by have h8:=TT (gg:=gg) (gh:=gh) ha hq hm W;rw[decide_eq_false h] at h8;unfold qj ji words at h8;exact h8);have HG:=jh hg;have hv:zw gp gq a=true:=by unfold zw;rw[decide_eq_false h];rfl
 rw[hv];clear h hv hg ha hq hm;unfold ji words
 go_enter func174,ntmps174
 go_upto_region 1 with fail
 obtain⟨w0,e0⟩:=je (w.alloc (.cells (jD a) 24));obtain⟨AB,hAB⟩:=je (w.heap.size);have hb:=jc e0;have HA:=jh (show U0 w0 AB a by rw[e0,hAB];exact U0.new _ _ _ _ rfl);have HG:=jh (HG.out.later hb);have HB:=jh hb;rw[<-e0,<-hAB];clear e0 hAB hb;refine wp_region_lit ?_;refine jL _ ?_ (jd (qP HG.out));refine jL _ ?_ (jd (zV HA.out))
 go_wp2_with fail
 refine(CI.out _).mono ?_;rintro _ w1 ⟨rfl,hb⟩;have HA:=jn hb HA;have HB:=jw HB hb;clear hb
 go_wp2_with fail
 go_ret
 exact⟨rfl,HB.out⟩
theorem keys1_one{GB gp gq gg gh a:Nat}(h:YH gp gq a)(h9:a=1)(ha:a<jk)(hq:gq<jk)(hm:gp<jk)(w:World)(hg:J3 w GB gp gq gg gh):
  Calls prog 174 #[ji a,.pointer (some ⟨GB,0,none⟩)] w fun e w'=>e=.returned (.bool (zw gp gq a))/\Below w.heap.size w w':=by
 have CI:=jh (fun W=>by have h8:=TT (gg:=gg) (gh:=gh) ha hq hm W;rw[decide_eq_true h] at h8;unfold qj ji words at h8;exact h8);have HG:=jh hg;have hv:zw gp gq a=true:=by unfold zw;rw[decide_eq_true h];rw[decide_eq_true h9];rfl
 rw[hv];have heq:=qX a 1 ha (by decide);rw[decide_eq_true h9] at heq;have z0:((jg jf 1 0:Nat):Int)=1:=by decide
 have z1:((jg jf 1 1:Nat):Int)=0:=by decide
 have z2:((jg jf 1 2:Nat):Int)=0:=by decide
 have z3:((jg jf 1 3:Nat):Int)=0:=by decide
 simp only[z0,z1,z2,z3] at heq;clear z0 z1 z2 z3 h9;clear h hv hg ha hq hm;unfold ji words
 go_enter func174,ntmps174
 go_upto_region 1 with fail
 obtain⟨w0,e0⟩:=je (w.alloc (.cells (jD a) 24));obtain⟨AB,hAB⟩:=je (w.heap.size);have hb:=jc e0;have HA:=jh (show U0 w0 AB a by rw[e0,hAB];exact U0.new _ _ _ _ rfl);have HG:=jh (HG.out.later hb);have HB:=jh hb;rw[<-e0,<-hAB];clear e0 hAB hb;refine wp_region_lit ?_;refine jL _ ?_ (jd (qP HG.out));refine jL _ ?_ (jd (zV HA.out))
 go_wp2_with fail
 refine(CI.out _).mono ?_;rintro _ w1 ⟨rfl,hb⟩;have HA:=jn hb HA;have HB:=jw HB hb;clear hb;obtain⟨r0,r1,r2,r3⟩:=jF HA.out
 go_wp2_with fail
 go_ret
 exact⟨rfl,HB.out⟩
theorem keys1_in{GB gp gq gg gh a:Nat}(h:YH gp gq a)(h9:a≠1)(ha:a<jk)(hq:gq<jk)(hm:gp<jk)(w:World)(hg:J3 w GB gp gq gg gh):
  Calls prog 174 #[ji a,.pointer (some ⟨GB,0,none⟩)] w fun e w'=>e=.returned (.bool (zw gp gq a))/\Below w.heap.size w w':=by
 have CI:=jh (fun W=>by have h8:=TT (gg:=gg) (gh:=gh) ha hq hm W;rw[decide_eq_true h] at h8;unfold qj ji words at h8;exact h8);have HG:=jh hg;have hv:zw gp gq a=false:=by unfold zw;rw[decide_eq_true h];rw[decide_eq_false h9];rfl
 rw[hv];have heq:=qX a 1 ha (by decide);rw[decide_eq_false h9] at heq;have z0:((jg jf 1 0:Nat):Int)=1:=by decide
 have z1:((jg jf 1 1:Nat):Int)=0:=by decide
 have z2:((jg jf 1 2:Nat):Int)=0:=by decide
 have z3:((jg jf 1 3:Nat):Int)=0:=by decide
 simp only[z0,z1,z2,z3] at heq;clear z0 z1 z2 z3 h9;clear h hv hg ha hq hm;unfold ji words
 go_enter func174,ntmps174
 go_upto_region 1 with fail
 obtain⟨w0,e0⟩:=je (w.alloc (.cells (jD a) 24));obtain⟨AB,hAB⟩:=je (w.heap.size);have hb:=jc e0;have HA:=jh (show U0 w0 AB a by rw[e0,hAB];exact U0.new _ _ _ _ rfl);have HG:=jh (HG.out.later hb);have HB:=jh hb;rw[<-e0,<-hAB];clear e0 hAB hb;refine wp_region_lit ?_;refine jL _ ?_ (jd (qP HG.out));refine jL _ ?_ (jd (zV HA.out))
 go_wp2_with fail
 refine(CI.out _).mono ?_;rintro _ w1 ⟨rfl,hb⟩;have HA:=jn hb HA;have HB:=jw HB hb;clear hb;obtain⟨r0,r1,r2,r3⟩:=jF HA.out
 go_wp2_with fail
 go_ret
 exact⟨rfl,HB.out⟩
theorem keys1_any{GB gp gq gg gh a:Nat}(ha:a<jk)(hq:gq<jk)(hm:gp<jk)(w:World)(hg:J3 w GB gp gq gg gh):
  Calls prog 174 #[ji a,.pointer (some ⟨GB,0,none⟩)] w fun e w'=>e=.returned (.bool (zw gp gq a))/\Below w.heap.size w w':=by
 by_cases h:YH gp gq a
 ·by_cases h9:a=1
  ·exact keys1_one h h9 ha hq hm w hg
  ·exact keys1_in h h9 ha hq hm w hg
 ·exact keys1_out h ha hq hm w hg
theorem idxN_any{GB gp gq gg gh b o cap:Nat}{xs:List Nat}(hx:∀x∈xs,x<jk)(hq:gq<jk)(hm:gp<jk)(hn0:xs.length<=1000)(w:World)(hg:J3 w GB gp gq gg gh)(h:Q8 w b o xs):
  Calls prog 210 #[.slice (some ⟨b,o,none⟩) xs.length cap,.func (.func 174) #[] #[.pointer (some ⟨GB,0,none⟩)]] w fun e w'=>∃r:Int,e=.returned (.int .i64 r)/\(-1<=r/\r<=1000)/\decide (0<=r)=xs.any (zw gp gq)/\Below w.heap.size w w':=by
 have HX:=jh h;have HG:=jh hg;obtain⟨n,hn⟩:=je (xs.length);have HN:=jh hn;rw[<-hn];have hnb:n<=1000:=by omega
 have CK:=jh (fun(x:Nat) (iC:x<jk) (W:World) S9=>by have h9:=keys1_any (GB:=GB) (gg:=gg) (gh:=gh) iC hq hm W S9;unfold ji words at h9;exact h9);have HXL:=jh hx;clear h hn hx hq hm hn0 hg
 go_enter func210,ntmps210
 go_wp2_with fail
 go_loopw [8] (fun i wr=>∃k:Nat,k<=n/\i=.int .i64 k/\Hid ((xs.take k).any (zw gp gq)=false)/\Hid (Below w.heap.size w wr)) (fun i _=>n-(intOf i).toNat)
 case atStart=>exact⟨0,Nat.zero_le _,rfl,jh rfl,jh U3⟩
 case round=>
  obtain⟨k,hk,rfl,HK,HB⟩:=hrel
  by_cases hlt:k<n
  ·obtain⟨x,hx⟩:∃x,xs[k]?=some x:=⟨_,Jd (by rw[<-HN.out];exact hlt)⟩;have O6:(k:Int)<(n:Int):=by omega
   have G7:=jh hlt;have U9:=jh (HXL.out x (List.mem_of_getElem? hx));have HXI:=jh hx;have r0:=jj (HX.out k x hx 0 (by decide)) HB.out;have r1:=jj (HX.out k x hx 1 (by decide)) HB.out;have r2:=jj (HX.out k x hx 2 (by decide)) HB.out;have r3:=jj (HX.out k x hx 3 (by decide)) HB.out;rw[Nat.add_zero] at r0;clear hx hlt
   go_wp2_with fail
   clear r0 r1 r2 r3;have CKx:=jh (CK.out x U9.out wr (HG.out.later HB.out))
   by_cases hbad:zw gp gq x=true
   ·rw[hbad] at CKx;refine CKx.out.mono ?_;rintro _ w4 ⟨rfl,hb⟩;have HB:=jw HB hb;have fU:=jh hbad;clear hb hbad
    go_wp2_with fail
    go_ret
    exact⟨_,rfl,⟨by omega,by have:=G7.out;omega⟩,by
     rw[decide_eq_true (show(0:Int)<=(k:Int) by omega)]
     exact(List.any_eq_true.2 ⟨x,List.mem_of_getElem? HXI.out,fU.out⟩).symm,HB.out⟩
   ·rw[show zw gp gq x=false by simpa using hbad] at CKx;refine CKx.out.mono ?_;rintro _ w4 ⟨rfl,hb⟩;have HB:=jw HB hb;have fU:=jh hbad;clear hb hbad
    go_wp2_with fail
    go_roundw
    case rel=>exact⟨k+1,G7.out,by go_num,jh (by rw[List.take_add_one,HXI.out,List.any_append,HK.out];simpa using fU.out),HB⟩
    case measure=>simp[intOf];have:=G7.out;omega
  ·obtain rfl:k=n:=by omega
   clear hlt
   go_wp2_with fail
   go_ret
   exact⟨_,rfl,⟨by omega,by omega⟩,by
    have h9:=HK.out;rw[HN.out,List.take_length] at h9;rw[h9]
    rfl,HB.out⟩
theorem conN_any{GB gp gq gg gh b o cap:Nat}{xs:List Nat}(hx:∀x∈xs,x<jk)(hq:gq<jk)(hm:gp<jk)(hn0:xs.length<=1000)(w:World)(hg:J3 w GB gp gq gg gh)(h:Q8 w b o xs):
  Calls prog 173 #[.slice (some ⟨b,o,none⟩) xs.length cap,.func (.func 174) #[] #[.pointer (some ⟨GB,0,none⟩)]] w fun e w'=>e=.returned (.bool (xs.any (zw gp gq)))/\Below w.heap.size w w':=by
 have CI:=jh (idxN_any (cap:=cap) hx hq hm hn0 w hg h);obtain⟨n,hn⟩:=je (xs.length);obtain⟨d,hd⟩:=je (xs.any (zw gp gq));rw[<-hn,<-hd] at CI⊢;clear hn hd hx hq hm hn0 hg h
 go_enter func173,ntmps173
 go_wp2_with fail
 refine CI.out.mono ?_;rintro _ w1 ⟨r,rfl,⟨h1,h2⟩,h3,hb⟩;have HB:=jh hb;have H3:=jh h3;clear h3 hb
 go_wp2_with fail
 go_ret
 exact⟨by rw[<-H3.out];rfl,HB.out⟩
theorem yV{gp gq gg gh b o cap:Nat}{xs:List Nat}(hx:∀x∈xs,x<jk)(hq:gq<jk)(hm:gp<jk)(hn0:xs.length<=1000)(w:World)(h:Q8 w b o xs):
  Calls prog 103 #[qj gp gq gg gh,.slice (some ⟨b,o,none⟩) xs.length cap] w fun e w'=>e=.returned (.bool (!xs.any (zw gp gq)))/\Below w.heap.size w w':=by
 have CC:=jh (fun(W:World) (GB:Nat) S9 iC=>conN_any (GB:=GB) (gg:=gg) (gh:=gh) (o:=o) (cap:=cap) (b:=b) hx hq hm hn0 W S9 iC);have HX:=jh h;obtain⟨n,hn⟩:=je (xs.length);obtain⟨d,hd⟩:=je (xs.any (zw gp gq));rw[<-hn,<-hd] at CC⊢;clear hn hd hx hq hm hn0 h;unfold qj
 go_enter func103,ntmps103
 go_upto_region 1 with fail
 obtain⟨w0,e0⟩:=je (w.alloc (.cells (jG gp gq gg gh) 26));obtain⟨GG,J8⟩:=je (w.heap.size);have hb:=jc e0;have HG:=jh (show J3 w0 GG gp gq gg gh by rw[e0,J8];exact J3.new _ _ _ _ _ _);have HB:=jh hb;rw[<-e0,<-J8];clear e0 J8 hb
 go_wp2_with fail
 refine(CC.out _ GG HG.out (HX.out.later HB.out)).mono ?_;rintro _ w1 ⟨rfl,hb⟩;have HB:=jw HB hb;clear hb
 go_wp2_with fail
 go_ret
 exact⟨rfl,HB.out⟩
def Y4(w:World)(b o:Nat)(ks:List (Nat×Nat)):Prop:=∀i k,ks[i]?=some k->(∀j,j<4->w.cell? ⟨b,o+i*8+j,none⟩=some (.int .u64 (jg jf k.1 j)))/\∀j,j<4->w.cell? ⟨b,o+i*8+(4+j),none⟩=some (.int .u64 (jg jf k.2 j))
theorem Y4.later{w w':World}{b o:Nat}{ks:List (Nat×Nat)}(h:Y4 w b o ks)(hb:Below w.heap.size w w'):Y4 w' b o ks:=fun i k hk=>⟨fun j hj=>jj ((h i k hk).1 j hj) hb,fun j hj=>jj ((h i k hk).2 j hj) hb⟩
def zR(gp gq:Nat)(k:Nat×Nat):Bool:=zw gp gq k.1||zw gp gq k.2
def qi(gp gq gg gh:Nat)(fa se:Int)(n:Nat)(ks:List (Nat×Nat)):Bool:=
 if fa<0 then false else if 2<fa then false else if se<1 then false else if fa+1<se then false else if(n:Int)<3*fa+1 then false else if 7<n then false
 else if rE gq (n+se.toNat)=false then false else if(zw gp gq gg||zw gp gq gh)=true then false else !ks.any (zR gp gq)
theorem set_grp{w:World}{gp gq gg gh:Nat}{x y z:Value}{t:TypeId}:J3 (w.alloc (.cells #[.int .u64 (jg jf gp 0),.int .u64 (jg jf gp 1),.int .u64 (jg jf gp 2),.int .u64 (jg jf gp 3),.int .u64 (jg jf gq 0),.int .u64 (jg jf gq 1),.int .u64 (jg jf gq 2),.int .u64 (jg jf gq 3),.int .u64 (jg jf gg 0),.int .u64 (jg jf gg 1),.int .u64 (jg jf gg 2),.int .u64 (jg jf gg 3),.int .u64 (jg jf gh 0),.int .u64 (jg jf gh 1),.int .u64 (jg jf gh 2),.int .u64 (jg jf gh 3),x,y,z] t)) w.heap.size gp gq gg gh:=
 bF fun j v hj=>by
  rw[cell_of_row _ _ _ _ _ _ jQ];have hl:=(List.getElem?_eq_some_iff.1 hj).1;simp only[List.length_cons,List.length_nil] at hl
  rcases(show j=0∨j=1∨j=2∨j=3∨j=4∨j=5∨j=6∨j=7∨j=8∨j=9∨j=10∨j=11∨j=12∨j=13∨j=14∨j=15 by omega) with rfl|rfl|rfl|rfl|rfl|rfl|rfl|rfl|rfl|rfl|rfl|rfl|rfl|rfl|rfl|rfl<;>exact hj
theorem set1_any{SB gp gq gg gh:Nat}{k:Nat×Nat}(h1:k.1<jk)(h2:k.2<jk)(hq:gq<jk)(hm:gp<jk)(w:World)(hg:J3 w SB gp gq gg gh):
  Calls prog 105 #[.agg #[.int .u64 (jg jf k.1 0),.int .u64 (jg jf k.1 1),.int .u64 (jg jf k.1 2),.int .u64 (jg jf k.1 3),.int .u64 (jg jf k.2 0),.int .u64 (jg jf k.2 1),.int .u64 (jg jf k.2 2),.int .u64 (jg jf k.2 3)],.pointer (some ⟨SB,0,none⟩)] w fun e w'=>e=.returned (.bool (zR gp gq k))/\Below w.heap.size w w':=by
 have CK:=jh (fun(W:World) (B cap:Nat) iC=>by have h9:=yV (gp:=gp) (gq:=gq) (gg:=gg) (gh:=gh) (b:=B) (o:=0) (cap:=cap) (xs:=[k.1,k.2]) (by intro x hx;simp only[List.mem_cons,List.not_mem_nil,or_false] at hx;rcases hx with rfl|rfl;exact h1;exact h2) hq hm (by simp) W iC;unfold qj at h9;exact h9);have HG:=jh hg;have hv:[k.1,k.2].any (zw gp gq)=zR gp gq k:=by unfold zR;simp
 rw[hv] at CK;obtain⟨d,hd⟩:=je (zR gp gq k);rw[<-hd] at CK⊢;obtain⟨x,y⟩:=k;clear hv hd hg h1 h2 hq hm
 go_enter func105,ntmps105
 go_upto_region 1 with fail
 obtain⟨w0,e0⟩:=je (w.alloc (.cells (jE x y) 88));obtain⟨KB,hKB⟩:=je (w.heap.size);have hb:=jc e0;have hrow:w0.heap[KB]?=some (.cells #[.int .u64 (jg jf x 0),.int .u64 (jg jf x 1),.int .u64 (jg jf x 2),.int .u64 (jg jf x 3),.int .u64 (jg jf y 0),.int .u64 (jg jf y 1),.int .u64 (jg jf y 2),.int .u64 (jg jf y 3)] 88 (0,0)):=by rw[e0,hKB];exact jQ
 have HX:=jh (show Z4 w0 KB 0 x from fun j hj=>by rw[cell_of_row _ _ _ _ _ _ hrow];rcases(show j=0∨j=1∨j=2∨j=3 by omega) with rfl|rfl|rfl|rfl<;>rfl);have HY:=jh (show Z4 w0 KB 4 y from fun j hj=>by rw[cell_of_row _ _ _ _ _ _ hrow];rcases(show j=0∨j=1∨j=2∨j=3 by omega) with rfl|rfl|rfl|rfl<;>rfl);have HG:=jh (HG.out.later hb);have HB:=jh hb;rw[<-e0,<-hKB];clear e0 hKB hb hrow;refine wp_region_lit ?_;refine jL (jP SB 0) ?_;refine jL _ ?_ (jd (qP HG.out));refine jL (jP KB 0) ?_;refine jL _ ?_ (jd (jZ HX.out));refine jL (jP KB 4) ?_;refine jL _ ?_ (jd (jZ HY.out))
 go_wp2_with fail
 obtain⟨w1,PB,e9,h9,hb⟩:=qJ w0 (.cells (jE x y) 24);have HP:=jh (show w1.heap[PB]?=some (.cells #[.int .u64 (jg jf x 0),.int .u64 (jg jf x 1),.int .u64 (jg jf x 2),.int .u64 (jg jf x 3),.int .u64 (jg jf y 0),.int .u64 (jg jf y 1),.int .u64 (jg jf y 2),.int .u64 (jg jf y 3)] 24 (0,0)) by rw[e9,h9];exact jQ);have LPB:=jh (show PB<w1.heap.size by rw[e9,h9];simp);have WPB:=jh (show w0.heap.size=PB from h9.symm);rw[<-e9,<-h9];clear e9 h9;have HB:=jw HB hb;clear hb;refine(CK.out _ PB _ (iV HP.out)).mono ?_;rintro _ w2 ⟨rfl,hb⟩;have HB:=jw HB hb;clear hb
 go_wp2_with fail
 go_ret
 exact⟨by simp,HB.out⟩
theorem idxK_any{SB gp gq gg gh b o cap:Nat}{ks:List (Nat×Nat)}(hx:∀k∈ks,k.1<jk/\k.2<jk)(hq:gq<jk)(hm:gp<jk)(hn0:ks.length<=1000)(w:World)(hg:J3 w SB gp gq gg gh)(h:Y4 w b o ks):
  Calls prog 175 #[.slice (some ⟨b,o,none⟩) ks.length cap,.func (.func 105) #[] #[.pointer (some ⟨SB,0,none⟩)]] w fun e w'=>∃r:Int,e=.returned (.int .i64 r)/\(-1<=r/\r<=1000)/\decide (0<=r)=ks.any (zR gp gq)/\Below w.heap.size w w':=by
 have HX:=jh h;have HG:=jh hg;obtain⟨n,hn⟩:=je (ks.length);have HN:=jh hn;rw[<-hn];have hnb:n<=1000:=by omega
 have CK:=jh (fun(k:Nat×Nat) (iC:k.1<jk/\k.2<jk) (W:World) S9=>set1_any (SB:=SB) (gg:=gg) (gh:=gh) iC.1 iC.2 hq hm W S9);have HXL:=jh hx;clear h hn hx hq hm hn0 hg
 go_enter func175,ntmps175
 go_wp2_with fail
 go_loopw [8] (fun i wr=>∃k:Nat,k<=n/\i=.int .i64 k/\Hid ((ks.take k).any (zR gp gq)=false)/\Hid (Below w.heap.size w wr)) (fun i _=>n-(intOf i).toNat)
 case atStart=>exact⟨0,Nat.zero_le _,rfl,jh rfl,jh U3⟩
 case round=>
  obtain⟨k,hk,rfl,HK,HB⟩:=hrel
  by_cases hlt:k<n
  ·obtain⟨x,hx⟩:∃x,ks[k]?=some x:=⟨_,Jd (by rw[<-HN.out];exact hlt)⟩;have O6:(k:Int)<(n:Int):=by omega
   have G7:=jh hlt;have U9:=jh (HXL.out x (List.mem_of_getElem? hx));have HXI:=jh hx;have r0:=jj ((HX.out k x hx).1 0 (by decide)) HB.out;have r1:=jj ((HX.out k x hx).1 1 (by decide)) HB.out;have r2:=jj ((HX.out k x hx).1 2 (by decide)) HB.out;have r3:=jj ((HX.out k x hx).1 3 (by decide)) HB.out;have r4:=jj ((HX.out k x hx).2 0 (by decide)) HB.out;have r5:=jj ((HX.out k x hx).2 1 (by decide)) HB.out;have r6:=jj ((HX.out k x hx).2 2 (by decide)) HB.out;have r7:=jj ((HX.out k x hx).2 3 (by decide)) HB.out;rw[Nat.add_zero] at r0;simp only[Nat.reduceAdd] at r4 r5 r6 r7;clear hx hlt
   go_wp2_with fail
   clear r0 r1 r2 r3 r4 r5 r6 r7;have CKx:=jh (CK.out x U9.out wr (HG.out.later HB.out))
   by_cases hbad:zR gp gq x=true
   ·rw[hbad] at CKx;refine CKx.out.mono ?_;rintro _ w4 ⟨rfl,hb⟩;have HB:=jw HB hb;have fU:=jh hbad;clear hb hbad
    go_wp2_with fail
    go_ret
    exact⟨_,rfl,⟨by omega,by have:=G7.out;omega⟩,by
     rw[decide_eq_true (show(0:Int)<=(k:Int) by omega)]
     exact(List.any_eq_true.2 ⟨x,List.mem_of_getElem? HXI.out,fU.out⟩).symm,HB.out⟩
   ·rw[show zR gp gq x=false by simpa using hbad] at CKx;refine CKx.out.mono ?_;rintro _ w4 ⟨rfl,hb⟩;have HB:=jw HB hb;have fU:=jh hbad;clear hb hbad
    go_wp2_with fail
    go_roundw
    case rel=>exact⟨k+1,G7.out,by go_num,jh (by rw[List.take_add_one,HXI.out,List.any_append,HK.out];simpa using fU.out),HB⟩
    case measure=>simp[intOf];have:=G7.out;omega
  ·obtain rfl:k=n:=by omega
   clear hlt
   go_wp2_with fail
   go_ret
   exact⟨_,rfl,⟨by omega,by omega⟩,by
    have h9:=HK.out;rw[HN.out,List.take_length] at h9;rw[h9]
    rfl,HB.out⟩
theorem conK_any{SB gp gq gg gh b o cap:Nat}{ks:List (Nat×Nat)}(hx:∀k∈ks,k.1<jk/\k.2<jk)(hq:gq<jk)(hm:gp<jk)(hn0:ks.length<=1000)(w:World)(hg:J3 w SB gp gq gg gh)(h:Y4 w b o ks):
  Calls prog 104 #[.slice (some ⟨b,o,none⟩) ks.length cap,.func (.func 105) #[] #[.pointer (some ⟨SB,0,none⟩)]] w fun e w'=>e=.returned (.bool (ks.any (zR gp gq)))/\Below w.heap.size w w':=by
 have CI:=jh (idxK_any (cap:=cap) hx hq hm hn0 w hg h);obtain⟨n,hn⟩:=je (ks.length);obtain⟨d,hd⟩:=je (ks.any (zR gp gq));rw[<-hn,<-hd] at CI⊢;clear hn hd hx hq hm hn0 hg h
 go_enter func104,ntmps104
 go_wp2_with fail
 refine CI.out.mono ?_;rintro _ w1 ⟨r,rfl,⟨h1,h2⟩,h3,hb⟩;have HB:=jh hb;have H3:=jh h3;clear h3 hb
 go_wp2_with fail
 go_ret
 exact⟨by rw[<-H3.out];rfl,HB.out⟩
theorem XH{gp gq gg gh n cap:Nat}{fa se:Int}{ao:Option Addr}{ks:List (Nat×Nat)}(hx:∀k∈ks,k.1<jk/\k.2<jk)(hq:gq<jk)(hm:gp<jk)(hgg:gg<jk)(hgh:gh<jk)(hn:n=ks.length)(hfa: -9223372036854775808<=fa/\fa<=9223372036854775807)(hse: -9223372036854775808<=se/\se<=9223372036854775807)(O9:n<=140737488355328)(w:World)(hk:0<n->∃b o,ao=some ⟨b,o,none⟩/\Y4 w b o ks):
  Calls prog 27 #[zC gp gq gg gh fa se (.slice ao n cap)] w fun e w'=>e=.returned (.bool (qi gp gq gg gh fa se n ks))/\Below w.heap.size w w':=by
 obtain⟨hf1,hf2⟩:=hfa;obtain⟨hs1,hs2⟩:=hse;obtain⟨R,hR⟩:=je (qi gp gq gg gh fa se n ks);rw[<-hR];have HR:=jh hR;have CA:=jh (fun(m:Nat) (hmb:m<=1000) (W:World)=>by have h9:=above_any (a:=gq) hmb W;unfold ji words at h9;exact h9);obtain⟨kb,hkb⟩:=je ([gg,gh].any (zw gp gq));have HKB:=jh (show(zw gp gq gg||zw gp gq gh)=kb by rw[hkb];simp);have CK:=jh (fun(W:World) (B cap:Nat) iC=>by have h9:=yV (gp:=gp) (gq:=gq) (gg:=gg) (gh:=gh) (b:=B) (o:=0) (cap:=cap) (xs:=[gg,gh]) (by intro x hx;simp only[List.mem_cons,List.not_mem_nil,or_false] at hx;rcases hx with rfl|rfl;exact hgg;exact hgh) hq hm (by simp) W iC;rewrite[<-hkb] at h9;unfold qj at h9;exact h9);obtain⟨d,hd⟩:=je (ks.any (zR gp gq));have HD:=jh hd;have CC:=jh (fun(b o:Nat) (h7:n<=7) (W:World) (SB:Nat) S9 hk9=>by have h9:=conK_any (SB:=SB) (gg:=gg) (gh:=gh) (b:=b) (o:=o) (cap:=cap) hx hq hm (by omega) W S9 hk9;rewrite[<-hn,<-hd] at h9;exact h9);have HKH:=jh hk;clear hR hkb hd hx hq hm hgg hgh hn hk;unfold zC
 go_enter func27,ntmps27
 go_upto_region 1 with fail
 obtain⟨w0,e0⟩:=je (w.alloc (.cells #[.int .u64 (jg jf gp 0),.int .u64 (jg jf gp 1),.int .u64 (jg jf gp 2),.int .u64 (jg jf gp 3),.int .u64 (jg jf gq 0),.int .u64 (jg jf gq 1),.int .u64 (jg jf gq 2),.int .u64 (jg jf gq 3),.int .u64 (jg jf gg 0),.int .u64 (jg jf gg 1),.int .u64 (jg jf gg 2),.int .u64 (jg jf gg 3),.int .u64 (jg jf gh 0),.int .u64 (jg jf gh 1),.int .u64 (jg jf gh 2),.int .u64 (jg jf gh 3),.int .i64 fa,.int .i64 se,.slice ao n cap] 33));obtain⟨SB,bC⟩:=je (w.heap.size);have hb:=jc e0;have HG:=jh (show J3 w0 SB gp gq gg gh by rw[e0,bC];exact set_grp);have S16:=jh (show w0.cell? ⟨SB,16,none⟩=some (.int .i64 fa) by rw[e0,bC,cell_of_row _ _ _ _ _ _ jQ];rfl);have S17:=jh (show w0.cell? ⟨SB,17,none⟩=some (.int .i64 se) by rw[e0,bC,cell_of_row _ _ _ _ _ _ jQ];rfl);have S18:=jh (show w0.cell? ⟨SB,18,none⟩=some (.slice ao n cap) by rw[e0,bC,cell_of_row _ _ _ _ _ _ jQ];rfl);have HB:=jh hb;rw[<-e0,<-bC];clear e0 bC hb;have q16:=S16.out;have q17:=S17.out;have q18:=S18.out
 by_cases h0:fa<0
 ·have HR:=jh (show R=false by rw[HR.out];unfold qi;rw[if_pos h0])
  go_wp2_with fail
  go_ret
  exact⟨by rw[HR.out];rfl,HB.out⟩
 by_cases h1:2<fa
 ·have HR:=jh (show R=false by rw[HR.out];unfold qi;rw[if_neg h0,if_pos h1])
  go_wp2_with fail
  go_ret
  exact⟨by rw[HR.out];rfl,HB.out⟩
 by_cases h2:se<1
 ·have HR:=jh (show R=false by rw[HR.out];unfold qi;rw[if_neg h0,if_neg h1,if_pos h2])
  go_wp2_with fail
  go_ret
  exact⟨by rw[HR.out];rfl,HB.out⟩
 by_cases h3:fa+1<se
 ·have HR:=jh (show R=false by rw[HR.out];unfold qi;rw[if_neg h0,if_neg h1,if_neg h2,if_pos h3])
  go_wp2_with fail
  go_ret
  exact⟨by rw[HR.out];rfl,HB.out⟩
 by_cases h4:(n:Int)<3*fa+1
 ·have HR:=jh (show R=false by rw[HR.out];unfold qi;rw[if_neg h0,if_neg h1,if_neg h2,if_neg h3,if_pos h4])
  go_wp2_with fail
  go_ret
  exact⟨by rw[HR.out];rfl,HB.out⟩
 by_cases h5:7<n
 ·have HR:=jh (show R=false by rw[HR.out];unfold qi;rw[if_neg h0,if_neg h1,if_neg h2,if_neg h3,if_neg h4,if_pos h5]);have h5I:(7:Int)<(n:Int):=by omega
  go_wp2_with fail
  go_ret
  exact⟨by rw[HR.out];rfl,HB.out⟩
 have h5I:¬(7:Int)<(n:Int):=by omega
 have HR:=jh (show R=(if rE gq (n+se.toNat)=false then false else if(zw gp gq gg||zw gp gq gh)=true then false else !ks.any (zR gp gq)) by rw[HR.out];unfold qi;rw[if_neg h0,if_neg h1,if_neg h2,if_neg h3,if_neg h4,if_neg h5]);rw[HKB.out,<-HD.out] at HR;obtain⟨m,vM⟩:=je (n+se.toNat);rw[<-vM] at HR;have hmI:(n:Int)+se=(m:Int):=by omega
 have hmb:m<=1000:=by omega
 have hn7:(n:Int)<=1000000:=by omega
 have FX:=jh (show 0<n/\n<=7 by omega);obtain⟨ab,hab⟩:=je (rE gq m);have CA9:=jh (fun W=>by have h9:=CA.out m hmb W;rewrite[<-hab] at h9;exact h9);rw[<-hab] at HR;clear hab vM CA;obtain⟨y0,y1,y2,y3,y4,y5,y6,y7,y8,y9,y10,y11,y12,y13,y14,y15⟩:=aQ HG.out
 go_wp2_with fail
 clear q16 q17 q18 y0 y1 y2 y3 y4 y5 y6 y7 y8 y9 y10 y11 y12 y13 y14 y15;refine(CA9.out _).mono ?_;rintro _ w1 ⟨rfl,hb⟩;have HB:=jw HB hb;have HG:=jh (HG.out.later hb);have S16:=jh (jj S16.out hb);have S17:=jh (jj S17.out hb);have S18:=jh (jj S18.out hb);clear hb
 cases ab
 ·have HR:=jh (show R=false by rw[HR.out];rfl)
  go_wp2_with fail
  go_ret
  exact⟨by rw[HR.out];rfl,HB.out⟩
 have HR:=jh (show R=(if kb=true then false else !d) by rw[HR.out];rfl);have q16:=S16.out;have q17:=S17.out;have q18:=S18.out;obtain⟨y0,y1,y2,y3,y4,y5,y6,y7,y8,y9,y10,y11,y12,y13,y14,y15⟩:=aQ HG.out
 go_wp2_with fail
 clear q16 q17 q18 y0 y1 y2 y3 y4 y5 y6 y7 y8 y9 y10 y11 y12 y13 y14 y15;obtain⟨w2,PB,e9,h9,hb⟩:=qJ w1 (.cells (jE gg gh) 24);have HP:=jh (show w2.heap[PB]?=some (.cells #[.int .u64 (jg jf gg 0),.int .u64 (jg jf gg 1),.int .u64 (jg jf gg 2),.int .u64 (jg jf gg 3),.int .u64 (jg jf gh 0),.int .u64 (jg jf gh 1),.int .u64 (jg jf gh 2),.int .u64 (jg jf gh 3)] 24 (0,0)) by rw[e9,h9];exact jQ);have LPB:=jh (show PB<w2.heap.size by rw[e9,h9];simp);have WPB:=jh (show w1.heap.size=PB from h9.symm);rw[<-e9,<-h9];clear e9 h9;have HB:=jw HB hb;have HG:=jh (HG.out.later hb);have S16:=jh (jj S16.out hb);have S17:=jh (jj S17.out hb);have S18:=jh (jj S18.out hb);clear hb;refine(CK.out _ PB _ (iV HP.out)).mono ?_;rintro _ w3 ⟨rfl,hb⟩;have HB:=jw HB hb;have HG:=jh (HG.out.later hb);have S16:=jh (jj S16.out hb);have S17:=jh (jj S17.out hb);have S18:=jh (jj S18.out hb);have LPB:=jl LPB hb.size;clear hb;clear HP
 cases kb
 rotate_left
 ·have HR:=jh (show R=false by rw[HR.out];rfl)
  go_wp2_with fail
  go_ret
  exact⟨by rw[HR.out];rfl,HB.out⟩
 have HR:=jh (show R=!d by rw[HR.out];rfl);obtain⟨b,o,hao,hks⟩:=HKH.out FX.out.1;subst hao;have q18:=S18.out
 go_wp2_with fail
 clear q18;refine(CC.out b o FX.out.2 _ SB HG.out (hks.later HB.out)).mono ?_;rintro _ w4 ⟨rfl,hb⟩;have HB:=jw HB hb;clear hb hks
 go_wp2_with fail
 go_ret
 exact⟨by rw[HR.out];rfl,HB.out⟩
def Qo(gp gq gg gh lg:Nat)(fa se:Int)(ks:Value):Value:=.agg #[.int .u64 (jg jf gp 0),.int .u64 (jg jf gp 1),.int .u64 (jg jf gp 2),.int .u64 (jg jf gp 3),.int .u64 (jg jf gq 0),.int .u64 (jg jf gq 1),.int .u64 (jg jf gq 2),.int .u64 (jg jf gq 3),.int .u64 (jg jf gg 0),.int .u64 (jg jf gg 1),.int .u64 (jg jf gg 2),.int .u64 (jg jf gg 3),.int .u64 (jg jf gh 0),.int .u64 (jg jf gh 1),.int .u64 (jg jf gh 2),.int .u64 (jg jf gh 3),.int .u64 (jg jf lg 0),.int .u64 (jg jf lg 1),.int .u64 (jg jf lg 2),.int .u64 (jg jf lg 3),.int .i64 fa,.int .i64 se,ks]
def oH(gp gq:Nat):Prop:=gp<4294967296/\1<gq/\gq<jf/\(yG gp/\gp<4294967296)/\(yG gq/\gq<4294967296)/\(gp-1)%gq=0
theorem kE{w:World}{gp gq gg gh lg:Nat}{x y z:Value}{t:TypeId}:J3 (w.alloc (.cells #[.int .u64 (jg jf gp 0),.int .u64 (jg jf gp 1),.int .u64 (jg jf gp 2),.int .u64 (jg jf gp 3),.int .u64 (jg jf gq 0),.int .u64 (jg jf gq 1),.int .u64 (jg jf gq 2),.int .u64 (jg jf gq 3),.int .u64 (jg jf gg 0),.int .u64 (jg jf gg 1),.int .u64 (jg jf gg 2),.int .u64 (jg jf gg 3),.int .u64 (jg jf gh 0),.int .u64 (jg jf gh 1),.int .u64 (jg jf gh 2),.int .u64 (jg jf gh 3),.int .u64 (jg jf lg 0),.int .u64 (jg jf lg 1),.int .u64 (jg jf lg 2),.int .u64 (jg jf lg 3),x,y,z] t)) w.heap.size gp gq gg gh:=
 bF fun j v hj=>by
  rw[cell_of_row _ _ _ _ _ _ jQ];have hl:=(List.getElem?_eq_some_iff.1 hj).1;simp only[List.length_cons,List.length_nil] at hl
  rcases(show j=0∨j=1∨j=2∨j=3∨j=4∨j=5∨j=6∨j=7∨j=8∨j=9∨j=10∨j=11∨j=12∨j=13∨j=14∨j=15 by omega) with rfl|rfl|rfl|rfl|rfl|rfl|rfl|rfl|rfl|rfl|rfl|rfl|rfl|rfl|rfl|rfl<;>exact hj
theorem QO{n:Nat}(hn:n<jf){b:Bool}(hb:b=true↔yG n/\n<4294967296)(w:World):Calls prog 100 #[.int .u64 n] w fun e w'=>e=.returned (.bool b)/\Below w.heap.size w w':=
 (Small_any hn w).mono fun _ _ ⟨b',h1,h2,h3⟩=>⟨by rw[h1,show b'=b from Bool.eq_iff_iff.2 (h2.trans hb.symm)],by rw[h3];exact U3⟩
def VK(gp gq:Nat)(w:World)(e:Ending)(w':World):Prop:=∃b,e=.returned (.bool b)/\(b=true->oH gp gq)/\Below w.heap.size w w'
theorem Js{gp gq:Nat}{w w':World}(h:Below w.heap.size w w'):VK gp gq w (.returned (.bool false)) w':=⟨false,rfl,(fun h=>by cases h),h⟩
theorem TQ{gp gq:Nat}{w w':World}(hp:oH gp gq)(h:Below w.heap.size w w'):VK gp gq w (.returned (.bool true)) w':=⟨true,rfl,fun _=>hp,h⟩
theorem prime_out{gp gq gg gh lg:Nat}{fa se:Int}{ks:Value}(hm:gp<jk)(hq:gq<jk)(w:World):
  Calls prog 25 #[Qo gp gq gg gh lg fa se ks] w (VK gp gq w):=by
 obtain⟨p0,hp0⟩:∃x,jg jf gp 0=x:=⟨_,rfl⟩;obtain⟨q0,hq0⟩:∃x,jg jf gq 0=x:=⟨_,rfl⟩;have WN:=jh hp0;have bP:=jh hq0;have HM:=jh hm;have HQ:=jh hq;clear hp0 hq0 hm hq;unfold Qo
 go_enter func25,ntmps25
 go_upto_region 1 with fail
 obtain⟨V8,e0⟩:=je (w.alloc (.cells #[.int .u64 (jg jf gp 0),.int .u64 (jg jf gp 1),.int .u64 (jg jf gp 2),.int .u64 (jg jf gp 3),.int .u64 (jg jf gq 0),.int .u64 (jg jf gq 1),.int .u64 (jg jf gq 2),.int .u64 (jg jf gq 3),.int .u64 (jg jf gg 0),.int .u64 (jg jf gg 1),.int .u64 (jg jf gg 2),.int .u64 (jg jf gg 3),.int .u64 (jg jf gh 0),.int .u64 (jg jf gh 1),.int .u64 (jg jf gh 2),.int .u64 (jg jf gh 3),.int .u64 (jg jf lg 0),.int .u64 (jg jf lg 1),.int .u64 (jg jf lg 2),.int .u64 (jg jf lg 3),.int .i64 fa,.int .i64 se,ks] 29));obtain⟨CB,dS⟩:=je (w.heap.size);have hb:=jc e0;have HG:=jh (show J3 V8 CB gp gq gg gh by rw[e0,dS];exact kE);have HB:=jh hb;rw[<-e0,<-dS];clear e0 dS hb;have y0:=HG.out.1 0 (by decide);have y1:=HG.out.1 1 (by decide);have y2:=HG.out.1 2 (by decide);have y3:=HG.out.1 3 (by decide);simp only[Nat.reduceAdd] at y0 y1 y2 y3
 go_upto_region 2 with fail
 clear y0 y1 y2 y3;obtain⟨U8,PB,e9,h9,hb⟩:=qJ V8 (.cells (jD gp) 24);have EG:=jh (show U0 U8 PB gp by rw[e9,h9];exact U0.new _ _ _ _ rfl);have HG:=jh (HG.out.later hb);have HB:=jw HB hb;rw[<-e9,<-h9];clear e9 h9 hb;have y0:=HG.out.2.1 0 (by decide);have y1:=HG.out.2.1 1 (by decide);have y2:=HG.out.2.1 2 (by decide);have y3:=HG.out.2.1 3 (by decide);simp only[Nat.reduceAdd] at y0 y1 y2 y3
 go_upto_region 3 with fail
 clear y0 y1 y2 y3;obtain⟨fC,QB,e9,h9,hb⟩:=qJ U8 (.cells (jD gq) 24);have OH:=jh (show U0 fC QB gq by rw[e9,h9];exact U0.new _ _ _ _ rfl);have EG:=jn hb EG;have HG:=jh (HG.out.later hb);have HB:=jw HB hb;rw[<-e9,<-h9];clear e9 h9 hb;have U2:QB<fC.heap.size:=OH.out.lt;have B:=HB
 by_cases h0:p0<4294967296
 rotate_left
 ·have mF:p0<jf:=by rw[<-WN.out];exact qh _ _
  have kH:q0<jf:=by rw[<-bP.out];exact qh _ _
  have i0:¬(p0:Int)<4294967296:=by omega
  clear h0 mF kH;refine zM 41 (fun F O9 hcl hbl=>?_);obtain⟨Y7,dA,aA,Z9⟩:=qF hbl EG;obtain⟨X7,Y9,W9,V9⟩:=qF hbl OH;simp only[WN.out] at Y7;simp only[bP.out] at X7;have I5:=jh hcl;clear hcl hbl;refine zL 41 ?_;simp only[zo,zn,zm,zl,Nat.reduceAdd]
  repeat (go_big_quiet_step ((first|(go_at_call 99;with_reducible exact jp I5.out (HB.out _)))))
  refine wpQuiet_nil ?_;refine jS ?_;intro bs w2 hb _ _;clear Y7 dA aA Z9 X7 Y9 W9 V9;obtain⟨EG,OH,U2,B⟩:=vV hb EG OH U2 B;clear hb;simp only[over]
  go_wp2_with fail
  refine bodyPost_ret (v:=.bool false) ?_ rfl (Js B.out)
  simp[results,results25,go_sem]
 by_cases h1:1<q0
 rotate_left
 ·have mF:p0<jf:=by rw[<-WN.out];exact qh _ _
  have kH:q0<jf:=by rw[<-bP.out];exact qh _ _
  have i0:(p0:Int)<4294967296:=by omega
  have i1:¬(1:Int)<(q0:Int):=by omega
  clear h0 h1 mF kH;refine zM 41 (fun F O9 hcl hbl=>?_);obtain⟨Y7,dA,aA,Z9⟩:=qF hbl EG;obtain⟨X7,Y9,W9,V9⟩:=qF hbl OH;simp only[WN.out] at Y7;simp only[bP.out] at X7;have I5:=jh hcl;clear hcl hbl;refine zL 41 ?_;simp only[zo,zn,zm,zl,Nat.reduceAdd]
  repeat (go_big_quiet_step ((first|(go_at_call 99;with_reducible exact jp I5.out (HB.out _)))))
  refine wpQuiet_nil ?_;refine jS ?_;intro bs w2 hb _ _;clear Y7 dA aA Z9 X7 Y9 W9 V9;obtain⟨EG,OH,U2,B⟩:=vV hb EG OH U2 B;clear hb;simp only[over]
  go_wp2_with fail
  refine bodyPost_ret (v:=.bool false) ?_ rfl (Js B.out)
  simp[results,results25,go_sem]
 by_cases h2:gp=p0
 rotate_left
 ·have mF:p0<jf:=by rw[<-WN.out];exact qh _ _
  have kH:q0<jf:=by rw[<-bP.out];exact qh _ _
  have i0:(p0:Int)<4294967296:=by omega
  have i1:(1:Int)<(q0:Int):=by omega
  have heq2:=qX gp p0 HM.out (Nat.lt_trans mF (by decide));rw[decide_eq_false h2,WN.out] at heq2;have CO2:=jh (fun w=>by have h:=Qc p0 mF w;unfold ji words at h;exact h);clear h0 h1 h2 mF kH;refine zM 41 (fun F O9 hcl hbl=>?_);obtain⟨Y7,dA,aA,Z9⟩:=qF hbl EG;obtain⟨X7,Y9,W9,V9⟩:=qF hbl OH;simp only[WN.out] at Y7;simp only[bP.out] at X7;have I5:=jh hcl;clear hcl hbl;refine zL 41 ?_;simp only[zo,zn,zm,zl,Nat.reduceAdd]
  repeat (go_big_quiet_step ((first|(go_at_call 99;with_reducible exact jp I5.out (CO2.out _)))))
  refine wpQuiet_nil ?_;refine jS ?_;intro bs w2 hb _ _;clear Y7 dA aA Z9 X7 Y9 W9 V9;obtain⟨EG,OH,U2,B⟩:=vV hb EG OH U2 B;clear hb;simp only[over]
  go_wp2_with fail
  refine bodyPost_ret (v:=.bool false) ?_ rfl (Js B.out)
  simp[results,results25,go_sem]
 by_cases h3:gq=q0
 rotate_left
 ·have mF:p0<jf:=by rw[<-WN.out];exact qh _ _
  have kH:q0<jf:=by rw[<-bP.out];exact qh _ _
  have i0:(p0:Int)<4294967296:=by omega
  have i1:(1:Int)<(q0:Int):=by omega
  have heq2:=qX gp p0 HM.out (Nat.lt_trans mF (by decide));rw[decide_eq_true h2,WN.out] at heq2;have CO2:=jh (fun w=>by have h:=Qc p0 mF w;unfold ji words at h;exact h);have XR:=qX gq q0 HQ.out (Nat.lt_trans kH (by decide));rw[decide_eq_false h3,bP.out] at XR;have CO3:=jh (fun w=>by have h:=Qc q0 kH w;unfold ji words at h;exact h);clear h0 h1 h2 h3 mF kH;refine zM 41 (fun F O9 hcl hbl=>?_);obtain⟨Y7,dA,aA,Z9⟩:=qF hbl EG;obtain⟨X7,Y9,W9,V9⟩:=qF hbl OH;simp only[WN.out] at Y7;simp only[bP.out] at X7;have I5:=jh hcl;clear hcl hbl;refine zL 41 ?_;simp only[zo,zn,zm,zl,Nat.reduceAdd]
  repeat (go_big_quiet_step ((first|(go_at_call 99;with_reducible exact jp I5.out (CO2.out _))|(go_at_call 99;with_reducible exact jp I5.out (CO3.out _)))))
  refine wpQuiet_nil ?_;refine jS ?_;intro bs w2 hb _ _;clear Y7 dA aA Z9 X7 Y9 W9 V9;obtain⟨EG,OH,U2,B⟩:=vV hb EG OH U2 B;clear hb;simp only[over]
  go_wp2_with fail
  refine bodyPost_ret (v:=.bool false) ?_ rfl (Js B.out)
  simp[results,results25,go_sem]
 by_cases h4:(yG p0/\p0<4294967296)
 rotate_left
 ·have mF:p0<jf:=by rw[<-WN.out];exact qh _ _
  have kH:q0<jf:=by rw[<-bP.out];exact qh _ _
  have i0:(p0:Int)<4294967296:=by omega
  have i1:(1:Int)<(q0:Int):=by omega
  have heq2:=qX gp p0 HM.out (Nat.lt_trans mF (by decide));rw[decide_eq_true h2,WN.out] at heq2;have CO2:=jh (fun w=>by have h:=Qc p0 mF w;unfold ji words at h;exact h);have XR:=qX gq q0 HQ.out (Nat.lt_trans kH (by decide));rw[decide_eq_true h3,bP.out] at XR;have CO3:=jh (fun w=>by have h:=Qc q0 kH w;unfold ji words at h;exact h);have CP:=jh (fun W=>QO (b:=false) mF (by simp[h4]) W);clear h0 h1 h2 h3 h4 mF kH;refine zM 41 (fun F O9 hcl hbl=>?_);obtain⟨Y7,dA,aA,Z9⟩:=qF hbl EG;obtain⟨X7,Y9,W9,V9⟩:=qF hbl OH;simp only[WN.out] at Y7;simp only[bP.out] at X7;have I5:=jh hcl;clear hcl hbl;refine zL 41 ?_;simp only[zo,zn,zm,zl,Nat.reduceAdd]
  repeat (go_big_quiet_step ((first|(go_at_call 99;with_reducible exact jp I5.out (CO2.out _))|(go_at_call 99;with_reducible exact jp I5.out (CO3.out _))|(go_at_call 100;with_reducible exact jp I5.out (CP.out _)))))
  refine wpQuiet_nil ?_;refine jS ?_;intro bs w2 hb _ _;clear Y7 dA aA Z9 X7 Y9 W9 V9;obtain⟨EG,OH,U2,B⟩:=vV hb EG OH U2 B;clear hb;simp only[over]
  go_wp2_with fail
  refine bodyPost_ret (v:=.bool false) ?_ rfl (Js B.out)
  simp[results,results25,go_sem]
 by_cases h5:(yG q0/\q0<4294967296)
 rotate_left
 ·have mF:p0<jf:=by rw[<-WN.out];exact qh _ _
  have kH:q0<jf:=by rw[<-bP.out];exact qh _ _
  have i0:(p0:Int)<4294967296:=by omega
  have i1:(1:Int)<(q0:Int):=by omega
  have heq2:=qX gp p0 HM.out (Nat.lt_trans mF (by decide));rw[decide_eq_true h2,WN.out] at heq2;have CO2:=jh (fun w=>by have h:=Qc p0 mF w;unfold ji words at h;exact h);have XR:=qX gq q0 HQ.out (Nat.lt_trans kH (by decide));rw[decide_eq_true h3,bP.out] at XR;have CO3:=jh (fun w=>by have h:=Qc q0 kH w;unfold ji words at h;exact h);have CP:=jh (fun W=>QO (b:=true) mF (by simp[h4]) W);have CQ:=jh (fun W=>QO (b:=false) kH (by simp[h5]) W);clear h0 h1 h2 h3 h4 h5 mF kH;refine zM 41 (fun F O9 hcl hbl=>?_);obtain⟨Y7,dA,aA,Z9⟩:=qF hbl EG;obtain⟨X7,Y9,W9,V9⟩:=qF hbl OH;simp only[WN.out] at Y7;simp only[bP.out] at X7;have I5:=jh hcl;clear hcl hbl;refine zL 41 ?_;simp only[zo,zn,zm,zl,Nat.reduceAdd]
  repeat (go_big_quiet_step ((first|(go_at_call 99;with_reducible exact jp I5.out (CO2.out _))|(go_at_call 99;with_reducible exact jp I5.out (CO3.out _))|(go_at_call 100;with_reducible exact jp I5.out (CP.out _))|(go_at_call 100;with_reducible exact jp I5.out (CQ.out _)))))
  refine wpQuiet_nil ?_;refine jS ?_;intro bs w2 hb _ _;clear Y7 dA aA Z9 X7 Y9 W9 V9;obtain⟨EG,OH,U2,B⟩:=vV hb EG OH U2 B;clear hb;simp only[over]
  go_wp2_with fail
  refine bodyPost_ret (v:=.bool false) ?_ rfl (Js B.out)
  simp[results,results25,go_sem]
 by_cases h6:(p0-1)%q0=0
 rotate_left
 ·have mF:p0<jf:=by rw[<-WN.out];exact qh _ _
  have kH:q0<jf:=by rw[<-bP.out];exact qh _ _
  have i0:(p0:Int)<4294967296:=by omega
  have i1:(1:Int)<(q0:Int):=by omega
  have heq2:=qX gp p0 HM.out (Nat.lt_trans mF (by decide));rw[decide_eq_true h2,WN.out] at heq2;have CO2:=jh (fun w=>by have h:=Qc p0 mF w;unfold ji words at h;exact h);have XR:=qX gq q0 HQ.out (Nat.lt_trans kH (by decide));rw[decide_eq_true h3,bP.out] at XR;have CO3:=jh (fun w=>by have h:=Qc q0 kH w;unfold ji words at h;exact h);have CP:=jh (fun W=>QO (b:=true) mF (by simp[h4]) W);have CQ:=jh (fun W=>QO (b:=true) kH (by simp[h5]) W);have hp2:2<=p0:=h4.1.1;obtain⟨m,vM⟩:=je (p0-1);have hmI:(p0:Int)-1=(m:Int):=by omega
  have hmb:m<18446744073709551616:=by unfold jf at mF;omega
  have hmw:IntKind.u64.wrap (m:Int)=(m:Int):=by simp[IntKind.wrap,IntKind.bits,IntKind.signed];omega
  obtain⟨r,hr⟩:=je (m%q0);have hrI:(m:Int)%(q0:Int)=(r:Int):=by rw[hr];simp
  have hq00:¬(q0:Int)=0:=by omega
  have hz:¬(r:Int)=0:=by rw[vM] at hr;omega
  clear hr vM hp2;have hbeq:((r:Int)==0)=false:=by simp;omega
  clear h0 h1 h2 h3 h4 h5 h6 mF kH;refine zM 41 (fun F O9 hcl hbl=>?_);obtain⟨Y7,dA,aA,Z9⟩:=qF hbl EG;obtain⟨X7,Y9,W9,V9⟩:=qF hbl OH;simp only[WN.out] at Y7;simp only[bP.out] at X7;have I5:=jh hcl;clear hcl hbl;refine zL 41 ?_;simp only[zo,zn,zm,zl,Nat.reduceAdd]
  repeat (go_big_quiet_step ((first|(go_at_call 99;with_reducible exact jp I5.out (CO2.out _))|(go_at_call 99;with_reducible exact jp I5.out (CO3.out _))|(go_at_call 100;with_reducible exact jp I5.out (CP.out _))|(go_at_call 100;with_reducible exact jp I5.out (CQ.out _)))))
  refine wpQuiet_nil ?_;refine jS ?_;intro bs w2 hb _ _;clear Y7 dA aA Z9 X7 Y9 W9 V9;obtain⟨EG,OH,U2,B⟩:=vV hb EG OH U2 B;clear hb;simp only[over]
  go_wp2_with fail
  refine bodyPost_ret (v:=.bool false) ?_ rfl (Js B.out)
  simp[results,results25,go_sem]
 have mF:p0<jf:=by rw[<-WN.out];exact qh _ _
 have kH:q0<jf:=by rw[<-bP.out];exact qh _ _
 have HIS:=jh (show oH gp gq from⟨by rw[h2];exact h0,by rw[h3];exact h1,by rw[h3];exact kH,by rw[h2];exact h4,by rw[h3];exact h5,by rw[h2,h3];exact h6⟩);have i0:(p0:Int)<4294967296:=by omega
 have i1:(1:Int)<(q0:Int):=by omega
 have heq2:=qX gp p0 HM.out (Nat.lt_trans mF (by decide));rw[decide_eq_true h2,WN.out] at heq2;have CO2:=jh (fun w=>by have h:=Qc p0 mF w;unfold ji words at h;exact h);have XR:=qX gq q0 HQ.out (Nat.lt_trans kH (by decide));rw[decide_eq_true h3,bP.out] at XR;have CO3:=jh (fun w=>by have h:=Qc q0 kH w;unfold ji words at h;exact h);have CP:=jh (fun W=>QO (b:=true) mF (by simp[h4]) W);have CQ:=jh (fun W=>QO (b:=true) kH (by simp[h5]) W);have hp2:2<=p0:=h4.1.1;obtain⟨m,vM⟩:=je (p0-1);have hmI:(p0:Int)-1=(m:Int):=by omega
 have hmb:m<18446744073709551616:=by unfold jf at mF;omega
 have hmw:IntKind.u64.wrap (m:Int)=(m:Int):=by simp[IntKind.wrap,IntKind.bits,IntKind.signed];omega
 obtain⟨r,hr⟩:=je (m%q0);have hrI:(m:Int)%(q0:Int)=(r:Int):=by rw[hr];simp
 have hq00:¬(q0:Int)=0:=by omega
 have hz:(r:Int)=0:=by rw[vM] at hr;omega
 clear hr vM hp2;have hbeq:((r:Int)==0)=true:=by simp;omega
 clear h0 h1 h2 h3 h4 h5 h6 mF kH;refine zM 41 (fun F O9 hcl hbl=>?_);obtain⟨Y7,dA,aA,Z9⟩:=qF hbl EG;obtain⟨X7,Y9,W9,V9⟩:=qF hbl OH;simp only[WN.out] at Y7;simp only[bP.out] at X7;have I5:=jh hcl;clear hcl hbl;refine zL 41 ?_;simp only[zo,zn,zm,zl,Nat.reduceAdd]
 repeat (go_big_quiet_step ((first|(go_at_call 99;with_reducible exact jp I5.out (CO2.out _))|(go_at_call 99;with_reducible exact jp I5.out (CO3.out _))|(go_at_call 100;with_reducible exact jp I5.out (CP.out _))|(go_at_call 100;with_reducible exact jp I5.out (CQ.out _)))))
 refine wpQuiet_nil ?_;refine jS ?_;intro bs w2 hb _ _;clear Y7 dA aA Z9 X7 Y9 W9 V9;obtain⟨EG,OH,U2,B⟩:=vV hb EG OH U2 B;clear hb;simp only[over]
 go_wp2_with fail
 refine bodyPost_ret (v:=.bool true) ?_ rfl (TQ HIS.out B.out)
 simp[results,results25,go_sem]
theorem Prime_any{gp gq gg gh lg:Nat}{fa se:Int}{ks:Value}(hm:gp<jk)(hq:gq<jk)(w:World):
  Calls prog 25 #[Qo gp gq gg gh lg fa se ks] w fun e w'=>∃b,e=.returned (.bool b)/\(b=true->oH gp gq)/\Below w.heap.size w w':=prime_out hm hq w
def PG(c s:Nat):List Value:=[.int .u64 (jg jf c 0),.int .u64 (jg jf c 1),.int .u64 (jg jf c 2),.int .u64 (jg jf c 3),.int .u64 (jg jf s 0),.int .u64 (jg jf s 1),.int .u64 (jg jf s 2),.int .u64 (jg jf s 3)]
def jM(k e v n:Nat)(h:List Nat)(c s:Nat):List Value:=.int .u8 k::.int .u64 e::.int .u32 v::.int .u8 n::(jo .u8 h++PG c s)
def qU(k e v n:Nat)(h:List Nat)(c s:Nat):Value:=.agg (jM k e v n h c s).toArray
theorem qz{k e v n:Nat}{h:List Nat}{c s:Nat}(hl:h.length=32):(jM k e v n h c s).length=44:=by simp[jM,PG,js,hl]
theorem yE(k e v n:Nat)(h:List Nat)(c s:Nat):∀u∈jM k e v n h c s,u.oneCell'=true:=fun u hu=>by
 unfold jM PG at hu;simp only[List.mem_cons,List.mem_append,List.not_mem_nil,or_false] at hu
 rcases hu with rfl|rfl|rfl|rfl|hu|rfl|rfl|rfl|rfl|rfl|rfl|rfl|rfl<;>first|rfl|exact Jx _ _ _ hu
theorem qg:(prog.info? 71).map (·.size)=some 44:=by kernel_rfl
theorem JT(w:World)(L:List Value)(t:TypeId):(w.alloc (.cells L.toArray t)).rangeAt w.heap.size 0 L:=fun j u hj=>by
 rw[Nat.zero_add,cell_of_row _ _ _ _ _ _ jQ]
 simpa using hj
theorem ju{w w':World}{b o:Nat}{L:List Value}(h:w.rangeAt b o L)(hb:Below w.heap.size w w'):w'.rangeAt b o L:=fun j u hj=>jj (h j u hj) hb
theorem DR{w:World}{b o k e v n:Nat}{h:List Nat}{c s:Nat}(hr:w.rangeAt b o (jM k e v n h c s))(hl:h.length=32):
  (Instr.loadAt 71 (.pointer (some ⟨b,o,none⟩))).run prog w=.ok (qU k e v n h c s) w:=
 run_loadAt_mid (P:=prog) w b o 71 (jM k e v n h c s) _ hr underlying71 rfl (by rw[qz hl];exact qg)
section
variable {w:World}{b o k e v n:Nat}{h:List Nat}{c s:Nat}
theorem Qp(hr:w.rangeAt b o (jM k e v n h c s)):w.cell? ⟨b,o,none⟩=some (.int .u8 k):=hr 0 _ rfl
theorem EQ(hr:w.rangeAt b o (jM k e v n h c s)):w.cell? ⟨b,o+1,none⟩=some (.int .u64 e):=hr 1 _ rfl
theorem Qf(hr:w.rangeAt b o (jM k e v n h c s)):w.cell? ⟨b,o+2,none⟩=some (.int .u32 v):=hr 2 _ rfl
theorem Zq(hr:w.rangeAt b o (jM k e v n h c s)):w.cell? ⟨b,o+3,none⟩=some (.int .u8 n):=hr 3 _ rfl
theorem vo_set(hr:w.rangeAt b o (jM k e v n h c s)):w.rangeAt b (o+4) (jo .u8 h):=fun j u hj=>by
 have h9:=hr (j+4) u (by
  unfold jM;simp only[List.getElem?_cons_succ];rw[List.getElem?_append_left (List.getElem?_eq_some_iff.1 hj).1]
  exact hj)
 rw[show o+(j+4)=o+4+j by omega] at h9;exact h9
theorem vo_sig(hr:w.rangeAt b o (jM k e v n h c s))(hl:h.length=32):w.rangeAt b (o+36) (PG c s):=fun j u hj=>by
 have h9:=hr (j+36) u (by
  unfold jM;simp only[show j+36=(j+32)+4 by omega,List.getElem?_cons_succ];rw[List.getElem?_append_right (by rw[js,hl];omega),js,hl,show j+32-32=j by omega]
  exact hj)
 rw[show o+(j+36)=o+36+j by omega] at h9;exact h9
theorem JO(hr:w.rangeAt b o (jM k e v n h c s))(hl:h.length=32):(Instr.loadAt 67 (.pointer (some ⟨b,o+4,none⟩))).run prog w=.ok (.agg (jo .u8 h).toArray) w:=
 run_loadAt_mid (P:=prog) w b (o+4) 67 (jo .u8 h) _ (vo_set hr) underlying67 rfl (by rw[js,hl];exact qR)
end
def JF(k e v n:Nat)(h:List Nat):List Nat:=be 1 k++(be 8 e++(be 4 v++(be 1 n++h)))
section
variable {P:Program}{ops:Array Oper}{rest:List Oper}{o:Oper}{a:Act}{w w':World}{Q:Exit->Act->World->Prop}{v:Value}
theorem jt(hw:Region.wanted o (yielded ops a.tmps)=true)(h:(execOp a.eval o).run P w=.ok (.value v) w)(k:wpList P ops Q rest (a.put o.dst v) w):wpList P ops Q (o::rest) a w:=
 wpList_step fun _ hK=>by
  rw[if_pos hw];unfold Oper.wp;rw[h];exact hK _ _ k
theorem AQ(hw:Region.wanted o (yielded ops a.tmps)=true)(h:(execOp a.eval o).run P w=.ok (.value v) w')(k:wpList P ops Q rest (a.put o.dst v) w'):wpList P ops Q (o::rest) a w:=
 wpList_step fun _ hK=>by
  rw[if_pos hw];unfold Oper.wp;rw[h];exact hK _ _ k
end
theorem qB{P:Program}{o:Oper}{ev:Operand->Value}{w:World}{op:BinOp}{t t':TypeId}{x y:Operand}{vx vy:Array Value}{v:Value}(hm:P.eqGuardType P.depth t=false)(ho:o.op=.binOp op t x y t')(hx:ev x=.agg vx)(hy:ev y=.agg vy)(h:(binOp op t (.agg vx) (.agg vy)).run P w=.ok v w):(execOp ev o).run P w=.ok (.value v) w:=by
 unfold execOp;simp only[ho,hx,hy];rw[Sem.run_bind,Sem.run_bind,run_eqGuard_agg w op t x y vx vy hm,Result.andThen_ok,h]
 rfl
theorem Qk:prog.eqGuardType prog.depth 24=false:=by kernel_rfl
theorem eqg_sig:prog.eqGuardType prog.depth 69=false:=by kernel_rfl
theorem GV:(prog.info? 69).map (·.size)=some 8:=by kernel_rfl
theorem loadSig{w:World}{b o x y:Nat}(h1:Z4 w b o x)(h2:Z4 w b (o+4) y):(Instr.loadAt 69 (.pointer (some ⟨b,o,none⟩))).run prog w=.ok (.agg #[.int .u64 (jg jf x 0),.int .u64 (jg jf x 1),.int .u64 (jg jf x 2),.int .u64 (jg jf x 3),.int .u64 (jg jf y 0),.int .u64 (jg jf y 1),.int .u64 (jg jf y 2),.int .u64 (jg jf y 3)]) w:=by
 have l0:=h1 0 (by decide);have l1:=h1 1 (by decide);have l2:=h1 2 (by decide);have l3:=h1 3 (by decide);have l4:=h2 0 (by decide);have l5:=h2 1 (by decide);have l6:=h2 2 (by decide);have l7:=h2 3 (by decide);simp only[Nat.add_assoc,Nat.reduceAdd] at l4 l5 l6 l7
 exact run_loadAt_mid (P:=prog) w b o 69 [.int .u64 (jg jf x 0),.int .u64 (jg jf x 1),.int .u64 (jg jf x 2),.int .u64 (jg jf x 3),.int .u64 (jg jf y 0),.int .u64 (jg jf y 1),.int .u64 (jg jf y 2),.int .u64 (jg jf y 3)] _ (by
  intro j v hj;have hl:=(List.getElem?_eq_some_iff.1 hj).1;simp only[List.length_cons,List.length_nil] at hl
  rcases(show j=0∨j=1∨j=2∨j=3∨j=4∨j=5∨j=6∨j=7 by omega) with rfl|rfl|rfl|rfl|rfl|rfl|rfl|rfl<;>(simp at hj;subst hj;assumption)) underlying69 rfl GV
theorem VE{w:World}{b x y:Nat}{t:TypeId}(h:w.heap[b]?=some (.cells #[.int .u64 (jg jf x 0),.int .u64 (jg jf x 1),.int .u64 (jg jf x 2),.int .u64 (jg jf x 3),.int .u64 (jg jf y 0),.int .u64 (jg jf y 1),.int .u64 (jg jf y 2),.int .u64 (jg jf y 3)] t (0,0))):Z4 w b 0 x/\Z4 w b 4 y:=
 ⟨fun j hj=>by rw[cell_of_row _ _ _ _ _ _ h];rcases(show j=0∨j=1∨j=2∨j=3 by omega) with rfl|rfl|rfl|rfl<;>rfl,
  fun j hj=>by rw[cell_of_row _ _ _ _ _ _ h];rcases(show j=0∨j=1∨j=2∨j=3 by omega) with rfl|rfl|rfl|rfl<;>rfl⟩
theorem part0(a0 a1 a2 a3 a4 a5 a6 a7:Value)(w:World):(part 24 #[a0,a1,a2,a3,a4,a5,a6,a7] 0).run prog w=.ok (.agg #[a0,a1,a2,a3]) w:=by kernel_rfl
theorem part4(a0 a1 a2 a3 a4 a5 a6 a7:Value)(w:World):(part 24 #[a0,a1,a2,a3,a4,a5,a6,a7] 4).run prog w=.ok (.agg #[a4,a5,a6,a7]) w:=by kernel_rfl
theorem lJ{a b:Nat}(ha:a<jk)(hb:b<jk)(w:World):(Op.equalIn 9999 24 (.agg #[.int .u64 (jg jf a 0),.int .u64 (jg jf a 1),.int .u64 (jg jf a 2),.int .u64 (jg jf a 3)]) (.agg #[.int .u64 (jg jf b 0),.int .u64 (jg jf b 1),.int .u64 (jg jf b 2),.int .u64 (jg jf b 3)])).run prog w=.ok (decide (a=b)) w:=by
 rw[Je w 9997 24 22 .u64 4 underlying24 underlying22 (fun _=>by kernel_rfl) (fun _=>by kernel_rfl) _ _ (fun i=>jg jf a i) (fun i=>jg jf b i) (JP _) (JP _),all_words ha hb]
theorem eq_sig{c s d r:Nat}(hc:c<jk)(hs:s<jk)(hd:d<jk)(hr:r<jk)(w:World):(binOp .eql 69 (.agg #[.int .u64 (jg jf c 0),.int .u64 (jg jf c 1),.int .u64 (jg jf c 2),.int .u64 (jg jf c 3),.int .u64 (jg jf s 0),.int .u64 (jg jf s 1),.int .u64 (jg jf s 2),.int .u64 (jg jf s 3)]) (.agg #[.int .u64 (jg jf d 0),.int .u64 (jg jf d 1),.int .u64 (jg jf d 2),.int .u64 (jg jf d 3),.int .u64 (jg jf r 0),.int .u64 (jg jf r 1),.int .u64 (jg jf r 2),.int .u64 (jg jf r 3)])).run prog w=.ok (.bool (decide (c=d)&&decide (s=r))) w:=by
 simp only[binOp];unfold Op.equal Op.maxDepth;rw[Op.equalIn];simp only[Sem.run_bind,run_underlying underlying69,Result.andThen_ok]
 simp[part0,part4,lJ hc hd,lJ hs hr]
 by_cases h1:c=d<;>by_cases h2:s=r<;>simp[h1,h2]
theorem RD:(prog.info? 33).map (·.size)=some 19:=by kernel_rfl
structure TA(w:World)(b gp gq gg gh:Nat)(fa se:Int)(v:Value):Prop where
 grp:J3 w b gp gq gg gh
 fa:w.cell? ⟨b,16,none⟩=some (.int .i64 fa)
 se:w.cell? ⟨b,17,none⟩=some (.int .i64 se)
 nd:w.cell? ⟨b,18,none⟩=some v
 free:Y0 w b 19
theorem TA.lt{w:World}{b gp gq gg gh:Nat}{fa se:Int}{v:Value}(h:TA w b gp gq gg gh fa se v):b<w.heap.size:=h.grp.lt
theorem TA.later{w w':World}{b gp gq gg gh:Nat}{fa se:Int}{v:Value}(h:TA w b gp gq gg gh fa se v)(hb:Below w.heap.size w w'):TA w' b gp gq gg gh fa se v:=
 ⟨h.grp.later hb,jj h.fa hb,jj h.se hb,jj h.nd hb,h.free.later hb h.lt⟩
theorem EI{w w':World}{b gp gq gg gh:Nat}{row:Option Nat}(h:J3 w b gp gq gg gh)(hg:w.grownBy w' row)(hn:some b≠row):J3 w' b gp gq gg gh:=
 ⟨fun j hj=>hg.cell (h.1 j hj) hn,fun j hj=>hg.cell (h.2.1 j hj) hn,fun j hj=>hg.cell (h.2.2.1 j hj) hn,fun j hj=>hg.cell (h.2.2.2 j hj) hn⟩
theorem zF{w w':World}{b o:Nat}{v:Value}{row:Option Nat}(h:w.cell? ⟨b,o,none⟩=some v)(hg:w.grownBy w' row)(hn:some b≠row):w'.cell? ⟨b,o,none⟩=some v:=hg.cell h hn
theorem Jh{w w':World}{b:Nat}{x:Obj}{row:Option Nat}(h:w.heap[b]?=some x) (hg:w.grownBy w' row) (hn:some b≠row):w'.heap[b]?=some x:=(hg.block b (J6.1 h).1 hn).trans h
theorem TA.keep{w w':World}{b gp gq gg gh:Nat}{fa se:Int}{v:Value}{row:Option Nat}(h:TA w b gp gq gg gh fa se v)(hg:w.grownBy w' row)(hn:some b≠row):TA w' b gp gq gg gh fa se v:=
 ⟨EI h.grp hg hn,hg.cell h.fa hn,hg.cell h.se hn,hg.cell h.nd hn,fun j hj=>(qI (hg.block b h.lt hn)).trans (h.free j hj)⟩
theorem qH{w:World}{b o p:Nat}{x y:Value}(h:w.cell? ⟨b,o,none⟩=some x)(hn:p≠o):(w.setCell ⟨b,p,none⟩ y).cell? ⟨b,o,none⟩=some x:=by
 rw[World.cell?_setCell_other _ _ _ _ (by intro h;injection h;omega)];exact h
theorem TA.set18{w:World}{b gp gq gg gh:Nat}{fa se:Int}{v:Value}(h:TA w b gp gq gg gh fa se v)(v':Value):TA (w.setCell ⟨b,18,none⟩ v') b gp gq gg gh fa se v':=
 ⟨⟨fun j hj=>qH (h.grp.1 j hj) (by omega),fun j hj=>qH (h.grp.2.1 j hj) (by omega),fun j hj=>qH (h.grp.2.2.1 j hj) (by omega),fun j hj=>qH (h.grp.2.2.2 j hj) (by omega)⟩,
  qH h.fa (by decide),qH h.se (by decide),World.cell?_setCell_same _ _ _ h.nd,h.free.set _ _⟩
theorem TA.new(w:World)(gp gq gg gh:Nat)(fa se:Int)(v:Value)(t:TypeId):TA (w.alloc (.cells #[.int .u64 (jg jf gp 0),.int .u64 (jg jf gp 1),.int .u64 (jg jf gp 2),.int .u64 (jg jf gp 3),.int .u64 (jg jf gq 0),.int .u64 (jg jf gq 1),.int .u64 (jg jf gq 2),.int .u64 (jg jf gq 3),.int .u64 (jg jf gg 0),.int .u64 (jg jf gg 1),.int .u64 (jg jf gg 2),.int .u64 (jg jf gg 3),.int .u64 (jg jf gh 0),.int .u64 (jg jf gh 1),.int .u64 (jg jf gh 2),.int .u64 (jg jf gh 3),.int .i64 fa,.int .i64 se,v] t)) w.heap.size gp gq gg gh fa se v:=
 ⟨set_grp,by rw[cell_of_row _ _ _ _ _ _ jQ];rfl,by rw[cell_of_row _ _ _ _ _ _ jQ];rfl,by rw[cell_of_row _ _ _ _ _ _ jQ];rfl,Y0.new _ _ _ _⟩
theorem Qr{w:World}{b gp gq gg gh:Nat}{fa se:Int}{v9:Value}(h:TA w b gp gq gg gh fa se v9):
  (Instr.loadAt 33 (.pointer (some ⟨b,0,none⟩))).run prog w=.ok (zC gp gq gg gh fa se v9) w:=by
 obtain⟨y0,y1,y2,y3,y4,y5,y6,y7,y8,y9,y10,y11,y12,y13,y14,y15⟩:=aQ h.grp;have l0:=h.fa;have l1:=h.se;have l2:=h.nd
 exact run_loadAt_mid (P:=prog) w b 0 33 [.int .u64 (jg jf gp 0),.int .u64 (jg jf gp 1),.int .u64 (jg jf gp 2),.int .u64 (jg jf gp 3),.int .u64 (jg jf gq 0),.int .u64 (jg jf gq 1),.int .u64 (jg jf gq 2),.int .u64 (jg jf gq 3),.int .u64 (jg jf gg 0),.int .u64 (jg jf gg 1),.int .u64 (jg jf gg 2),.int .u64 (jg jf gg 3),.int .u64 (jg jf gh 0),.int .u64 (jg jf gh 1),.int .u64 (jg jf gh 2),.int .u64 (jg jf gh 3),.int .i64 fa,.int .i64 se,v9] _ (by
  intro j v hj;have hl:=(List.getElem?_eq_some_iff.1 hj).1;simp only[List.length_cons,List.length_nil] at hl;rw[Nat.zero_add]
  rcases(show j=0∨j=1∨j=2∨j=3∨j=4∨j=5∨j=6∨j=7∨j=8∨j=9∨j=10∨j=11∨j=12∨j=13∨j=14∨j=15∨j=16∨j=17∨j=18 by omega) with rfl|rfl|rfl|rfl|rfl|rfl|rfl|rfl|rfl|rfl|rfl|rfl|rfl|rfl|rfl|rfl|rfl|rfl|rfl<;>(simp at hj;subst hj;assumption)) underlying33 rfl RD
def qo(ks:List (Nat×Nat)):List Value:=ks.flatMap fun k=>[.int .u64 (jg jf k.1 0),.int .u64 (jg jf k.1 1),.int .u64 (jg jf k.1 2),.int .u64 (jg jf k.1 3),.int .u64 (jg jf k.2 0),.int .u64 (jg jf k.2 1),.int .u64 (jg jf k.2 2),.int .u64 (jg jf k.2 3)]
theorem Zn:∀(ks:List (Nat×Nat)) (i:Nat) (k:Nat×Nat),ks[i]?=some k->(∀j,j<4->(qo ks)[i*8+j]?=some (.int .u64 (jg jf k.1 j)))/\∀j,j<4->(qo ks)[i*8+(4+j)]?=some (.int .u64 (jg jf k.2 j))
 |[],i,k,h=>by simp at h
 |x::ks,0,k,h=>by
  simp at h
  subst h;refine⟨fun j hj=>?_,fun j hj=>?_⟩<;>(rcases(show j=0∨j=1∨j=2∨j=3 by omega) with rfl|rfl|rfl|rfl<;>rfl)
 |x::ks,i+1,k,h=>by
  obtain⟨h1,h2⟩:=Zn ks i k (by simpa using h)
  have e:∀j,(qo (x::ks))[(i+1)*8+j]?=(qo ks)[i*8+j]?:=fun j=>by
   unfold qo;rw[List.flatMap_cons,List.getElem?_append_right (by simp;omega)]
   congr 1
   simp
   omega
  exact⟨fun j hj=>(e j).trans (h1 j hj),fun j hj=>(e (4+j)).trans (h2 j hj)⟩
theorem OD{w:World}{B n:Nat}{v:Value}{ks:List (Nat×Nat)}(h:O1 w B 88 8 v n (qo ks))(hn:n=ks.length)(h0:0<n):∃b o cap,v=.slice (some ⟨b,o,none⟩) n cap/\Y4 w b o ks:=by
 rcases id h.2 with⟨_,h9⟩|⟨g,o,cap,cur,rfl,_⟩
 ·omega
 ·refine⟨g,o,cap,rfl,fun i k hk=>?_⟩;obtain⟨h1,h2⟩:=Zn ks i k hk;exact⟨fun j hj=>by have:=h.cells _ _ (h1 j hj);rw[Addr.add_lit] at this;rw[Nat.add_assoc];exact this,fun j hj=>by have:=h.cells _ _ (h2 j hj);rw[Addr.add_lit] at this;rw[Nat.add_assoc];exact this⟩
theorem O1.shape9{w:World}{B:Nat}{e:TypeId}{size n:Nat}{v:Value}{xs:List Value}(h:O1 w B e size v n xs):∃a c,v=.slice a n c:=by
 rcases h.2 with⟨h1,h2⟩|⟨g,o,cap,cur,h1,_⟩
 ·exact⟨none,0,by rw[h1,h2]⟩
 ·exact⟨_,_,h1⟩
theorem kS(w:World)(g:Nat)(T:Array Value):w.grownBy (w.setRow g T) (some g):=⟨rfl,rfl,rfl,by simp,fun k _ hne=>setRow_other w g k _ (fun e=>hne (by rw[e]))⟩
theorem DK{P:Program}{l:List Oper}{o:Oper}{a:Act}{w:World}{K:Act->World->Prop}{Q:Exit->Act->World->Prop}(hw:Region.wanted o (yielded l.toArray a.tmps)=true)(ty:TypeId)(x y:Operand)(ho:o.op=.store ty x y)(g:Nat)(c T:Array Value)(t:TypeId)
  (hg:w.heap[g]?=some (.cells c t (0,0))) (hx:a.eval x=.pointer (some ⟨g,0,none⟩)) (hy:a.eval y=.agg T) (hi:(P.info? ty).map (·.size)=some T.size) (hc:c.size=T.size) (h1:T.all (·.oneCell')=true) (k:K (a.put o.dst undef) (w.setRow g T)):
  if Region.wanted o (yielded l.toArray a.tmps)=true then Oper.wp P o a w K Q else K (a.put o.dst undef) w:=by
 rw[if_pos hw];unfold Oper.wp execOp;simp only[ho,hx,hy,Sem.run_bind,Instr.storeAt,Instr.sureAddr,Sem.run_pure,Result.andThen_ok,run_storeVar_row w g t ty c T hg hi hc h1];exact k
theorem ZK{w:World}{b o:Nat}{v:Value}(h:w.cell? ⟨b,o,none⟩=some v):(Instr.loadAt 3 (.pointer (some ⟨b,o,none⟩))).run prog w=.ok v w:=by
 simp[go_sem,h]
theorem info_k9:(prog.info? 88).map (fun i=>(i.zero,i.size,i.bytes))=some (some (.agg (Array.replicate 8 (.int .u64 0))),8,64):=by kernel_rfl
theorem src8{w:World}{b:Nat}{x y:Nat}{t:TypeId}(h:w.heap[b]?=some (.cells #[.int .u64 (jg jf x 0),.int .u64 (jg jf x 1),.int .u64 (jg jf x 2),.int .u64 (jg jf x 3),.int .u64 (jg jf y 0),.int .u64 (jg jf y 1),.int .u64 (jg jf y 2),.int .u64 (jg jf y 3)] t (0,0))):ZT w 8 (.slice (some ⟨b,0,none⟩) 1 1) 1 [.int .u64 (jg jf x 0),.int .u64 (jg jf x 1),.int .u64 (jg jf x 2),.int .u64 (jg jf x 3),.int .u64 (jg jf y 0),.int .u64 (jg jf y 1),.int .u64 (jg jf y 2),.int .u64 (jg jf y 3)]:=by
 refine⟨_,_,rfl,rfl,fun u hu=>?_,(fun e=>by cases e),fun ad had j u hu=>?_⟩
 ·simp only[List.mem_cons,List.not_mem_nil,or_false] at hu
  rcases hu with rfl|rfl|rfl|rfl|rfl|rfl|rfl|rfl<;>rfl
 ·cases had
  rw[Addr.add_lit,Nat.zero_add,cell_of_row _ _ _ _ _ _ h];have hl:=(List.getElem?_eq_some_iff.1 hu).1;simp only[List.length_cons,List.length_nil] at hl
  rcases(show j=0∨j=1∨j=2∨j=3∨j=4∨j=5∨j=6∨j=7 by omega) with rfl|rfl|rfl|rfl|rfl|rfl|rfl|rfl<;>exact hu
theorem nM(ks:List (Nat×Nat))(k:Nat×Nat):qo (ks++[k])=qo ks++[.int .u64 (jg jf k.1 0),.int .u64 (jg jf k.1 1),.int .u64 (jg jf k.1 2),.int .u64 (jg jf k.1 3),.int .u64 (jg jf k.2 0),.int .u64 (jg jf k.2 1),.int .u64 (jg jf k.2 2),.int .u64 (jg jf k.2 3)]:=by
 unfold qo;rw[List.flatMap_append]
 simp
theorem Qq{w:World}{b o:Nat}{v:Value}(h:w.cell? ⟨b,o,none⟩=some v):(Instr.loadAt 31 (.pointer (some ⟨b,o,none⟩))).run prog w=.ok v w:=by
 simp[go_sem,h]
theorem info_c9:(prog.info? 29).map (·.size)=some 23:=by kernel_rfl
theorem loadC9{w:World}{b gp gq gg gh lg:Nat}{x y z:Value}(h:J3 w b gp gq gg gh)(h1:Z4 w b 16 lg)(h2:w.cell? ⟨b,20,none⟩=some x)(h3:w.cell? ⟨b,21,none⟩=some y)(h4:w.cell? ⟨b,22,none⟩=some z):
  (Instr.loadAt 29 (.pointer (some ⟨b,0,none⟩))).run prog w=.ok (.agg #[.int .u64 (jg jf gp 0),.int .u64 (jg jf gp 1),.int .u64 (jg jf gp 2),.int .u64 (jg jf gp 3),.int .u64 (jg jf gq 0),.int .u64 (jg jf gq 1),.int .u64 (jg jf gq 2),.int .u64 (jg jf gq 3),.int .u64 (jg jf gg 0),.int .u64 (jg jf gg 1),.int .u64 (jg jf gg 2),.int .u64 (jg jf gg 3),.int .u64 (jg jf gh 0),.int .u64 (jg jf gh 1),.int .u64 (jg jf gh 2),.int .u64 (jg jf gh 3),.int .u64 (jg jf lg 0),.int .u64 (jg jf lg 1),.int .u64 (jg jf lg 2),.int .u64 (jg jf lg 3),x,y,z]) w:=by
 obtain⟨y0,y1,y2,y3,y4,y5,y6,y7,y8,y9,y10,y11,y12,y13,y14,y15⟩:=aQ h;have l0:=h1 0 (by decide);have l1:=h1 1 (by decide);have l2:=h1 2 (by decide);have l3:=h1 3 (by decide);simp only[Nat.reduceAdd] at l0 l1 l2 l3
 exact run_loadAt_mid (P:=prog) w b 0 29 [.int .u64 (jg jf gp 0),.int .u64 (jg jf gp 1),.int .u64 (jg jf gp 2),.int .u64 (jg jf gp 3),.int .u64 (jg jf gq 0),.int .u64 (jg jf gq 1),.int .u64 (jg jf gq 2),.int .u64 (jg jf gq 3),.int .u64 (jg jf gg 0),.int .u64 (jg jf gg 1),.int .u64 (jg jf gg 2),.int .u64 (jg jf gg 3),.int .u64 (jg jf gh 0),.int .u64 (jg jf gh 1),.int .u64 (jg jf gh 2),.int .u64 (jg jf gh 3),.int .u64 (jg jf lg 0),.int .u64 (jg jf lg 1),.int .u64 (jg jf lg 2),.int .u64 (jg jf lg 3),x,y,z] _ (by
  intro j v hj;have hl:=(List.getElem?_eq_some_iff.1 hj).1;simp only[List.length_cons,List.length_nil] at hl;rw[Nat.zero_add]
  rcases(show j=0∨j=1∨j=2∨j=3∨j=4∨j=5∨j=6∨j=7∨j=8∨j=9∨j=10∨j=11∨j=12∨j=13∨j=14∨j=15∨j=16∨j=17∨j=18∨j=19∨j=20∨j=21∨j=22 by omega) with rfl|rfl|rfl|rfl|rfl|rfl|rfl|rfl|rfl|rfl|rfl|rfl|rfl|rfl|rfl|rfl|rfl|rfl|rfl|rfl|rfl|rfl|rfl<;>(simp at hj;subst hj;assumption)) underlying29 rfl info_c9
theorem info_s9:(prog.info? 86).map (·.size)=some 8:=by kernel_rfl
theorem loadK9{w:World}{b o x y:Nat}(h1:Z4 w b o x)(h2:Z4 w b (o+4) y):(Instr.loadAt 86 (.pointer (some ⟨b,o,none⟩))).run prog w=.ok (.agg #[.int .u64 (jg jf x 0),.int .u64 (jg jf x 1),.int .u64 (jg jf x 2),.int .u64 (jg jf x 3),.int .u64 (jg jf y 0),.int .u64 (jg jf y 1),.int .u64 (jg jf y 2),.int .u64 (jg jf y 3)]) w:=by
 have l0:=h1 0 (by decide);have l1:=h1 1 (by decide);have l2:=h1 2 (by decide);have l3:=h1 3 (by decide);have l4:=h2 0 (by decide);have l5:=h2 1 (by decide);have l6:=h2 2 (by decide);have l7:=h2 3 (by decide);simp only[Nat.add_assoc,Nat.reduceAdd] at l4 l5 l6 l7
 exact run_loadAt_mid (P:=prog) w b o 86 [.int .u64 (jg jf x 0),.int .u64 (jg jf x 1),.int .u64 (jg jf x 2),.int .u64 (jg jf x 3),.int .u64 (jg jf y 0),.int .u64 (jg jf y 1),.int .u64 (jg jf y 2),.int .u64 (jg jf y 3)] _ (by
  intro j v hj;have hl:=(List.getElem?_eq_some_iff.1 hj).1;simp only[List.length_cons,List.length_nil] at hl
  rcases(show j=0∨j=1∨j=2∨j=3∨j=4∨j=5∨j=6∨j=7 by omega) with rfl|rfl|rfl|rfl|rfl|rfl|rfl|rfl<;>(simp at hj;subst hj;assumption)) underlying86 rfl info_s9
theorem loadSl{w:World}{b o:Nat}{v:Value}(h:w.cell? ⟨b,o,none⟩=some v):(Instr.loadAt 27 (.pointer (some ⟨b,o,none⟩))).run prog w=.ok v w:=by
 simp[go_sem,h]
end Go.Proofs.YtpkalgofejjggaaGreatDoor
