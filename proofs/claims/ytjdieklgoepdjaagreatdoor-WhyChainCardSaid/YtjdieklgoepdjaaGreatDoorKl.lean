import Derived.Test.YtjdieklgoepdjaaGreatDoorKk
import Derived.Test.YtjdieklgoepdjaaGreatDoorKf
import Derived.Test.YtjdieklgoepdjaaGreatDoorKp
import Derived.Test.YtjdieklgoepdjaaGreatDoorKd
set_option linter.unusedVariables false
set_option linter.unusedSimpArgs false
set_option maxRecDepth 100000
/- The reference: needs by name; an index's text is a text. -/
namespace Go.Proofs.YtjdieklgoepdjaaGreatDoor
open Go Go.Vc Go.Scr Go.Slv
structure SoS where
 i:Nat
 l:List NeedP
 a:Option Addr
 cap:Nat
set_option maxHeartbeats 4000000 in
theorem rsorted_any (L:List NeedP) (a:Option Addr) (n cap:Nat) (H0 H:Heap) (k0:Ext H0 H) (hr:RowE needE H0 a L) (hn:L.length=n) (hnl:n≤10000):
  CallH Tryz.prog 102 [.slice a n cap] H fun x H'=>(∃ l a' c',x= .slice a' (List.length l) c'∧l.length=n∧(∀ y∈l,y∈L)∧RowE (constE needE H0) H' a' l)∧Ext H H':=by
 have ok:=const_ok need_ok H0
 refine Vc.CallH.body Tryz.func102 Tryz.call102 rfl (by decide+kernel) rfl ?_
 ((conv=>whnf);repeat(any_goals((first|refine Vc.stp ?_)<;>(intros;(conv=>whnf)))))
 refine LoopH.intro (fun(x:SoS)=>[(4,.int .i64 x.i),(3,.slice x.a x.l.length x.cap)]) (fun x H'=>x.i≤n∧x.l.length=x.i∧(∀ y∈x.l,y∈L)∧OwnE (constE needE H0) 4 H' H.size 45 x.a x.l x.cap∧Ext H H') (fun x=>n-x.i) ⟨0,[],none,0⟩ ⟨rfl,rfl,trivial⟩ ⟨Nat.zero_le _,rfl,fun y h=>(by cases h),OwnE.nil _ _ _ _ _,Ext.refl _⟩ ?_
 rintro⟨i,l,oa,oc⟩ H1 ⟨hi,hll,hsub,ho1,hx1⟩
 dsimp only at hi hll hsub ho1 ⊢
 have hz1:=hx1.size
 have hcl:=ho1.cap_le
 by_cases hlt:i<n
 ·obtain⟨nd,hnd⟩: ∃ nd,L[i]? =some nd:=⟨_,List.getElem?_eq_getElem (by omega)⟩
  ((conv=>whnf);repeat(any_goals((first|refine Vc.stp ?_)<;>(intros;(conv=>whnf)))))
  refine LoopH.intro (fun(t:Nat)=>[(5,.int .i64 t)]) (fun t H'=>H1=H'∧t≤l.length) (fun t=>t) l.length ⟨rfl,trivial⟩ ⟨rfl,Nat.le_refl _⟩ ?_
  rintro t _ ⟨rfl,ht⟩
  have htl:(l.take t).length=t:=by rw[List.length_take];omega
  have hdl:(l.drop t).length=l.length-t:=List.length_drop
  have hN:=(RowE.const hr).ext ok.ok (k0.trans hx1)
  by_cases h0:0<t
  ·obtain⟨x,hx⟩: ∃ x,l[t-1]? =some x:=⟨_,List.getElem?_eq_getElem (by omega)⟩
   obtain⟨C,hC⟩: ∃ C,(Op.bytesLess (mkS x.name).toList (mkS nd.name).toList || (mkS x.name).toList==(mkS nd.name).toList)=C:=⟨_,rfl⟩
   cases C with
   |false=>
    ((conv=>whnf);repeat(any_goals((first|(refine IdxA.need (H0:=H0) ho1.row rfl (t-1) x (by omega) hx ?_;intro _ _ _ hcx _ hc0)|(refine IdxA.need (H0:=H0) hN hn i nd rfl hnd ?_;intro bn on cn hcn hcl2 hc1)|refine Vc.stp ?_)<;>(intros;(conv=>whnf)))))
    exact⟨t-1,⟨by show Value.int _ _=Value.int _ _;congr 1;omega,trivial⟩,⟨rfl,by omega⟩,by omega⟩
   |true=>
    ((conv=>whnf);repeat(any_goals((first|(refine IdxA.need (H0:=H0) ho1.row rfl (t-1) x (by omega) hx ?_;intro _ _ _ hcx _ hc0)|(refine IdxA.need (H0:=H0) hN hn i nd rfl hnd ?_;intro bn on cn hcn hcl2 hc1)|(refine BndH.nat t rfl (by omega) ?_)|((with_reducible apply SemH.load_need);(exact need_ok.len hcn);(exact hcl2);(exact Ext.refl _);(conv=>whnf))|(refine SemH.lit (vs:=[.agg cn.toArray]) rfl rfl rfl rfl rfl rfl (by(show(Nat.beq cn.toArray.size 4&&true)=true;rw[List.size_toArray,need_ok.len hcn];rfl)) ?_;intro H5 z5 b5' x5;have b5:Blk H5 H1.size cn.toArray 45:=(by simpa [Value.cells]using b5'))|(have:=ho7;refine NextH.full1 ok.ok rfl ⟨_,rfl,fun _ h=>by cases h⟩ rfl rfl rfl rfl (by decide) ((ho1.row.ext ok.ok hx17).take ok.ok t) (by rw[List.length_take];omega) ho7.row (by rw[List.length_cons,List.length_drop];omega) (by omega) (by omega) ?_;intro c8 H8 ho8 hx8;have hz8:=hx8.size)|(refine NextH.pre1 ok (c:=cn) (x:=nd) rfl ⟨_,rfl,fun _ h=>by cases h⟩ rfl rfl rfl rfl (by decide) id b5 hcn ((ho1.row.ext ok.ok x5).drop ok.ok oc t (fun e=>by omega)) List.length_drop (by omega) ?_;intro a7 c7 H7 ho7 hw7;have hx17:Ext H1 H7:=x5.but hw7 (by omega);have hz7:=hx17.size)|refine Vc.stp ?_)<;>(intros;(conv=>whnf)))))
    have hlen2:(l.take t++nd::l.drop t).length=t+(1+(l.length-t)):=(by rw[List.length_append,List.length_take,List.length_cons,List.length_drop];omega);exact⟨⟨i+1,l.take t++nd::l.drop t,some ⟨H7.size,0,none⟩,c8⟩,⟨rfl,by(show Value.slice _ _ _=Value.slice _ _ _;rw[hlen2]),trivial⟩,⟨by(show i+1≤n;omega),by(show(l.take t++nd::l.drop t).length=i+1;omega),fun y hy=>(List.mem_append.1 hy).elim (fun h=>hsub y (List.mem_of_mem_take h)) (fun h=>(List.mem_cons.1 h).elim (fun e=>e▸List.mem_of_getElem? hnd) (fun h=>hsub y (List.mem_of_mem_drop h))),ho8.base (by omega),hx1.trans (hx17.trans hx8)⟩,by(show n-(i+1)<n-i;omega)⟩
  ·((conv=>whnf);repeat(any_goals((first|(refine IdxA.need (H0:=H0) ho1.row rfl (t-1) x (by omega) hx ?_;intro _ _ _ hcx _ hc0)|(refine IdxA.need (H0:=H0) hN hn i nd rfl hnd ?_;intro bn on cn hcn hcl2 hc1)|(refine BndH.nat t rfl (by omega) ?_)|((with_reducible apply SemH.load_need);(exact need_ok.len hcn);(exact hcl2);(exact Ext.refl _);(conv=>whnf))|(refine SemH.lit (vs:=[.agg cn.toArray]) rfl rfl rfl rfl rfl rfl (by(show(Nat.beq cn.toArray.size 4&&true)=true;rw[List.size_toArray,need_ok.len hcn];rfl)) ?_;intro H5 z5 b5' x5;have b5:Blk H5 H1.size cn.toArray 45:=(by simpa [Value.cells]using b5'))|(have:=ho7;refine NextH.full1 ok.ok rfl ⟨_,rfl,fun _ h=>by cases h⟩ rfl rfl rfl rfl (by decide) ((ho1.row.ext ok.ok hx17).take ok.ok t) (by rw[List.length_take];omega) ho7.row (by rw[List.length_cons,List.length_drop];omega) (by omega) (by omega) ?_;intro c8 H8 ho8 hx8;have hz8:=hx8.size)|(refine NextH.pre1 ok (c:=cn) (x:=nd) rfl ⟨_,rfl,fun _ h=>by cases h⟩ rfl rfl rfl rfl (by decide) id b5 hcn ((ho1.row.ext ok.ok x5).drop ok.ok oc t (fun e=>by omega)) List.length_drop (by omega) ?_;intro a7 c7 H7 ho7 hw7;have hx17:Ext H1 H7:=x5.but hw7 (by omega);have hz7:=hx17.size)|refine Vc.stp ?_)<;>(intros;(conv=>whnf)))))
   have hlen2:(l.take t++nd::l.drop t).length=t+(1+(l.length-t)):=(by rw[List.length_append,List.length_take,List.length_cons,List.length_drop];omega);exact⟨⟨i+1,l.take t++nd::l.drop t,some ⟨H7.size,0,none⟩,c8⟩,⟨rfl,by(show Value.slice _ _ _=Value.slice _ _ _;rw[hlen2]),trivial⟩,⟨by(show i+1≤n;omega),by(show(l.take t++nd::l.drop t).length=i+1;omega),fun y hy=>(List.mem_append.1 hy).elim (fun h=>hsub y (List.mem_of_mem_take h)) (fun h=>(List.mem_cons.1 h).elim (fun e=>e▸List.mem_of_getElem? hnd) (fun h=>hsub y (List.mem_of_mem_drop h))),ho8.base (by omega),hx1.trans (hx17.trans hx8)⟩,by(show n-(i+1)<n-i;omega)⟩
 ·obtain rfl:i=n:=by omega
  ((conv=>whnf);repeat(any_goals((first|refine Vc.stp ?_)<;>(intros;(conv=>whnf)))))
  exact⟨⟨l,oa,oc,rfl,hll,hsub,ho1.row⟩,hx1⟩
structure ItB (R:List RowP):Prop where
 size: ∀ r∈R,∃ k:Nat,r.size=(k:Int)∧k≤1000000000
 name: ∀ r∈R,r.name.length≤100
 need: ∀ r∈R,r.needs.length≤10∧ ∀ n∈r.needs,n.name.length≤100∧n.text.length≤100
structure ItS where
 i:Nat
 s:ByteArray
theorem verT_len {v:VerP} (h:VerS v):(Slv.verT v).length≤1200:=by
 have h1:=preT_small h.len h.pre
 have b:=verS_b h
 have l1:=itoa_len (v.ma:Int) ⟨by omega,by have:=b.ma;omega⟩
 have l2:=itoa_len (v.mi:Int) ⟨by omega,by have:=b.mi;omega⟩
 have l3:=itoa_len (v.pa:Int) ⟨by omega,by have:=b.pa;omega⟩
 unfold Slv.verT Slv.numT
 simp only[List.length_append,List.length_cons]
 omega
set_option maxHeartbeats 4000000 in
theorem rindex_any (R:List RowP) (hRB:RowsB R) (hI:ItB R) (a:Option Addr) (n cap:Nat) (H:Heap) (hr:RowE rowE H a R) (hn:R.length=n) (hnl:n≤100):
  CallH Tryz.prog 50 [.slice a n cap] H fun v H'=>(∃ s,v= .string s)∧Ext H H':=by
 refine Vc.CallH.body Tryz.func50 Tryz.call50 rfl (by decide+kernel) rfl ?_
 ((conv=>whnf);repeat(any_goals((first|((with_reducible refine Vc.DrawH.held [0,1,2,3,4,5,6,7,8,9,10,11,12,13,17,18,19,20,21,25,26,27,28,29,14,15,16,22,23,24,30,31,32,33] [(14,[6,21,29]),(22,[6,29]),(30,[6])] mixed (by decide+kernel) ?_))|refine Vc.stp ?_)<;>(intros;(conv=>whnf)))))
 refine LoopH.intro (fun(x:ItS)=>[(4,.int .i64 x.i),(3,.string x.s)]) (fun x H'=>x.i≤n∧x.s.size≤10000*x.i∧Ext H H') (fun x=>n-x.i) ⟨0,⟨#[]⟩⟩ ⟨rfl,rfl,trivial⟩ ⟨Nat.zero_le _,Nat.le_refl _,Ext.refl _⟩ ?_
 rintro⟨i,s⟩ H1 ⟨hi,hs,hx1⟩
 dsimp only at hi hs ⊢
 have hz1:=hx1.size
 by_cases hlt:i<n
 ·obtain⟨r,hri⟩: ∃ r,R[i]? =some r:=⟨_,List.getElem?_eq_getElem (by omega)⟩
  have hm:=List.mem_of_getElem? hri
  obtain⟨sz,hsz,hszl⟩:=hI.size r hm
  have hnm:=hI.name r hm
  obtain⟨hnn,hnt⟩:=hI.need r hm
  have hvs:=hRB.small r hm
  have hvb:=verS_b hvs
  have hvl:=verT_len hvs
  have hpt:=preT_small hvs.len hvs.pre
  have hdl:=itoa_len (sz:Int) ⟨by omega,by omega⟩
  obtain⟨bi,oi,ci,hcR,hcl,hix⟩:=hr.fix row_ok (by decide) hn hri
  obtain⟨pa,pc,na,nc,ec,h32,hpl,hpr,hnl2,hnr⟩:=(id hcR)
  have hc0:hcell H ⟨bi,oi+0,none⟩=some (Value.string (mkS r.name)):=hcl 0 _ (by rw[ec];rfl)
  have hlast:=row_last ec (by rw[strV_length];exact h32)
  have hc37:hcell H ⟨bi,oi+37,none⟩=some (Value.int .i64 r.size):=hcl 37 _ hlast.1
  have hc38:hcell H ⟨bi,oi+38,none⟩=some (Value.slice na r.needs.length nc):=hcl 38 _ hlast.2
  have hrv: ∀ (k:Nat) (u:Value),([.int .i64 r.v.ma,.int .i64 r.v.mi,.int .i64 r.v.pa,.slice pa r.v.pre.length pc]:List Value)[k]? =some u→hcell H ⟨bi,oi+1+k,none⟩=some u:=(fun k u hu=>by rw[Nat.add_assoc];exact hcl (1+k) u (by rw[Nat.add_comm 1 k];exact row_ver ec k u hu))
  have hrs: ∀ (k:Nat) (u:Value),(strV r.sum)[k]? =some u→hcell H ⟨bi,oi+5+k,none⟩=some u:=(fun k u hu=>by rw[Nat.add_assoc];exact hcl (5+k) u (row_sum ec k u hu))
  have hhl:=hexL_length r.sum
  ((conv=>whnf);repeat(any_goals((first|((with_reducible refine Vc.DrawH.held [0,1,2,3,4,5,6,7,8,9,10,11,12,13,17,18,19,20,21,25,26,27,28,29,14,15,16,22,23,24,30,31,32,33] [(14,[6,21,29]),(22,[6,29]),(30,[6])] mixed (by decide+kernel) ?_))|refine Vc.stq ?_|refine Vc.spl ?_ ?_)<;>(intros;(conv=>whnf)))))
  refine Vc.SeqH.go ?_
  ((conv=>whnf);repeat(any_goals((first|((with_reducible refine Vc.DrawH.held [0,1,2,3,4,5,6,7,8,9,10,11,12,13,17,18,19,20,21,25,26,27,28,29,14,15,16,22,23,24,30,31,32,33] [(14,[6,21,29]),(22,[6,29]),(30,[6])] mixed (by decide+kernel) ?_))|refine Vc.stq ?_|refine Vc.spl ?_ ?_)<;>(intros;(conv=>whnf)))))
  refine Vc.SeqH.go ?_
  ((conv=>whnf);repeat(any_goals((first|((with_reducible refine Vc.DrawH.held [0,1,2,3,4,5,6,7,8,9,10,11,12,13,17,18,19,20,21,25,26,27,28,29,14,15,16,22,23,24,30,31,32,33] [(14,[6,21,29]),(22,[6,29]),(30,[6])] mixed (by decide+kernel) ?_))|refine Vc.stq ?_|refine Vc.spl ?_ ?_)<;>(intros;(conv=>whnf)))))
  refine SeqH.cut (fun(t:ByteArray)=>[(3,.string t)]) (fun t H'=>t.size≤10000*i+3000∧Ext H1 H') ?_ ?_
  ·((conv=>whnf);repeat(any_goals((first|(refine hix _ _ rfl ?_)|(refine Vc.StillsH.load rfl rfl rfl rfl rfl rfl (by first|exact SemH.load_ver hrv (hx1.trans (by exact Vc.xt)) rfl|exact SemH.load_key2 h32 hrs (hx1.trans (by exact Vc.xt)) rfl|exact SemH.load_old rfl hc37 (hx1.trans (by exact Vc.xt)) rfl|exact SemH.load_old rfl hc0 (hx1.trans (by exact Vc.xt)) rfl) ?_)|(refine NeedH.mk ⟨by(simp only[ByteArray.size_append,szL2,szM2,hexL_length,List.length_cons,List.length_nil];omega),?_⟩)|((with_reducible apply SemH.load_ver);(exact hrv);(exact hx1.trans (by exact Vc.xt));(conv=>whnf))|((with_reducible apply SemH.load_key2);(exact h32);(exact hrs);(exact hx1.trans (by exact Vc.xt));(conv=>whnf))|(refine(rvtext_any r.v ⟨hvb.ma,hvb.mi,hvb.pa,hvb.len⟩ (by omega) _ _ _ (hpr.ext (hx1.trans (by exact Vc.xt)))).mono ?_;rintro _ Hv ⟨rfl,hxv⟩;have hzv:=hxv.size)|(refine(rhex_any r.sum h32 _).mono ?_;rintro _ Hh ⟨rfl,hxh⟩;have hzh:=hxh.size)|(rw[hsz];refine(rdec_any sz (by omega) _).mono ?_;rintro _ _ ⟨rfl,rfl⟩)|((with_reducible refine Vc.DrawH.held [0,1,2,3,4,5,6,7,8,9,10,11,12,13,17,18,19,20,21,25,26,27,28,29,14,15,16,22,23,24,30,31,32,33] [(14,[6,21,29]),(22,[6,29]),(30,[6])] mixed (by decide+kernel) ?_))|refine Vc.stp ?_)<;>(intros;(conv=>whnf)))))
   all_goals exact⟨_,⟨rfl,trivial⟩,by(simp only[ByteArray.size_append,szL2,szM2,hhl,h32,List.length_cons,List.length_nil];omega),by exact Vc.xt⟩
  rintro t H2 ⟨ht,hx2⟩
  have hz2:=hx2.size
  have hx02:Ext H H2:=hx1.trans hx2
  ((conv=>whnf);repeat(any_goals((first|(refine hix _ _ rfl ?_)|(refine(rsorted_any r.needs na r.needs.length nc H _ hx02 hnr rfl (by omega)).mono ?_;rintro _ H3 ⟨⟨l,la,lc,rfl,hll,hlm,hlr⟩,hx3⟩;have hz3:=hx3.size)|((with_reducible refine Vc.DrawH.held [0,1,2,3,4,5,6,7,8,9,10,11,12,13,17,18,19,20,21,25,26,27,28,29,14,15,16,22,23,24,30,31,32,33] [(14,[6,21,29]),(22,[6,29]),(30,[6])] mixed (by decide+kernel) ?_))|refine Vc.stp ?_)<;>(intros;(conv=>whnf)))))
  refine LoopH.intro (fun(x:ItS)=>[(6,.int .i64 x.i),(3,.string x.s)]) (fun x H'=>x.i≤l.length∧x.s.size≤10000*i+3000+300*x.i∧H3=H') (fun x=>l.length-x.i) ⟨0,t⟩ ⟨rfl,rfl,trivial⟩ ⟨Nat.zero_le _,ht,rfl⟩ ?_
  rintro⟨k,u⟩ _ ⟨hk,hu,rfl⟩
  dsimp only at hk hu ⊢
  by_cases hkl:k<l.length
  ·obtain⟨nd,hnd⟩: ∃ nd,l[k]? =some nd:=⟨_,List.getElem?_eq_getElem hkl⟩
   have hnb:=hnt nd (hlm nd (List.mem_of_getElem? hnd))
   obtain⟨b2,o2,c2,hc2,hcl2,hix2⟩:=hlr.fix (const_ok need_ok H).ok (by decide) rfl hnd
   obtain⟨_,_,e2,_⟩:=(id hc2)
   have hd0:hcell H3 ⟨b2,o2+0,none⟩=some (Value.string (mkS nd.name)):=hcl2 0 _ (by rw[e2];rfl)
   have hd3:hcell H3 ⟨b2,o2+3,none⟩=some (Value.string (mkS nd.text)):=hcl2 3 _ (by rw[e2];rfl)
   ((conv=>whnf);repeat(any_goals((first|(refine hix2 _ _ rfl ?_)|(refine NeedH.mk ⟨by(simp only[ByteArray.size_append,szL2,szM2,hexL_length,List.length_cons,List.length_nil];omega),?_⟩)|((with_reducible refine Vc.DrawH.held [0,1,2,3,4,5,6,7,8,9,10,11,12,13,17,18,19,20,21,25,26,27,28,29,14,15,16,22,23,24,30,31,32,33] [(14,[6,21,29]),(22,[6,29]),(30,[6])] mixed (by decide+kernel) ?_))|refine Vc.stp ?_)<;>(intros;(conv=>whnf)))))
   exact⟨⟨k+1,_⟩,⟨rfl,rfl,trivial⟩,⟨hkl,by(dsimp only;simp only[ByteArray.size_append,szL2,szM2,List.length_cons,List.length_nil];omega),rfl⟩,by show l.length-(k+1)<l.length-k;omega⟩
  ·obtain rfl:k=l.length:=by omega
   ((conv=>whnf);repeat(any_goals((first|((with_reducible refine Vc.DrawH.held [0,1,2,3,4,5,6,7,8,9,10,11,12,13,17,18,19,20,21,25,26,27,28,29,14,15,16,22,23,24,30,31,32,33] [(14,[6,21,29]),(22,[6,29]),(30,[6])] mixed (by decide+kernel) ?_))|refine Vc.stp ?_)<;>(intros;(conv=>whnf)))))
   exact⟨⟨i+1,u⟩,⟨rfl,rfl,trivial⟩,⟨hlt,by(dsimp only;omega),hx02.trans hx3⟩,by show n-(i+1)<n-i;omega⟩
 ·obtain rfl:i=n:=by omega
  ((conv=>whnf);repeat(any_goals((first|((with_reducible refine Vc.DrawH.held [0,1,2,3,4,5,6,7,8,9,10,11,12,13,17,18,19,20,21,25,26,27,28,29,14,15,16,22,23,24,30,31,32,33] [(14,[6,21,29]),(22,[6,29]),(30,[6])] mixed (by decide+kernel) ?_))|refine Vc.stp ?_)<;>(intros;(conv=>whnf)))))
  exact⟨⟨s,rfl⟩,hx1⟩
def anyE (_:Heap) (x:Value) (c:List Value):Prop:=c=[x]∧plainV x=true
theorem anyE_ok:EncT anyE 1 (fun _=>False):=⟨fun⟨e,_⟩=>by rw[e];rfl,fun⟨e,h⟩ u hu=>by rw[e]at hu;simp at hu;rw[hu];exact h,fun _ _ h=>h⟩
def rowC (k:Bs) (v:VerP) (pa:Option Addr) (pc:Nat) (sum:List UInt8) (sz:Nat) (na:Option Addr) (nn nc:Nat):List Value:=[.string (mkS k),.int .i64 v.ma,.int .i64 v.mi,.int .i64 v.pa,.slice pa v.pre.length pc]++strV sum++[.int .i64 (sz:Int),.slice na nn nc]
theorem PureH.build4 {P:Program} {t:TypeId} {l:List Nat} {v v' v'' w:Value} {K:Value→Prop} (cells:Array Value) (h:P.built t (l.zip [v,v',v'',w])=some cells) (hk:K (.agg cells)):PureH P (Instr.build t (l.zip [v,v',v'',w]).toArray) K:=PureH.build cells h hk
theorem row_built {s:Bs} {v:VerP} {l:List UInt8} {a:Option Addr} {c:Nat} {z:Nat} (h:l.length=32):Go.Program.built Tryz.prog 54 [(0,.string (mkS s)),(1,verC v a c),(2,.agg (strV l).toArray),(3,.int .i64 (z:Int))]=some (rowC s v a c l z none 0 0).toArray:=by
 obtain⟨b0,l0,rfl,h0⟩:=uncons32 h
 obtain⟨b1,l1,rfl,h1⟩:=uncons32 h0
 obtain⟨b2,l2,rfl,h2⟩:=uncons32 h1
 obtain⟨b3,l3,rfl,h3⟩:=uncons32 h2
 obtain⟨b4,l4,rfl,h4⟩:=uncons32 h3
 obtain⟨b5,l5,rfl,h5⟩:=uncons32 h4
 obtain⟨b6,l6,rfl,h6⟩:=uncons32 h5
 obtain⟨b7,l7,rfl,h7⟩:=uncons32 h6
 obtain⟨b8,l8,rfl,h8⟩:=uncons32 h7
 obtain⟨b9,l9,rfl,h9⟩:=uncons32 h8
 obtain⟨b10,l10,rfl,h10⟩:=uncons32 h9
 obtain⟨b11,l11,rfl,h11⟩:=uncons32 h10
 obtain⟨b12,l12,rfl,h12⟩:=uncons32 h11
 obtain⟨b13,l13,rfl,h13⟩:=uncons32 h12
 obtain⟨b14,l14,rfl,h14⟩:=uncons32 h13
 obtain⟨b15,l15,rfl,h15⟩:=uncons32 h14
 obtain⟨b16,l16,rfl,h16⟩:=uncons32 h15
 obtain⟨b17,l17,rfl,h17⟩:=uncons32 h16
 obtain⟨b18,l18,rfl,h18⟩:=uncons32 h17
 obtain⟨b19,l19,rfl,h19⟩:=uncons32 h18
 obtain⟨b20,l20,rfl,h20⟩:=uncons32 h19
 obtain⟨b21,l21,rfl,h21⟩:=uncons32 h20
 obtain⟨b22,l22,rfl,h22⟩:=uncons32 h21
 obtain⟨b23,l23,rfl,h23⟩:=uncons32 h22
 obtain⟨b24,l24,rfl,h24⟩:=uncons32 h23
 obtain⟨b25,l25,rfl,h25⟩:=uncons32 h24
 obtain⟨b26,l26,rfl,h26⟩:=uncons32 h25
 obtain⟨b27,l27,rfl,h27⟩:=uncons32 h26
 obtain⟨b28,l28,rfl,h28⟩:=uncons32 h27
 obtain⟨b29,l29,rfl,h29⟩:=uncons32 h28
 obtain⟨b30,l30,rfl,h30⟩:=uncons32 h29
 obtain⟨b31,l31,rfl,h31⟩:=uncons32 h30
 rw[List.eq_nil_of_length_eq_zero h31]
 kernel_rfl
theorem rowC_len {s:Bs} {v:VerP} {l:List UInt8} {a na:Option Addr} {c z nn nc:Nat} (h:l.length=32):(rowC s v a c l z na nn nc).length=39:=by
 unfold rowC;simp[strV,h]
theorem rowC_plain {s:Bs} {v:VerP} {l:List UInt8} {a na:Option Addr} {c z nn nc:Nat}: ∀ u∈rowC s v a c l z na nn nc,plainV u=true:=fun u hu=>by
 unfold rowC at hu
 simp[strV]at hu
 rcases hu with rfl|rfl|rfl|rfl|rfl|⟨_,_,rfl⟩|rfl|rfl<;>rfl
theorem of_part {H:Heap} {g:Nat} {B:List UInt8} {ba:Option Addr} {bc:Nat} {t:TypeId} (hb:Blk H g #[.slice ba B.length bc] t) (hc:B.length≤bc) (hr:Row H ba (strV B)) (hl:B.length≤10000000):
  CallH Tryz.prog 48 [.slice (some ⟨g,0,none⟩) 1 1] H fun v H'=>(∃ sm:List UInt8,sm.length=32∧v= .agg (strV sm).toArray)∧Ext H H':=by
 refine(shaof_any [⟨ba,B.length,bc,B⟩] _ 1 1 _ (parts1 (p:=⟨ba,B.length,bc,B⟩) hb ⟨rfl,hc,hr⟩) rfl (by decide) (by rw[allL_one];show B.length≤_;omega)).mono ?_
 rintro _ H' ⟨rfl,hx⟩
 exact⟨⟨_,sumL_length _,rfl⟩,hx⟩
theorem rem12 {j:Nat} {K:Int→Prop} (hk:K ((j % 12:Nat):Int)):RemH (j:Int) 12 K:=by
 refine⟨by omega,?_⟩
 rw[Int.tmod_eq_emod_of_nonneg (by omega),show((j:Int) % 12)=((j % 12:Nat):Int)by simp]
 exact hk
theorem rowC_set8 {s:Bs} {v:VerP} {l:List UInt8} {a na:Option Addr} {c z nn nc:Nat} {b:UInt8} (h:l.length=32):(rowC s v a c l z na nn nc).set 8 (.int .u8 b.toNat)=rowC s v a c (l.set 3 b) z na nn nc:=by
 unfold rowC
 rw[List.set_append,if_pos (by rw[List.length_append,strV_length,h];show 8<5+32;decide),List.set_append,if_neg (by show ¬8<5;decide)]
 congr 2
 unfold strV
 rw[List.map_set]
 rfl
theorem rowC_set37 {s:Bs} {v:VerP} {l:List UInt8} {a na:Option Addr} {c z z' nn nc:Nat} (h:l.length=32):(rowC s v a c l z na nn nc).set 37 (.int .i64 (z':Int))=rowC s v a c l z' na nn nc:=by
 unfold rowC
 rw[List.set_append,if_neg (by rw[List.length_append,strV_length,h];show ¬37<5+32;decide),List.length_append,strV_length,h]
 rfl
theorem rowC_set38 {s:Bs} {v:VerP} {l:List UInt8} {a na na':Option Addr} {c z nn nc nn' nc':Nat} (h:l.length=32):(rowC s v a c l z na nn nc).set 38 (.slice na' nn' nc')=rowC s v a c l z na' nn' nc':=by
 unfold rowC
 rw[List.set_append,if_neg (by rw[List.length_append,strV_length,h];show ¬38<5+32;decide),List.length_append,strV_length,h]
 rfl
theorem rowC_over {s:Bs} {v:VerP} {l l':List UInt8} {a na:Option Addr} {c z nn nc:Nat} (h:l.length=32) (h':l'.length=32):over (rowC s v a c l z na nn nc).toArray 5 (strV l')=(rowC s v a c l' z na nn nc).toArray:=by
 apply Array.ext_getElem?
 intro k
 rw[over_get _ _ _ _ (by rw[strV_length,h',List.size_toArray,rowC_len h];decide),strV_length,h']
 simp only[List.getElem?_toArray]
 by_cases hk:5≤k∧k<5+32
 ·rw[if_pos hk]
  obtain⟨u,hu⟩: ∃ u,(strV l')[k-5]? =some u:=⟨_,List.getElem?_eq_getElem (by rw[strV_length,h'];omega)⟩
  have:=row_sum (show rowC s v a c l' z na nn nc=_ from rfl) (k-5) u hu
  rw[show 5+(k-5)=k by omega]at this
  rw[hu,this]
 ·rw[if_neg hk]
  unfold rowC
  by_cases h5:k<5
  ·rw[List.getElem?_append_left (by rw[List.length_append,strV_length,h];show k<5+32;omega),List.getElem?_append_left (by show k<5;omega),List.getElem?_append_left (by rw[List.length_append,strV_length,h'];show k<5+32;omega),List.getElem?_append_left (by show k<5;omega)]
  ·rw[List.getElem?_append_right (by rw[List.length_append,strV_length,h];show 5+32≤k;omega),List.getElem?_append_right (by rw[List.length_append,strV_length,h'];show 5+32≤k;omega)]
   simp only[List.length_append,strV_length,h,h']
theorem xor_u8 (x y:Int): ∃ b:UInt8,bitB .u8 .xor x y=(b.toNat:Int):=by
 refine⟨UInt8.ofNat (BitVec.ofInt 8 x ^^^ BitVec.ofInt 8 y).toNat,?_⟩
 show IntKind.u8.wrap ((BitVec.ofInt 8 x ^^^ BitVec.ofInt 8 y).toNat:Int)=_
 have h:=(BitVec.ofInt 8 x ^^^ BitVec.ofInt 8 y).isLt
 rw[Go.Vc.wrap_small IntKind.u8 rfl (by omega) (by show((BitVec.ofInt 8 x ^^^ BitVec.ofInt 8 y).toNat:Int)<256;omega),UInt8.toNat_ofNat']
 omega
theorem of_nil (H:Heap):CallH Tryz.prog 48 [.slice none 0 0] H fun v H'=>(∃ sm:List UInt8,sm.length=32∧v= .agg (strV sm).toArray)∧Ext H H':=by
 refine(shaof_any [] none 0 0 _ (parts_nil _ _) rfl (by decide) (by decide)).mono ?_
 rintro _ H' ⟨rfl,hx⟩
 exact⟨⟨_,sumL_length _,rfl⟩,hx⟩
structure NdS where
 k:Nat
 a:Option Addr
 cap:Nat
structure ThS where
 j:Nat
 b:Bool
structure MdS where
 i:Nat
 S:List (Txt×Int)
 ra:Option Addr
 rc:Nat
 A:List Value
 aa:Option Addr
 ac:Nat
structure PkB where
 l:Bs
 a:Option Addr
 cap:Nat
set_option maxHeartbeats 40000000 in
theorem smade_any (L:List RowI) (hL: ∀ x∈L,x.needs.length≤4) (a:Option Addr) (n cap:Nat) (H:Heap) (hr:RowE rinE H a L) (hn:L.length=n) (hnl:n≤40):
  CallH Tryz.prog 19 [.slice a n cap] H fun v H'=>(∃ S ra rc aa an ac s,S.length=n∧v= .tuple #[.slice ra (madeF (L.zip S)).length rc,.slice aa an ac,.string s]∧RowE rowE H' ra (madeF (L.zip S))∧(madeF (L.zip S)).length≤rc)∧Ext H H':=by
 refine Vc.CallH.body Tryz.func19 Tryz.call19 rfl (by decide+kernel) rfl ?_
 ((conv=>whnf);repeat(any_goals((first|(first|(with_reducible refine Vc.DrawH.lin (id:=7) mixed ?_)|(with_reducible refine Vc.DrawL.split (es:=[]) 6 12 (by decide) (by decide) (by decide) ?_ ?_)|(with_reducible refine Vc.DrawL.split (es:=[(6,12)]) 8 12 (by decide) (by decide) (by decide) ?_ ?_)|(with_reducible refine Vc.DrawL.held (es:=[(8,12),(6,12)]) [0,1,2,3,4,5,7,6,8,9,10,11,12,13,14] [(6,[7])] (by decide+kernel) ?_)|(with_reducible refine Vc.DrawL.held (es:=[(12,8),(6,12)]) [0,1,2,3,4,5,7,6,12,8,9,10,11,13,14] [(6,[7]),(12,[7])] (by decide+kernel) ?_)|(with_reducible refine Vc.DrawL.held (es:=[(12,6)]) [0,1,2,3,4,5,7,12,6,8,9,10,11,13,14] [(12,[5,7]),(6,[7])] (by decide+kernel) ?_))|(first|(with_reducible refine Vc.DrawH.lin (id:=12) mixed ?_)|(with_reducible refine Vc.DrawL.split (es:=[]) 5 8 (by decide) (by decide) (by decide) ?_ ?_)|(with_reducible refine Vc.DrawL.split (es:=[(5,8)]) 5 13 (by decide) (by decide) (by decide) ?_ ?_)|(with_reducible refine Vc.DrawL.split (es:=[(5,13),(5,8)]) 8 13 (by decide) (by decide) (by decide) ?_ ?_)|(with_reducible refine Vc.DrawL.split (es:=[(8,13),(5,13),(5,8)]) 9 13 (by decide) (by decide) (by decide) ?_ ?_)|(with_reducible refine Vc.DrawL.held (es:=[(9,13),(8,13),(5,13),(5,8)]) [0,1,2,3,4,6,7,10,11,5,8,9,12,13,14] [(5,[6]),(8,[6]),(9,[6]),(13,[6])] (by decide+kernel) ?_)|(with_reducible refine Vc.DrawL.held (es:=[(13,9),(8,13),(5,13),(5,8)]) [0,1,2,3,4,6,7,10,11,5,8,13,9,12,14] [(5,[6]),(8,[6]),(13,[6]),(9,[6])] (by decide+kernel) ?_)|(with_reducible refine Vc.DrawL.held (es:=[(13,8),(5,13),(5,8)]) [0,1,2,3,4,6,7,10,11,5,13,8,9,12,14] [(5,[6]),(13,[6]),(8,[6]),(9,[6])] (by decide+kernel) ?_)|(with_reducible refine Vc.DrawL.held (es:=[(13,5),(5,8)]) [0,1,2,3,4,6,7,10,11,13,5,8,9,12,14] [(13,[4,6]),(5,[6]),(8,[6]),(9,[6])] (by decide+kernel) ?_)|(with_reducible refine Vc.DrawL.split (es:=[(8,5)]) 8 13 (by decide) (by decide) (by decide) ?_ ?_)|(with_reducible refine Vc.DrawL.split (es:=[(8,13),(8,5)]) 5 13 (by decide) (by decide) (by decide) ?_ ?_)|(with_reducible refine Vc.DrawL.split (es:=[(5,13),(8,13),(8,5)]) 9 13 (by decide) (by decide) (by decide) ?_ ?_)|(with_reducible refine Vc.DrawL.held (es:=[(9,13),(5,13),(8,13),(8,5)]) [0,1,2,3,4,6,7,10,11,8,5,9,12,13,14] [(8,[4,6]),(5,[6]),(9,[6]),(13,[6])] (by decide+kernel) ?_)|(with_reducible refine Vc.DrawL.held (es:=[(13,9),(5,13),(8,13),(8,5)]) [0,1,2,3,4,6,7,10,11,8,5,13,9,12,14] [(8,[4,6]),(5,[6]),(13,[6]),(9,[6])] (by decide+kernel) ?_)|(with_reducible refine Vc.DrawL.held (es:=[(13,5),(8,13),(8,5)]) [0,1,2,3,4,6,7,10,11,8,13,5,9,12,14] [(8,[4,6]),(13,[4,6]),(5,[6]),(9,[6])] (by decide+kernel) ?_)|(with_reducible refine Vc.DrawL.held (es:=[(13,8),(8,5)]) [0,1,2,3,4,6,7,10,11,13,8,5,9,12,14] [(13,[4,6]),(8,[4,6]),(5,[6]),(9,[6])] (by decide+kernel) ?_))|((with_reducible refine Vc.DrawH.held [0,1,2,3,4,5,6,7,8,10,11,12,13,9,14,15,16,17] [(9,[1,11]),(14,[1])] mixed (by decide+kernel) ?_))|refine Vc.stp ?_)<;>(intros;(conv=>whnf)))))
 refine LoopH.intro (fun(x:MdS)=>[(7,.int .i64 x.i),(5,.slice x.ra (madeF ((L.take x.i).zip x.S)).length x.rc),(6,.slice x.aa x.A.length x.ac)]) (fun x H'=>x.i≤n∧x.S.length=x.i∧(∀ r∈madeF ((L.take x.i).zip x.S),∃ k:Nat,r.size=(k:Int)∧k≤1000000000)∧x.A.length≤x.i∧OwnE rowT 39 H' H.size 54 x.ra (madeF ((L.take x.i).zip x.S)) x.rc∧OwnE anyE 1 H' H.size 68 x.aa x.A x.ac∧Ext H H') (fun x=>n-x.i) ⟨0,[],none,0,[],none,0⟩ ⟨rfl,rfl,rfl,trivial⟩ ⟨Nat.zero_le _,rfl,fun r hr=>(by cases hr),Nat.zero_le _,OwnE.nil _ _ _ _ _,OwnE.nil _ _ _ _ _,Ext.refl _⟩ ?_
 rintro⟨i,S,ra,rc,A,aa,ac⟩ H1 ⟨hi,hS,hsz,hA,hor,hoa,hx1⟩
 dsimp only at hi hS hsz hA hor hoa ⊢
 have hz1:=hx1.size
 have hMok:MadeOk (madeF ((L.take i).zip S)):=madeF_ok _ fun y hy=>hL y.1 (List.mem_of_mem_take (List.of_mem_zip hy).1)
 have hMl:=madeF_len ((L.take i).zip S)
 have hMB:=made_bounds hMok
 rw[List.length_zip,List.length_take]at hMl
 by_cases hlt:i<n
 ·obtain⟨x,hxi⟩: ∃ x,L[i]? =some x:=⟨_,List.getElem?_eq_getElem (by omega)⟩
  have hst:=madeF_snoc hxi hS
  obtain⟨R,hR⟩: ∃ R,madeF ((L.take i).zip S)=R:=⟨_,rfl⟩
  rw[hR]at hor hMok hMl hMB hsz hst ⊢
  obtain⟨bi,oi,ci,hcR,hcl,hix⟩:=hr.fix rin_ok (by decide) hn hxi
  obtain⟨na,nc,ec,hncap,hnr,hb⟩:=(id hcR)
  have hc0:hcell H ⟨bi,oi+0,none⟩=some (Value.int .u8 x.n):=hcl 0 _ (by rw[ec];rfl)
  have hc1:hcell H ⟨bi,oi+1,none⟩=some (Value.int .u8 x.v):=hcl 1 _ (by rw[ec];rfl)
  have hc2:hcell H ⟨bi,oi+2,none⟩=some (Value.slice na x.needs.length nc):=hcl 2 _ (by rw[ec];rfl)
  have hc3:hcell H ⟨bi,oi+3,none⟩=some (Value.int .u8 x.kind):=hcl 3 _ (by rw[ec];rfl)
  have hc4:hcell H ⟨bi,oi+4,none⟩=some (Value.int .u8 x.lie):=hcl 4 _ (by rw[ec];rfl)
  ((conv=>whnf);repeat(any_goals((first|(first|(with_reducible refine Vc.DrawH.lin (id:=7) mixed ?_)|(with_reducible refine Vc.DrawL.split (es:=[]) 6 12 (by decide) (by decide) (by decide) ?_ ?_)|(with_reducible refine Vc.DrawL.split (es:=[(6,12)]) 8 12 (by decide) (by decide) (by decide) ?_ ?_)|(with_reducible refine Vc.DrawL.held (es:=[(8,12),(6,12)]) [0,1,2,3,4,5,7,6,8,9,10,11,12,13,14] [(6,[7])] (by decide+kernel) ?_)|(with_reducible refine Vc.DrawL.held (es:=[(12,8),(6,12)]) [0,1,2,3,4,5,7,6,12,8,9,10,11,13,14] [(6,[7]),(12,[7])] (by decide+kernel) ?_)|(with_reducible refine Vc.DrawL.held (es:=[(12,6)]) [0,1,2,3,4,5,7,12,6,8,9,10,11,13,14] [(12,[5,7]),(6,[7])] (by decide+kernel) ?_))|(first|(with_reducible refine Vc.DrawH.lin (id:=12) mixed ?_)|(with_reducible refine Vc.DrawL.split (es:=[]) 5 8 (by decide) (by decide) (by decide) ?_ ?_)|(with_reducible refine Vc.DrawL.split (es:=[(5,8)]) 5 13 (by decide) (by decide) (by decide) ?_ ?_)|(with_reducible refine Vc.DrawL.split (es:=[(5,13),(5,8)]) 8 13 (by decide) (by decide) (by decide) ?_ ?_)|(with_reducible refine Vc.DrawL.split (es:=[(8,13),(5,13),(5,8)]) 9 13 (by decide) (by decide) (by decide) ?_ ?_)|(with_reducible refine Vc.DrawL.held (es:=[(9,13),(8,13),(5,13),(5,8)]) [0,1,2,3,4,6,7,10,11,5,8,9,12,13,14] [(5,[6]),(8,[6]),(9,[6]),(13,[6])] (by decide+kernel) ?_)|(with_reducible refine Vc.DrawL.held (es:=[(13,9),(8,13),(5,13),(5,8)]) [0,1,2,3,4,6,7,10,11,5,8,13,9,12,14] [(5,[6]),(8,[6]),(13,[6]),(9,[6])] (by decide+kernel) ?_)|(with_reducible refine Vc.DrawL.held (es:=[(13,8),(5,13),(5,8)]) [0,1,2,3,4,6,7,10,11,5,13,8,9,12,14] [(5,[6]),(13,[6]),(8,[6]),(9,[6])] (by decide+kernel) ?_)|(with_reducible refine Vc.DrawL.held (es:=[(13,5),(5,8)]) [0,1,2,3,4,6,7,10,11,13,5,8,9,12,14] [(13,[4,6]),(5,[6]),(8,[6]),(9,[6])] (by decide+kernel) ?_)|(with_reducible refine Vc.DrawL.split (es:=[(8,5)]) 8 13 (by decide) (by decide) (by decide) ?_ ?_)|(with_reducible refine Vc.DrawL.split (es:=[(8,13),(8,5)]) 5 13 (by decide) (by decide) (by decide) ?_ ?_)|(with_reducible refine Vc.DrawL.split (es:=[(5,13),(8,13),(8,5)]) 9 13 (by decide) (by decide) (by decide) ?_ ?_)|(with_reducible refine Vc.DrawL.held (es:=[(9,13),(5,13),(8,13),(8,5)]) [0,1,2,3,4,6,7,10,11,8,5,9,12,13,14] [(8,[4,6]),(5,[6]),(9,[6]),(13,[6])] (by decide+kernel) ?_)|(with_reducible refine Vc.DrawL.held (es:=[(13,9),(5,13),(8,13),(8,5)]) [0,1,2,3,4,6,7,10,11,8,5,13,9,12,14] [(8,[4,6]),(5,[6]),(13,[6]),(9,[6])] (by decide+kernel) ?_)|(with_reducible refine Vc.DrawL.held (es:=[(13,5),(8,13),(8,5)]) [0,1,2,3,4,6,7,10,11,8,13,5,9,12,14] [(8,[4,6]),(13,[4,6]),(5,[6]),(9,[6])] (by decide+kernel) ?_)|(with_reducible refine Vc.DrawL.held (es:=[(13,8),(8,5)]) [0,1,2,3,4,6,7,10,11,13,8,5,9,12,14] [(13,[4,6]),(8,[4,6]),(5,[6]),(9,[6])] (by decide+kernel) ?_))|((with_reducible refine Vc.DrawH.held [0,1,2,3,4,5,6,7,8,10,11,12,13,9,14,15,16,17] [(9,[1,11]),(14,[1])] mixed (by decide+kernel) ?_))|refine Vc.stq ?_|refine Vc.spl ?_ ?_)<;>(intros;(conv=>whnf)))))
  refine Vc.SeqH.go ?_
  ((conv=>whnf);repeat(any_goals((first|(first|(with_reducible refine Vc.DrawH.lin (id:=7) mixed ?_)|(with_reducible refine Vc.DrawL.split (es:=[]) 6 12 (by decide) (by decide) (by decide) ?_ ?_)|(with_reducible refine Vc.DrawL.split (es:=[(6,12)]) 8 12 (by decide) (by decide) (by decide) ?_ ?_)|(with_reducible refine Vc.DrawL.held (es:=[(8,12),(6,12)]) [0,1,2,3,4,5,7,6,8,9,10,11,12,13,14] [(6,[7])] (by decide+kernel) ?_)|(with_reducible refine Vc.DrawL.held (es:=[(12,8),(6,12)]) [0,1,2,3,4,5,7,6,12,8,9,10,11,13,14] [(6,[7]),(12,[7])] (by decide+kernel) ?_)|(with_reducible refine Vc.DrawL.held (es:=[(12,6)]) [0,1,2,3,4,5,7,12,6,8,9,10,11,13,14] [(12,[5,7]),(6,[7])] (by decide+kernel) ?_))|(first|(with_reducible refine Vc.DrawH.lin (id:=12) mixed ?_)|(with_reducible refine Vc.DrawL.split (es:=[]) 5 8 (by decide) (by decide) (by decide) ?_ ?_)|(with_reducible refine Vc.DrawL.split (es:=[(5,8)]) 5 13 (by decide) (by decide) (by decide) ?_ ?_)|(with_reducible refine Vc.DrawL.split (es:=[(5,13),(5,8)]) 8 13 (by decide) (by decide) (by decide) ?_ ?_)|(with_reducible refine Vc.DrawL.split (es:=[(8,13),(5,13),(5,8)]) 9 13 (by decide) (by decide) (by decide) ?_ ?_)|(with_reducible refine Vc.DrawL.held (es:=[(9,13),(8,13),(5,13),(5,8)]) [0,1,2,3,4,6,7,10,11,5,8,9,12,13,14] [(5,[6]),(8,[6]),(9,[6]),(13,[6])] (by decide+kernel) ?_)|(with_reducible refine Vc.DrawL.held (es:=[(13,9),(8,13),(5,13),(5,8)]) [0,1,2,3,4,6,7,10,11,5,8,13,9,12,14] [(5,[6]),(8,[6]),(13,[6]),(9,[6])] (by decide+kernel) ?_)|(with_reducible refine Vc.DrawL.held (es:=[(13,8),(5,13),(5,8)]) [0,1,2,3,4,6,7,10,11,5,13,8,9,12,14] [(5,[6]),(13,[6]),(8,[6]),(9,[6])] (by decide+kernel) ?_)|(with_reducible refine Vc.DrawL.held (es:=[(13,5),(5,8)]) [0,1,2,3,4,6,7,10,11,13,5,8,9,12,14] [(13,[4,6]),(5,[6]),(8,[6]),(9,[6])] (by decide+kernel) ?_)|(with_reducible refine Vc.DrawL.split (es:=[(8,5)]) 8 13 (by decide) (by decide) (by decide) ?_ ?_)|(with_reducible refine Vc.DrawL.split (es:=[(8,13),(8,5)]) 5 13 (by decide) (by decide) (by decide) ?_ ?_)|(with_reducible refine Vc.DrawL.split (es:=[(5,13),(8,13),(8,5)]) 9 13 (by decide) (by decide) (by decide) ?_ ?_)|(with_reducible refine Vc.DrawL.held (es:=[(9,13),(5,13),(8,13),(8,5)]) [0,1,2,3,4,6,7,10,11,8,5,9,12,13,14] [(8,[4,6]),(5,[6]),(9,[6]),(13,[6])] (by decide+kernel) ?_)|(with_reducible refine Vc.DrawL.held (es:=[(13,9),(5,13),(8,13),(8,5)]) [0,1,2,3,4,6,7,10,11,8,5,13,9,12,14] [(8,[4,6]),(5,[6]),(13,[6]),(9,[6])] (by decide+kernel) ?_)|(with_reducible refine Vc.DrawL.held (es:=[(13,5),(8,13),(8,5)]) [0,1,2,3,4,6,7,10,11,8,13,5,9,12,14] [(8,[4,6]),(13,[4,6]),(5,[6]),(9,[6])] (by decide+kernel) ?_)|(with_reducible refine Vc.DrawL.held (es:=[(13,8),(8,5)]) [0,1,2,3,4,6,7,10,11,13,8,5,9,12,14] [(13,[4,6]),(8,[4,6]),(5,[6]),(9,[6])] (by decide+kernel) ?_))|((with_reducible refine Vc.DrawH.held [0,1,2,3,4,5,6,7,8,10,11,12,13,9,14,15,16,17] [(9,[1,11]),(14,[1])] mixed (by decide+kernel) ?_))|refine Vc.stq ?_|refine Vc.spl ?_ ?_)<;>(intros;(conv=>whnf)))))
  refine Vc.SeqH.go ?_
  ((conv=>whnf);repeat(any_goals((first|(refine hix _ _ rfl ?_)|(refine(sversion_any x.v hb.v _).mono ?_;rintro _ H2 ⟨rfl,hx2⟩;have hz2:=hx2.size)|(refine(rver_any (verN x.v) (by have:=verN_len x.v;omega) _).mono ?_;rintro _ H3 ⟨hv3,hx3⟩;have hz3:=hx3.size;rw[ver_some]at hv3;obtain⟨va,vc,rfl,hvo⟩:=hv3)|((fail_if_success (have:=b4));rename_i Hl zl bl xl;unfold verC;refine DoH.store_list (c:=[.int .i64 (verP x.v).ma,.int .i64 (verP x.v).mi,.int .i64 (verP x.v).pa,.slice va (verP x.v).pre.length vc]) bl rfl rfl rfl (fun u hu=>by simp at hu;rcases hu with rfl|rfl|rfl|rfl<;>rfl) ?_;intro H4 z4 b4 k4;have hx34:Ext H3 H4:=xl.but k4 (Nat.le_refl _))|(first|(with_reducible refine Vc.DrawH.lin (id:=7) mixed ?_)|(with_reducible refine Vc.DrawL.split (es:=[]) 6 12 (by decide) (by decide) (by decide) ?_ ?_)|(with_reducible refine Vc.DrawL.split (es:=[(6,12)]) 8 12 (by decide) (by decide) (by decide) ?_ ?_)|(with_reducible refine Vc.DrawL.held (es:=[(8,12),(6,12)]) [0,1,2,3,4,5,7,6,8,9,10,11,12,13,14] [(6,[7])] (by decide+kernel) ?_)|(with_reducible refine Vc.DrawL.held (es:=[(12,8),(6,12)]) [0,1,2,3,4,5,7,6,12,8,9,10,11,13,14] [(6,[7]),(12,[7])] (by decide+kernel) ?_)|(with_reducible refine Vc.DrawL.held (es:=[(12,6)]) [0,1,2,3,4,5,7,12,6,8,9,10,11,13,14] [(12,[5,7]),(6,[7])] (by decide+kernel) ?_))|(first|(with_reducible refine Vc.DrawH.lin (id:=12) mixed ?_)|(with_reducible refine Vc.DrawL.split (es:=[]) 5 8 (by decide) (by decide) (by decide) ?_ ?_)|(with_reducible refine Vc.DrawL.split (es:=[(5,8)]) 5 13 (by decide) (by decide) (by decide) ?_ ?_)|(with_reducible refine Vc.DrawL.split (es:=[(5,13),(5,8)]) 8 13 (by decide) (by decide) (by decide) ?_ ?_)|(with_reducible refine Vc.DrawL.split (es:=[(8,13),(5,13),(5,8)]) 9 13 (by decide) (by decide) (by decide) ?_ ?_)|(with_reducible refine Vc.DrawL.held (es:=[(9,13),(8,13),(5,13),(5,8)]) [0,1,2,3,4,6,7,10,11,5,8,9,12,13,14] [(5,[6]),(8,[6]),(9,[6]),(13,[6])] (by decide+kernel) ?_)|(with_reducible refine Vc.DrawL.held (es:=[(13,9),(8,13),(5,13),(5,8)]) [0,1,2,3,4,6,7,10,11,5,8,13,9,12,14] [(5,[6]),(8,[6]),(13,[6]),(9,[6])] (by decide+kernel) ?_)|(with_reducible refine Vc.DrawL.held (es:=[(13,8),(5,13),(5,8)]) [0,1,2,3,4,6,7,10,11,5,13,8,9,12,14] [(5,[6]),(13,[6]),(8,[6]),(9,[6])] (by decide+kernel) ?_)|(with_reducible refine Vc.DrawL.held (es:=[(13,5),(5,8)]) [0,1,2,3,4,6,7,10,11,13,5,8,9,12,14] [(13,[4,6]),(5,[6]),(8,[6]),(9,[6])] (by decide+kernel) ?_)|(with_reducible refine Vc.DrawL.split (es:=[(8,5)]) 8 13 (by decide) (by decide) (by decide) ?_ ?_)|(with_reducible refine Vc.DrawL.split (es:=[(8,13),(8,5)]) 5 13 (by decide) (by decide) (by decide) ?_ ?_)|(with_reducible refine Vc.DrawL.split (es:=[(5,13),(8,13),(8,5)]) 9 13 (by decide) (by decide) (by decide) ?_ ?_)|(with_reducible refine Vc.DrawL.held (es:=[(9,13),(5,13),(8,13),(8,5)]) [0,1,2,3,4,6,7,10,11,8,5,9,12,13,14] [(8,[4,6]),(5,[6]),(9,[6]),(13,[6])] (by decide+kernel) ?_)|(with_reducible refine Vc.DrawL.held (es:=[(13,9),(5,13),(8,13),(8,5)]) [0,1,2,3,4,6,7,10,11,8,5,13,9,12,14] [(8,[4,6]),(5,[6]),(13,[6]),(9,[6])] (by decide+kernel) ?_)|(with_reducible refine Vc.DrawL.held (es:=[(13,5),(8,13),(8,5)]) [0,1,2,3,4,6,7,10,11,8,13,5,9,12,14] [(8,[4,6]),(13,[4,6]),(5,[6]),(9,[6])] (by decide+kernel) ?_)|(with_reducible refine Vc.DrawL.held (es:=[(13,8),(8,5)]) [0,1,2,3,4,6,7,10,11,13,8,5,9,12,14] [(13,[4,6]),(8,[4,6]),(5,[6]),(9,[6])] (by decide+kernel) ?_))|((with_reducible refine Vc.DrawH.held [0,1,2,3,4,5,6,7,8,10,11,12,13,9,14,15,16,17] [(9,[1,11]),(14,[1])] mixed (by decide+kernel) ?_))|refine Vc.stq ?_|refine Vc.spl ?_ ?_)<;>(intros;(conv=>whnf)))))
  have hx14:=And.intro trivial (hx2.trans (hx3.trans hx34))
  have hx04:=And.intro trivial (hx1.trans hx14.2)
  have hz4:=hx14.2.size
  have hvv: ∀ (k:Nat) (u:Value),([.int .i64 (verP x.v).ma,.int .i64 (verP x.v).mi,.int .i64 (verP x.v).pa,.slice va (verP x.v).pre.length vc]:List Value)[k]? =some u→hcell H4 ⟨H3.size,0+k,none⟩=some u:=fun k u hu=>blk_list b4 0 k u (by rw[Nat.zero_add];exact hu)
  have hvb:VerS (verP x.v):=verS_small (verP_small _)
  have hvr: ∀ H',Ext H4 H'→Row H' va (strs (verP x.v).pre):=fun H' k=>hvo.row.ext (hx34.trans k)
  have hvl:=hvo.cap_le
  obtain⟨I,hI⟩: ∃ I,idxR R (nmN x.n) (verP x.v)=I:=⟨_,rfl⟩
  have hfind:=fun H' (k:Ext H1 H') y hy=>rfind_any R (nmN x.n) (verP x.v) (verS_b hvb) (rows_ver hMB) ra R.length rc y H1 H' k (hor.rowL.to fun _ _=>rowT_E) rfl (by omega) hy
  rw[hI]at hfind
  cases I with
  |some I=>
   have hst': ∀ s,madeF ((L.take (i+1)).zip (S++[s]))=R:=fun s=>by rw[hst s];unfold stepM;rw[if_pos (by show(idxR R (nmN x.n) (verP x.v)).isSome=true;rw[hI];rfl)]
   ((conv=>whnf);repeat(any_goals((first|(refine hix _ _ rfl ?_)|(refine(sname_any x.n hb.n _).mono ?_;rintro _ _ ⟨rfl,rfl⟩)|((with_reducible apply SemH.load_ver);(exact hvv);(exact Vc.xt);(conv=>whnf))|(refine Vc.StillsH.load rfl rfl rfl rfl rfl rfl (by exact SemH.load_ver hvv (by exact Vc.xt) rfl) ?_)|(refine(hfind _ (hx14.2.trans (by exact Vc.xt)) _ (verO_of hvl (hvr _ (by exact Vc.xt)))).mono ?_;rintro _ H5 ⟨⟨r2,cr,hr2,rfl,hcr⟩,hx5⟩;have hz5:=hx5.size)|(rename_i Hl zl bl xl;(first|refine DoH.store_list bl rfl (by rw[row_ok.len hcr];rfl) (by rw[row_ok.len hcr];rfl) (row_ok.plain hcr) ?_|refine DoH.store_list (bl.ext hx5) rfl (by rw[row_ok.len hcr];rfl) (by rw[row_ok.len hcr];rfl) (row_ok.plain hcr) ?_);intro H6 z6 b6 k6;have hx6:Ext H4 H6:=(by first|exact(show Ext H4 Hl by exact Vc.xt).but k6 (by omega)|exact(show Ext H4 H5 by exact Vc.xt).but k6 (by omega)))|(first|(with_reducible refine Vc.DrawH.lin (id:=7) mixed ?_)|(with_reducible refine Vc.DrawL.split (es:=[]) 6 12 (by decide) (by decide) (by decide) ?_ ?_)|(with_reducible refine Vc.DrawL.split (es:=[(6,12)]) 8 12 (by decide) (by decide) (by decide) ?_ ?_)|(with_reducible refine Vc.DrawL.held (es:=[(8,12),(6,12)]) [0,1,2,3,4,5,7,6,8,9,10,11,12,13,14] [(6,[7])] (by decide+kernel) ?_)|(with_reducible refine Vc.DrawL.held (es:=[(12,8),(6,12)]) [0,1,2,3,4,5,7,6,12,8,9,10,11,13,14] [(6,[7]),(12,[7])] (by decide+kernel) ?_)|(with_reducible refine Vc.DrawL.held (es:=[(12,6)]) [0,1,2,3,4,5,7,12,6,8,9,10,11,13,14] [(12,[5,7]),(6,[7])] (by decide+kernel) ?_))|(first|(with_reducible refine Vc.DrawH.lin (id:=12) mixed ?_)|(with_reducible refine Vc.DrawL.split (es:=[]) 5 8 (by decide) (by decide) (by decide) ?_ ?_)|(with_reducible refine Vc.DrawL.split (es:=[(5,8)]) 5 13 (by decide) (by decide) (by decide) ?_ ?_)|(with_reducible refine Vc.DrawL.split (es:=[(5,13),(5,8)]) 8 13 (by decide) (by decide) (by decide) ?_ ?_)|(with_reducible refine Vc.DrawL.split (es:=[(8,13),(5,13),(5,8)]) 9 13 (by decide) (by decide) (by decide) ?_ ?_)|(with_reducible refine Vc.DrawL.held (es:=[(9,13),(8,13),(5,13),(5,8)]) [0,1,2,3,4,6,7,10,11,5,8,9,12,13,14] [(5,[6]),(8,[6]),(9,[6]),(13,[6])] (by decide+kernel) ?_)|(with_reducible refine Vc.DrawL.held (es:=[(13,9),(8,13),(5,13),(5,8)]) [0,1,2,3,4,6,7,10,11,5,8,13,9,12,14] [(5,[6]),(8,[6]),(13,[6]),(9,[6])] (by decide+kernel) ?_)|(with_reducible refine Vc.DrawL.held (es:=[(13,8),(5,13),(5,8)]) [0,1,2,3,4,6,7,10,11,5,13,8,9,12,14] [(5,[6]),(13,[6]),(8,[6]),(9,[6])] (by decide+kernel) ?_)|(with_reducible refine Vc.DrawL.held (es:=[(13,5),(5,8)]) [0,1,2,3,4,6,7,10,11,13,5,8,9,12,14] [(13,[4,6]),(5,[6]),(8,[6]),(9,[6])] (by decide+kernel) ?_)|(with_reducible refine Vc.DrawL.split (es:=[(8,5)]) 8 13 (by decide) (by decide) (by decide) ?_ ?_)|(with_reducible refine Vc.DrawL.split (es:=[(8,13),(8,5)]) 5 13 (by decide) (by decide) (by decide) ?_ ?_)|(with_reducible refine Vc.DrawL.split (es:=[(5,13),(8,13),(8,5)]) 9 13 (by decide) (by decide) (by decide) ?_ ?_)|(with_reducible refine Vc.DrawL.held (es:=[(9,13),(5,13),(8,13),(8,5)]) [0,1,2,3,4,6,7,10,11,8,5,9,12,13,14] [(8,[4,6]),(5,[6]),(9,[6]),(13,[6])] (by decide+kernel) ?_)|(with_reducible refine Vc.DrawL.held (es:=[(13,9),(5,13),(8,13),(8,5)]) [0,1,2,3,4,6,7,10,11,8,5,13,9,12,14] [(8,[4,6]),(5,[6]),(13,[6]),(9,[6])] (by decide+kernel) ?_)|(with_reducible refine Vc.DrawL.held (es:=[(13,5),(8,13),(8,5)]) [0,1,2,3,4,6,7,10,11,8,13,5,9,12,14] [(8,[4,6]),(13,[4,6]),(5,[6]),(9,[6])] (by decide+kernel) ?_)|(with_reducible refine Vc.DrawL.held (es:=[(13,8),(8,5)]) [0,1,2,3,4,6,7,10,11,13,8,5,9,12,14] [(13,[4,6]),(8,[4,6]),(5,[6]),(9,[6])] (by decide+kernel) ?_))|((with_reducible refine Vc.DrawH.held [0,1,2,3,4,5,6,7,8,10,11,12,13,9,14,15,16,17] [(9,[1,11]),(14,[1])] mixed (by decide+kernel) ?_))|refine Vc.stp ?_)<;>(intros;(conv=>whnf)))))
   all_goals exact⟨⟨i+1,S++[([],0)],ra,rc,A,aa,ac⟩,⟨rfl,by show Value.slice _ _ _=Value.slice _ _ _;rw[hst'],rfl,trivial⟩,⟨by show i+1≤n;omega,by show(S++[_]).length=i+1;rw[List.length_append,hS];rfl,by dsimp only;rw[hst'];exact hsz,by show A.length≤i+1;omega,by dsimp only;rw[hst'];exact hor.ext rowT_ok.ok (hx14.2.trans hx6),hoa.ext anyE_ok.ok (hx14.2.trans hx6),hx04.2.trans hx6⟩,by show n-(i+1)<n-i;omega⟩
  |none=>
  have hst': ∀ s,madeF ((L.take (i+1)).zip (S++[s]))=R++[rowI x s]:=fun s=>by rw[hst s];unfold stepM;rw[if_neg (by show ¬(idxR R (nmN x.n) (verP x.v)).isSome=true;rw[hI];simp)]
  refine SeqH.cut (fun(_:Unit)=>[]) (fun _ H'=>Ext H4 H') ?_ ?_
  ·
   ((conv=>whnf);repeat(any_goals((first|(refine hix _ _ rfl ?_)|(refine(sname_any x.n hb.n _).mono ?_;rintro _ _ ⟨rfl,rfl⟩)|((with_reducible apply SemH.load_ver);(exact hvv);(exact Vc.xt);(conv=>whnf))|(refine Vc.StillsH.load rfl rfl rfl rfl rfl rfl (by exact SemH.load_ver hvv (by exact Vc.xt) rfl) ?_)|(refine(hfind _ (hx14.2.trans (by exact Vc.xt)) _ (verO_of hvl (hvr _ (by exact Vc.xt)))).mono ?_;rintro _ H5 ⟨⟨rfl⟩,hx5⟩;have hz5:=hx5.size)|(rename_i Hl zl bl xl;(first|refine DoH.store_all bl rfl (by kernel_rfl) (by kernel_rfl) (by decide) ?_|refine DoH.store_all (bl.ext hx5) rfl (by kernel_rfl) (by kernel_rfl) (by decide) ?_);intro H6 z6 b6 k6;have hx6:Ext H4 H6:=(by first|exact(show Ext H4 Hl by exact Vc.xt).but k6 (by omega)|exact(show Ext H4 H5 by exact Vc.xt).but k6 (by omega)))|(first|(with_reducible refine Vc.DrawH.lin (id:=7) mixed ?_)|(with_reducible refine Vc.DrawL.split (es:=[]) 6 12 (by decide) (by decide) (by decide) ?_ ?_)|(with_reducible refine Vc.DrawL.split (es:=[(6,12)]) 8 12 (by decide) (by decide) (by decide) ?_ ?_)|(with_reducible refine Vc.DrawL.held (es:=[(8,12),(6,12)]) [0,1,2,3,4,5,7,6,8,9,10,11,12,13,14] [(6,[7])] (by decide+kernel) ?_)|(with_reducible refine Vc.DrawL.held (es:=[(12,8),(6,12)]) [0,1,2,3,4,5,7,6,12,8,9,10,11,13,14] [(6,[7]),(12,[7])] (by decide+kernel) ?_)|(with_reducible refine Vc.DrawL.held (es:=[(12,6)]) [0,1,2,3,4,5,7,12,6,8,9,10,11,13,14] [(12,[5,7]),(6,[7])] (by decide+kernel) ?_))|(first|(with_reducible refine Vc.DrawH.lin (id:=12) mixed ?_)|(with_reducible refine Vc.DrawL.split (es:=[]) 5 8 (by decide) (by decide) (by decide) ?_ ?_)|(with_reducible refine Vc.DrawL.split (es:=[(5,8)]) 5 13 (by decide) (by decide) (by decide) ?_ ?_)|(with_reducible refine Vc.DrawL.split (es:=[(5,13),(5,8)]) 8 13 (by decide) (by decide) (by decide) ?_ ?_)|(with_reducible refine Vc.DrawL.split (es:=[(8,13),(5,13),(5,8)]) 9 13 (by decide) (by decide) (by decide) ?_ ?_)|(with_reducible refine Vc.DrawL.held (es:=[(9,13),(8,13),(5,13),(5,8)]) [0,1,2,3,4,6,7,10,11,5,8,9,12,13,14] [(5,[6]),(8,[6]),(9,[6]),(13,[6])] (by decide+kernel) ?_)|(with_reducible refine Vc.DrawL.held (es:=[(13,9),(8,13),(5,13),(5,8)]) [0,1,2,3,4,6,7,10,11,5,8,13,9,12,14] [(5,[6]),(8,[6]),(13,[6]),(9,[6])] (by decide+kernel) ?_)|(with_reducible refine Vc.DrawL.held (es:=[(13,8),(5,13),(5,8)]) [0,1,2,3,4,6,7,10,11,5,13,8,9,12,14] [(5,[6]),(13,[6]),(8,[6]),(9,[6])] (by decide+kernel) ?_)|(with_reducible refine Vc.DrawL.held (es:=[(13,5),(5,8)]) [0,1,2,3,4,6,7,10,11,13,5,8,9,12,14] [(13,[4,6]),(5,[6]),(8,[6]),(9,[6])] (by decide+kernel) ?_)|(with_reducible refine Vc.DrawL.split (es:=[(8,5)]) 8 13 (by decide) (by decide) (by decide) ?_ ?_)|(with_reducible refine Vc.DrawL.split (es:=[(8,13),(8,5)]) 5 13 (by decide) (by decide) (by decide) ?_ ?_)|(with_reducible refine Vc.DrawL.split (es:=[(5,13),(8,13),(8,5)]) 9 13 (by decide) (by decide) (by decide) ?_ ?_)|(with_reducible refine Vc.DrawL.held (es:=[(9,13),(5,13),(8,13),(8,5)]) [0,1,2,3,4,6,7,10,11,8,5,9,12,13,14] [(8,[4,6]),(5,[6]),(9,[6]),(13,[6])] (by decide+kernel) ?_)|(with_reducible refine Vc.DrawL.held (es:=[(13,9),(5,13),(8,13),(8,5)]) [0,1,2,3,4,6,7,10,11,8,5,13,9,12,14] [(8,[4,6]),(5,[6]),(13,[6]),(9,[6])] (by decide+kernel) ?_)|(with_reducible refine Vc.DrawL.held (es:=[(13,5),(8,13),(8,5)]) [0,1,2,3,4,6,7,10,11,8,13,5,9,12,14] [(8,[4,6]),(13,[4,6]),(5,[6]),(9,[6])] (by decide+kernel) ?_)|(with_reducible refine Vc.DrawL.held (es:=[(13,8),(8,5)]) [0,1,2,3,4,6,7,10,11,13,8,5,9,12,14] [(13,[4,6]),(8,[4,6]),(5,[6]),(9,[6])] (by decide+kernel) ?_))|((with_reducible refine Vc.DrawH.held [0,1,2,3,4,5,6,7,8,10,11,12,13,9,14,15,16,17] [(9,[1,11]),(14,[1])] mixed (by decide+kernel) ?_))|refine Vc.stp ?_)<;>(intros;(conv=>whnf)))))
   all_goals exact⟨(),trivial,hx6⟩
  rintro _ H5 hx5
  have hz5:=hx5.size
  ((conv=>whnf);repeat(any_goals((first|(refine hix _ _ rfl ?_)|((with_reducible apply SemH.load_rin);(exact rin_ok.len hcR);(exact hcl);(exact hx04.2.trans (by exact Vc.xt));(conv=>whnf))|(refine(sfiles_any x ci H _ hcR).mono ?_;rintro _ H6 ⟨⟨F,fa,fc,rfl,hF,hFl,hFb⟩,hx6⟩;have hz6:=hx6.size)|(refine(rpack_any F fa _ fc _ hF rfl (by omega) (fun f hf=>by have:=hFb f hf;omega)).mono ?_;rintro _ H7 ⟨⟨ba,bc,rfl,hbo⟩,hx7⟩;have hz7:=hx7.size)|(first|(with_reducible refine Vc.DrawH.lin (id:=7) mixed ?_)|(with_reducible refine Vc.DrawL.split (es:=[]) 6 12 (by decide) (by decide) (by decide) ?_ ?_)|(with_reducible refine Vc.DrawL.split (es:=[(6,12)]) 8 12 (by decide) (by decide) (by decide) ?_ ?_)|(with_reducible refine Vc.DrawL.held (es:=[(8,12),(6,12)]) [0,1,2,3,4,5,7,6,8,9,10,11,12,13,14] [(6,[7])] (by decide+kernel) ?_)|(with_reducible refine Vc.DrawL.held (es:=[(12,8),(6,12)]) [0,1,2,3,4,5,7,6,12,8,9,10,11,13,14] [(6,[7]),(12,[7])] (by decide+kernel) ?_)|(with_reducible refine Vc.DrawL.held (es:=[(12,6)]) [0,1,2,3,4,5,7,12,6,8,9,10,11,13,14] [(12,[5,7]),(6,[7])] (by decide+kernel) ?_))|(first|(with_reducible refine Vc.DrawH.lin (id:=12) mixed ?_)|(with_reducible refine Vc.DrawL.split (es:=[]) 5 8 (by decide) (by decide) (by decide) ?_ ?_)|(with_reducible refine Vc.DrawL.split (es:=[(5,8)]) 5 13 (by decide) (by decide) (by decide) ?_ ?_)|(with_reducible refine Vc.DrawL.split (es:=[(5,13),(5,8)]) 8 13 (by decide) (by decide) (by decide) ?_ ?_)|(with_reducible refine Vc.DrawL.split (es:=[(8,13),(5,13),(5,8)]) 9 13 (by decide) (by decide) (by decide) ?_ ?_)|(with_reducible refine Vc.DrawL.held (es:=[(9,13),(8,13),(5,13),(5,8)]) [0,1,2,3,4,6,7,10,11,5,8,9,12,13,14] [(5,[6]),(8,[6]),(9,[6]),(13,[6])] (by decide+kernel) ?_)|(with_reducible refine Vc.DrawL.held (es:=[(13,9),(8,13),(5,13),(5,8)]) [0,1,2,3,4,6,7,10,11,5,8,13,9,12,14] [(5,[6]),(8,[6]),(13,[6]),(9,[6])] (by decide+kernel) ?_)|(with_reducible refine Vc.DrawL.held (es:=[(13,8),(5,13),(5,8)]) [0,1,2,3,4,6,7,10,11,5,13,8,9,12,14] [(5,[6]),(13,[6]),(8,[6]),(9,[6])] (by decide+kernel) ?_)|(with_reducible refine Vc.DrawL.held (es:=[(13,5),(5,8)]) [0,1,2,3,4,6,7,10,11,13,5,8,9,12,14] [(13,[4,6]),(5,[6]),(8,[6]),(9,[6])] (by decide+kernel) ?_)|(with_reducible refine Vc.DrawL.split (es:=[(8,5)]) 8 13 (by decide) (by decide) (by decide) ?_ ?_)|(with_reducible refine Vc.DrawL.split (es:=[(8,13),(8,5)]) 5 13 (by decide) (by decide) (by decide) ?_ ?_)|(with_reducible refine Vc.DrawL.split (es:=[(5,13),(8,13),(8,5)]) 9 13 (by decide) (by decide) (by decide) ?_ ?_)|(with_reducible refine Vc.DrawL.held (es:=[(9,13),(5,13),(8,13),(8,5)]) [0,1,2,3,4,6,7,10,11,8,5,9,12,13,14] [(8,[4,6]),(5,[6]),(9,[6]),(13,[6])] (by decide+kernel) ?_)|(with_reducible refine Vc.DrawL.held (es:=[(13,9),(5,13),(8,13),(8,5)]) [0,1,2,3,4,6,7,10,11,8,5,13,9,12,14] [(8,[4,6]),(5,[6]),(13,[6]),(9,[6])] (by decide+kernel) ?_)|(with_reducible refine Vc.DrawL.held (es:=[(13,5),(8,13),(8,5)]) [0,1,2,3,4,6,7,10,11,8,13,5,9,12,14] [(8,[4,6]),(13,[4,6]),(5,[6]),(9,[6])] (by decide+kernel) ?_)|(with_reducible refine Vc.DrawL.held (es:=[(13,8),(8,5)]) [0,1,2,3,4,6,7,10,11,13,8,5,9,12,14] [(13,[4,6]),(8,[4,6]),(5,[6]),(9,[6])] (by decide+kernel) ?_))|((with_reducible refine Vc.DrawH.held [0,1,2,3,4,5,6,7,8,10,11,12,13,9,14,15,16,17] [(9,[1,11]),(14,[1])] mixed (by decide+kernel) ?_))|refine Vc.stq ?_|refine Vc.spl ?_ ?_)<;>(intros;(conv=>whnf)))))
  have hPl:(Arc.packF F).length≤9000000:=by
   have h1:=Arc.packP_len F (fun f hf=>by have:=hFb f hf;omega) F.length (Nat.le_refl _)
   unfold Arc.packF
   rw[List.length_append]
   simp only[List.length_singleton]
   omega
  obtain⟨PF,hPF⟩: ∃ PF,Arc.packF F=PF:=⟨_,rfl⟩
  rw[hPF]at hPl hbo ⊢
  have hx57:Ext H5 H7:=hx6.trans hx7
  refine SeqH.cut (fun(s:PkB)=>[(12,.slice s.a s.l.length s.cap)]) (fun s H'=>s.l.length≤10000000∧Own H' H5.size 5 1 s.a s.l.length s.cap (strV s.l)∧Ext H5 H') ?_ ?_
  ·
   by_cases h9:x.kind % 10=9
   ·((conv=>whnf);repeat(any_goals((first|(refine hix _ _ rfl ?_)|(refine rem10 ?_;rw[h9])|(first|(with_reducible refine Vc.DrawH.lin (id:=7) mixed ?_)|(with_reducible refine Vc.DrawL.split (es:=[]) 6 12 (by decide) (by decide) (by decide) ?_ ?_)|(with_reducible refine Vc.DrawL.split (es:=[(6,12)]) 8 12 (by decide) (by decide) (by decide) ?_ ?_)|(with_reducible refine Vc.DrawL.held (es:=[(8,12),(6,12)]) [0,1,2,3,4,5,7,6,8,9,10,11,12,13,14] [(6,[7])] (by decide+kernel) ?_)|(with_reducible refine Vc.DrawL.held (es:=[(12,8),(6,12)]) [0,1,2,3,4,5,7,6,12,8,9,10,11,13,14] [(6,[7]),(12,[7])] (by decide+kernel) ?_)|(with_reducible refine Vc.DrawL.held (es:=[(12,6)]) [0,1,2,3,4,5,7,12,6,8,9,10,11,13,14] [(12,[5,7]),(6,[7])] (by decide+kernel) ?_))|(first|(with_reducible refine Vc.DrawH.lin (id:=12) mixed ?_)|(with_reducible refine Vc.DrawL.split (es:=[]) 5 8 (by decide) (by decide) (by decide) ?_ ?_)|(with_reducible refine Vc.DrawL.split (es:=[(5,8)]) 5 13 (by decide) (by decide) (by decide) ?_ ?_)|(with_reducible refine Vc.DrawL.split (es:=[(5,13),(5,8)]) 8 13 (by decide) (by decide) (by decide) ?_ ?_)|(with_reducible refine Vc.DrawL.split (es:=[(8,13),(5,13),(5,8)]) 9 13 (by decide) (by decide) (by decide) ?_ ?_)|(with_reducible refine Vc.DrawL.held (es:=[(9,13),(8,13),(5,13),(5,8)]) [0,1,2,3,4,6,7,10,11,5,8,9,12,13,14] [(5,[6]),(8,[6]),(9,[6]),(13,[6])] (by decide+kernel) ?_)|(with_reducible refine Vc.DrawL.held (es:=[(13,9),(8,13),(5,13),(5,8)]) [0,1,2,3,4,6,7,10,11,5,8,13,9,12,14] [(5,[6]),(8,[6]),(13,[6]),(9,[6])] (by decide+kernel) ?_)|(with_reducible refine Vc.DrawL.held (es:=[(13,8),(5,13),(5,8)]) [0,1,2,3,4,6,7,10,11,5,13,8,9,12,14] [(5,[6]),(13,[6]),(8,[6]),(9,[6])] (by decide+kernel) ?_)|(with_reducible refine Vc.DrawL.held (es:=[(13,5),(5,8)]) [0,1,2,3,4,6,7,10,11,13,5,8,9,12,14] [(13,[4,6]),(5,[6]),(8,[6]),(9,[6])] (by decide+kernel) ?_)|(with_reducible refine Vc.DrawL.split (es:=[(8,5)]) 8 13 (by decide) (by decide) (by decide) ?_ ?_)|(with_reducible refine Vc.DrawL.split (es:=[(8,13),(8,5)]) 5 13 (by decide) (by decide) (by decide) ?_ ?_)|(with_reducible refine Vc.DrawL.split (es:=[(5,13),(8,13),(8,5)]) 9 13 (by decide) (by decide) (by decide) ?_ ?_)|(with_reducible refine Vc.DrawL.held (es:=[(9,13),(5,13),(8,13),(8,5)]) [0,1,2,3,4,6,7,10,11,8,5,9,12,13,14] [(8,[4,6]),(5,[6]),(9,[6]),(13,[6])] (by decide+kernel) ?_)|(with_reducible refine Vc.DrawL.held (es:=[(13,9),(5,13),(8,13),(8,5)]) [0,1,2,3,4,6,7,10,11,8,5,13,9,12,14] [(8,[4,6]),(5,[6]),(13,[6]),(9,[6])] (by decide+kernel) ?_)|(with_reducible refine Vc.DrawL.held (es:=[(13,5),(8,13),(8,5)]) [0,1,2,3,4,6,7,10,11,8,13,5,9,12,14] [(8,[4,6]),(13,[4,6]),(5,[6]),(9,[6])] (by decide+kernel) ?_)|(with_reducible refine Vc.DrawL.held (es:=[(13,8),(8,5)]) [0,1,2,3,4,6,7,10,11,13,8,5,9,12,14] [(13,[4,6]),(8,[4,6]),(5,[6]),(9,[6])] (by decide+kernel) ?_))|((with_reducible refine Vc.DrawH.held [0,1,2,3,4,5,6,7,8,10,11,12,13,9,14,15,16,17] [(9,[1,11]),(14,[1])] mixed (by decide+kernel) ?_))|refine Vc.stp ?_)<;>(intros;(conv=>whnf)))))
    rename_i Hl zl bl xl a8 c8 H8 ho8 hx68
    have hl7:(PF++[7]).length=PF.length+1:=by simp
    have hs7:strV (PF++[7])=strV PF++[Value.int .u8 7]:=by rw[strV_append];rfl
    exact⟨⟨PF++[7],a8,c8⟩,⟨by show Value.slice _ _ _=Value.slice _ _ _;rw[hl7],trivial⟩,by dsimp only;omega,by dsimp only;rw[hl7,hs7];exact ho8.base (by omega),hx6.trans hx68⟩
   ·((conv=>whnf);repeat(any_goals((first|(refine hix _ _ rfl ?_)|(refine rem10 ?_)|(first|(with_reducible refine Vc.DrawH.lin (id:=7) mixed ?_)|(with_reducible refine Vc.DrawL.split (es:=[]) 6 12 (by decide) (by decide) (by decide) ?_ ?_)|(with_reducible refine Vc.DrawL.split (es:=[(6,12)]) 8 12 (by decide) (by decide) (by decide) ?_ ?_)|(with_reducible refine Vc.DrawL.held (es:=[(8,12),(6,12)]) [0,1,2,3,4,5,7,6,8,9,10,11,12,13,14] [(6,[7])] (by decide+kernel) ?_)|(with_reducible refine Vc.DrawL.held (es:=[(12,8),(6,12)]) [0,1,2,3,4,5,7,6,12,8,9,10,11,13,14] [(6,[7]),(12,[7])] (by decide+kernel) ?_)|(with_reducible refine Vc.DrawL.held (es:=[(12,6)]) [0,1,2,3,4,5,7,12,6,8,9,10,11,13,14] [(12,[5,7]),(6,[7])] (by decide+kernel) ?_))|(first|(with_reducible refine Vc.DrawH.lin (id:=12) mixed ?_)|(with_reducible refine Vc.DrawL.split (es:=[]) 5 8 (by decide) (by decide) (by decide) ?_ ?_)|(with_reducible refine Vc.DrawL.split (es:=[(5,8)]) 5 13 (by decide) (by decide) (by decide) ?_ ?_)|(with_reducible refine Vc.DrawL.split (es:=[(5,13),(5,8)]) 8 13 (by decide) (by decide) (by decide) ?_ ?_)|(with_reducible refine Vc.DrawL.split (es:=[(8,13),(5,13),(5,8)]) 9 13 (by decide) (by decide) (by decide) ?_ ?_)|(with_reducible refine Vc.DrawL.held (es:=[(9,13),(8,13),(5,13),(5,8)]) [0,1,2,3,4,6,7,10,11,5,8,9,12,13,14] [(5,[6]),(8,[6]),(9,[6]),(13,[6])] (by decide+kernel) ?_)|(with_reducible refine Vc.DrawL.held (es:=[(13,9),(8,13),(5,13),(5,8)]) [0,1,2,3,4,6,7,10,11,5,8,13,9,12,14] [(5,[6]),(8,[6]),(13,[6]),(9,[6])] (by decide+kernel) ?_)|(with_reducible refine Vc.DrawL.held (es:=[(13,8),(5,13),(5,8)]) [0,1,2,3,4,6,7,10,11,5,13,8,9,12,14] [(5,[6]),(13,[6]),(8,[6]),(9,[6])] (by decide+kernel) ?_)|(with_reducible refine Vc.DrawL.held (es:=[(13,5),(5,8)]) [0,1,2,3,4,6,7,10,11,13,5,8,9,12,14] [(13,[4,6]),(5,[6]),(8,[6]),(9,[6])] (by decide+kernel) ?_)|(with_reducible refine Vc.DrawL.split (es:=[(8,5)]) 8 13 (by decide) (by decide) (by decide) ?_ ?_)|(with_reducible refine Vc.DrawL.split (es:=[(8,13),(8,5)]) 5 13 (by decide) (by decide) (by decide) ?_ ?_)|(with_reducible refine Vc.DrawL.split (es:=[(5,13),(8,13),(8,5)]) 9 13 (by decide) (by decide) (by decide) ?_ ?_)|(with_reducible refine Vc.DrawL.held (es:=[(9,13),(5,13),(8,13),(8,5)]) [0,1,2,3,4,6,7,10,11,8,5,9,12,13,14] [(8,[4,6]),(5,[6]),(9,[6]),(13,[6])] (by decide+kernel) ?_)|(with_reducible refine Vc.DrawL.held (es:=[(13,9),(5,13),(8,13),(8,5)]) [0,1,2,3,4,6,7,10,11,8,5,13,9,12,14] [(8,[4,6]),(5,[6]),(13,[6]),(9,[6])] (by decide+kernel) ?_)|(with_reducible refine Vc.DrawL.held (es:=[(13,5),(8,13),(8,5)]) [0,1,2,3,4,6,7,10,11,8,13,5,9,12,14] [(8,[4,6]),(13,[4,6]),(5,[6]),(9,[6])] (by decide+kernel) ?_)|(with_reducible refine Vc.DrawL.held (es:=[(13,8),(8,5)]) [0,1,2,3,4,6,7,10,11,13,8,5,9,12,14] [(13,[4,6]),(8,[4,6]),(5,[6]),(9,[6])] (by decide+kernel) ?_))|((with_reducible refine Vc.DrawH.held [0,1,2,3,4,5,6,7,8,10,11,12,13,9,14,15,16,17] [(9,[1,11]),(14,[1])] mixed (by decide+kernel) ?_))|refine Vc.stp ?_)<;>(intros;(conv=>whnf)))))
    exact⟨⟨PF,ba,bc⟩,⟨rfl,trivial⟩,by dsimp only;omega,hbo.base (by omega),hx57⟩
  rintro⟨B,ba,bc⟩ H8 ⟨hBl,hbo8,hx8⟩
  dsimp only at hBl hbo8 ⊢
  have hz8:=hx8.size
  have hx58:Ext H5 H8:=hx8
  have hx48:Ext H4 H8:=hx5.trans hx8
  have hx18:=And.intro trivial (hx14.2.trans hx48)
  have hx08:=And.intro trivial (hx1.trans hx18.2)
  have hbcl:=hbo8.cap_le
  refine SeqH.cut (fun(g:Nat)=>[(13,.pointer (some ⟨g,0,none⟩))]) (fun g H'=>Ext H8 H'∧H8.size≤g∧ ∃ (sum:List UInt8) (sz:Nat),sum.length=32∧sz≤10000000∧Blk H' g (rowC (nmN x.n) (verP x.v) va vc sum sz none 0 0).toArray 54) ?_ ?_
  ·
   ((conv=>whnf);repeat(any_goals((first|(refine hix _ _ rfl ?_)|(refine(sname_any x.n hb.n _).mono ?_;rintro _ _ ⟨rfl,rfl⟩)|((with_reducible apply SemH.load_ver);(exact hvv);(exact hx48.trans (by exact Vc.xt));(conv=>whnf))|(refine Vc.StillsH.load rfl rfl rfl rfl rfl rfl (by first|exact SemH.load_ver hvv (hx48.trans (by exact Vc.xt)) rfl|exact SemH.load_old rfl hc0 (hx08.2.trans (by exact Vc.xt)) rfl) ?_)|((fail_if_success (have:=bs));refine SemH.lit (vs:=[.slice ba B.length bc]) rfl rfl rfl rfl rfl rfl rfl ?_;intro Hs zs bs xs)|(refine(of_part (B:=B) (bs.ext (by exact Vc.xt)) hbcl (hbo8.row.ext (by exact Vc.xt)) hBl).mono ?_;rintro _ H9 ⟨⟨sm,hsm,rfl⟩,hx9⟩;have hz9:=hx9.size)|(show Go.Vc.PureH _ _ _;refine PureH.build4 _ (row_built (z:=B.length) hsm) ?_)|(rename_i Hl zl bl xl;(first|refine DoH.store_list bl rfl (by rw[rowC_len hsm];rfl) (by rw[rowC_len hsm];rfl) rowC_plain ?_|refine DoH.store_list (bl.ext (by exact Vc.xt)) rfl (by rw[rowC_len hsm];rfl) (by rw[rowC_len hsm];rfl) rowC_plain ?_);intro H10 z10 b10 k10;have hx10:Ext H8 H10:=Go.Vc.Ext.but (by exact Vc.xt) k10 (by omega))|(first|(with_reducible refine Vc.DrawH.lin (id:=12) mixed ?_)|(with_reducible refine Vc.DrawL.split (es:=[]) 5 8 (by decide) (by decide) (by decide) ?_ ?_)|(with_reducible refine Vc.DrawL.split (es:=[(5,8)]) 5 13 (by decide) (by decide) (by decide) ?_ ?_)|(with_reducible refine Vc.DrawL.split (es:=[(5,13),(5,8)]) 8 13 (by decide) (by decide) (by decide) ?_ ?_)|(with_reducible refine Vc.DrawL.split (es:=[(8,13),(5,13),(5,8)]) 9 13 (by decide) (by decide) (by decide) ?_ ?_)|(with_reducible refine Vc.DrawL.held (es:=[(9,13),(8,13),(5,13),(5,8)]) [0,1,2,3,4,6,7,10,11,5,8,9,12,13,14] [(5,[6]),(8,[6]),(9,[6]),(13,[6])] (by decide+kernel) ?_)|(with_reducible refine Vc.DrawL.held (es:=[(13,9),(8,13),(5,13),(5,8)]) [0,1,2,3,4,6,7,10,11,5,8,13,9,12,14] [(5,[6]),(8,[6]),(13,[6]),(9,[6])] (by decide+kernel) ?_)|(with_reducible refine Vc.DrawL.held (es:=[(13,8),(5,13),(5,8)]) [0,1,2,3,4,6,7,10,11,5,13,8,9,12,14] [(5,[6]),(13,[6]),(8,[6]),(9,[6])] (by decide+kernel) ?_)|(with_reducible refine Vc.DrawL.held (es:=[(13,5),(5,8)]) [0,1,2,3,4,6,7,10,11,13,5,8,9,12,14] [(13,[4,6]),(5,[6]),(8,[6]),(9,[6])] (by decide+kernel) ?_)|(with_reducible refine Vc.DrawL.split (es:=[(8,5)]) 8 13 (by decide) (by decide) (by decide) ?_ ?_)|(with_reducible refine Vc.DrawL.split (es:=[(8,13),(8,5)]) 5 13 (by decide) (by decide) (by decide) ?_ ?_)|(with_reducible refine Vc.DrawL.split (es:=[(5,13),(8,13),(8,5)]) 9 13 (by decide) (by decide) (by decide) ?_ ?_)|(with_reducible refine Vc.DrawL.held (es:=[(9,13),(5,13),(8,13),(8,5)]) [0,1,2,3,4,6,7,10,11,8,5,9,12,13,14] [(8,[4,6]),(5,[6]),(9,[6]),(13,[6])] (by decide+kernel) ?_)|(with_reducible refine Vc.DrawL.held (es:=[(13,9),(5,13),(8,13),(8,5)]) [0,1,2,3,4,6,7,10,11,8,5,13,9,12,14] [(8,[4,6]),(5,[6]),(13,[6]),(9,[6])] (by decide+kernel) ?_)|(with_reducible refine Vc.DrawL.held (es:=[(13,5),(8,13),(8,5)]) [0,1,2,3,4,6,7,10,11,8,13,5,9,12,14] [(8,[4,6]),(13,[4,6]),(5,[6]),(9,[6])] (by decide+kernel) ?_)|(with_reducible refine Vc.DrawL.held (es:=[(13,8),(8,5)]) [0,1,2,3,4,6,7,10,11,13,8,5,9,12,14] [(13,[4,6]),(8,[4,6]),(5,[6]),(9,[6])] (by decide+kernel) ?_))|refine Vc.stp ?_)<;>(intros;(conv=>whnf)))))
   all_goals exact⟨_,⟨rfl,trivial⟩,hx10,by omega,sm,B.length,hsm,hBl,b10⟩
  rintro g H9 ⟨hx89,hgl,sum,sz,hsl,hszl,bg⟩
  have hz9:=hx89.size
  obtain⟨ll,hll⟩: ∃ ll,x.lie % 12=ll:=⟨_,rfl⟩
  obtain⟨b3,hb3⟩: ∃ b3,sum[3]? =some b3:=⟨_,List.getElem?_eq_getElem (by omega)⟩
  have hk8:hcell H9 ⟨g,0+5+3,none⟩=some (.int .u8 b3.toNat):=blk_list bg 5 3 _ (row_sum (show rowC (nmN x.n) (verP x.v) va vc sum sz none 0 0=_ from rfl) 3 _ (by unfold strV;rw[List.getElem?_map,hb3];rfl))
  have hk37:hcell H9 ⟨g,0+37,none⟩=some (.int .i64 (sz:Int)):=blk_list bg 0 37 _ (by rw[Nat.zero_add];exact(row_last (show rowC (nmN x.n) (verP x.v) va vc sum sz none 0 0=_ from rfl) (by rw[strV_length];exact hsl)).1)
  refine SeqH.cut (fun(_:Unit)=>[]) (fun _ H'=>Ext H8 H'∧ ∃ (sum:List UInt8) (sz:Nat),sum.length=32∧sz≤20000000∧Blk H' g (rowC (nmN x.n) (verP x.v) va vc sum sz none 0 0).toArray 54) ?_ ?_
  ·
   by_cases h1:ll=1
   ·subst h1
    obtain⟨b4,hb4⟩:=xor_u8 (b3.toNat:Int) 4
    ((conv=>whnf);repeat(any_goals((first|(refine hix _ _ rfl ?_)|(refine rem12 ?_;rw[hll])|(refine IdxH.nat 3 rfl (by decide) ?_)|(rw[hb4];refine DoH.store1 (o:=8) bg rfl rfl rfl (by rw[List.size_toArray,rowC_len hsl];decide) ?_;intro H10 z10 b10 k10;rw[List.setIfInBounds_toArray,rowC_set8 hsl]at b10)|refine Vc.stp ?_)<;>(intros;(conv=>whnf)))))
    exact⟨(),trivial,hx89.but k10 hgl,sum.set 3 b4,sz,by rw[List.length_set];exact hsl,by omega,b10⟩
   by_cases h2:ll=2
   ·subst h2
    ((conv=>whnf);repeat(any_goals((first|(refine hix _ _ rfl ?_)|(refine rem12 ?_;rw[hll])|(rw[show((sz:Int)+9)=((sz+9:Nat):Int)by omega];refine DoH.store1 (o:=37) bg rfl rfl rfl (by rw[List.size_toArray,rowC_len hsl];decide) ?_;intro H10 z10 b10 k10;rw[List.setIfInBounds_toArray,rowC_set37 hsl]at b10)|refine Vc.stp ?_)<;>(intros;(conv=>whnf)))))
    exact⟨(),trivial,hx89.but k10 hgl,sum,sz+9,hsl,by omega,b10⟩
   by_cases h3:ll=3
   ·subst h3
    ((conv=>whnf);repeat(any_goals((first|(refine hix _ _ rfl ?_)|(refine rem12 ?_;rw[hll])|(rw[show max ((sz:Int)-9) 0=((sz-9:Nat):Int)by omega];refine DoH.store1 (o:=37) bg rfl rfl rfl (by rw[List.size_toArray,rowC_len hsl];decide) ?_;intro H10 z10 b10 k10;rw[List.setIfInBounds_toArray,rowC_set37 hsl]at b10)|refine Vc.stp ?_)<;>(intros;(conv=>whnf)))))
    exact⟨(),trivial,hx89.but k10 hgl,sum,sz-9,hsl,by omega,b10⟩
   by_cases h4:ll=4
   ·subst h4
    ((conv=>whnf);repeat(any_goals((first|(refine hix _ _ rfl ?_)|(refine rem12 ?_;rw[hll])|(refine(of_nil _).mono ?_;rintro _ H10 ⟨⟨sm,hsm,rfl⟩,hx10⟩;have hz10:=hx10.size)|(refine DoH.store1 (o:=37) (bg.ext hx10) rfl rfl rfl (by rw[List.size_toArray,rowC_len hsl];decide) ?_;intro H11 z11 b11 k11;rw[List.setIfInBounds_toArray,show(Value.int IntKind.i64 0)= .int .i64 ((0:Nat):Int)from rfl,rowC_set37 hsl]at b11)|refine Vc.stp ?_)<;>(intros;(conv=>whnf)))))
    refine DoH.store (o:=5) b11 rfl (by show(strV sm).toArray.size=32;rw[List.size_toArray,strV_length,hsm]) (fun u hu=>strV_plain sm u (by simpa [Value.cells]using hu)) (by show 5+32≤_;rw[List.size_toArray,rowC_len hsl];decide) ?_
    intro H12 z12 b12' k12
    have b12:Blk H12 g (over (rowC (nmN x.n) (verP x.v) va vc sum 0 none 0 0).toArray 5 (strV sm)) 54:=by simpa [Value.cells]using b12'
    rw[rowC_over hsl hsm]at b12
    ((conv=>whnf);repeat(any_goals((first|refine Vc.stp ?_)<;>(intros;(conv=>whnf)))))
    exact⟨(),trivial,((hx89.trans hx10).but k11 hgl).but k12 hgl,sm,0,hsm,by omega,b12⟩
   ((conv=>whnf);repeat(any_goals((first|(refine hix _ _ rfl ?_)|(refine rem12 ?_;rw[hll])|refine Vc.stp ?_)<;>(intros;(conv=>whnf)))))
   exact⟨(),trivial,hx89,sum,sz,hsl,by omega,bg⟩
  clear hk8 hk37 hb3 bg hz9 hx89
  rintro _ H9 ⟨hx89,sum,sz,hsl,hszl,bg⟩
  have hz9:=hx89.size
  ((conv=>whnf);repeat(any_goals((first|refine Vc.stp ?_)<;>(intros;(conv=>whnf)))))
  refine LoopH.intro (fun(y:NdS)=>[(14,.int .i64 y.k)]) (fun y H'=>y.k≤x.needs.length∧OwnE needT 4 H' H8.size 45 y.a (needsX (nmN x.n) (x.needs.take y.k)) y.cap∧Blk H' g (rowC (nmN x.n) (verP x.v) va vc sum sz y.a (needsX (nmN x.n) (x.needs.take y.k)).length y.cap).toArray 54∧Ext H8 H') (fun y=>x.needs.length-y.k) ⟨0,none,0⟩ ⟨rfl,trivial⟩ ⟨Nat.zero_le _,by dsimp only;rw[List.take_zero];exact OwnE.nil _ _ _ _ _,by dsimp only;rw[List.take_zero];exact bg,hx89⟩ ?_
  rintro⟨k,oa,oc⟩ HA ⟨hk,hoA,bgA,hx8A⟩
  dsimp only at hk hoA bgA ⊢
  have hzA:=hx8A.size
  have hx0A:=And.intro trivial (hx08.2.trans hx8A)
  obtain⟨l,hl⟩: ∃ l,needsX (nmN x.n) (x.needs.take k)=l:=⟨_,rfl⟩
  have hlen:=needsX_len (nmN x.n) (x.needs.take k)
  rw[List.length_take]at hlen
  have hx4:=hL x (List.mem_of_getElem? hxi)
  rw[hl]at hoA bgA hlen
  have hkN:hcell HA ⟨g,0+0,none⟩=some (.string (mkS (nmN x.n))):=blk_list bgA 0 0 _ rfl
  have hk38:hcell HA ⟨g,0+38,none⟩=some (.slice oa l.length oc):=blk_list bgA 0 38 _ (by rw[Nat.zero_add];exact(row_last (show rowC (nmN x.n) (verP x.v) va vc sum sz oa l.length oc=_ from rfl) (by rw[strV_length];exact hsl)).2)
  by_cases hkl:k<x.needs.length
  ·
   obtain⟨j,hj⟩: ∃ j,x.needs[k]? =some j:=⟨_,List.getElem?_eq_getElem hkl⟩
   have hj16:=hb.needs j (List.mem_of_getElem? hj)
   have hsn:=needsX_snoc (nmN x.n) hj
   rw[hl]at hsn
   obtain⟨B0,hB0⟩: ∃ B0,((mkS (nmN (j % 6))).toList==(mkS (nmN x.n)).toList)=B0:=⟨_,rfl⟩
   have hcond:(B0 || l.any fun z=>decide (z.name=(needI j).name))=true↔((needI j).name=nmN x.n∨ ∃ z∈l,z.name=(needI j).name):=by
    rw[←hB0,str_mk,Bool.or_eq_true,decide_eq_true_eq,List.any_eq_true]
    simp only[decide_eq_true_eq]
    exact Iff.rfl
   ((conv=>whnf);repeat(any_goals((first|(refine quo6 hj16 ?_)|(refine rem6 ?_)|(refine rem10 ?_)|(refine(sname_any (j % 6) (by omega) _).mono ?_;rintro _ _ ⟨rfl,rfl⟩)|(refine(sspan_any (j / 6 % 10) (by omega) _).mono ?_;rintro _ HB ⟨rfl,hxB⟩;have hzB:=hxB.size)|(refine(rspan_any (spnN (j / 6 % 10)) (by have:=spnN_len (j / 6 % 10);omega) _).mono ?_;rintro _ HC ⟨hsp,hxC⟩;have hzC:=hxC.size;rw[spn_some]at hsp;obtain⟨sa,sc,rfl,hso⟩:=hsp)|(refine hix _ _ rfl ?_)|(refine IdxA.intN (hnr.ext hx0A.2) rfl k j rfl hj ?_;intro _ _ _)|refine Vc.stp ?_)<;>(intros;(conv=>whnf)))))
   refine LoopH.intro (fun(y:ThS)=>[(18,.int .i64 y.j),(17,.bool y.b)]) (fun y H'=>HB=H'∧y.j≤l.length∧y.b=(B0 || (l.take y.j).any fun z=>decide (z.name=(needI j).name))) (fun y=>l.length-y.j) ⟨0,B0⟩ ⟨rfl,by rw[←hB0];rfl,trivial⟩ ⟨rfl,Nat.zero_le _,by simp⟩ ?_
   rintro⟨t,tb⟩ _ ⟨rfl,ht,hbt⟩
   dsimp only at ht hbt ⊢
   have hoB:=hoA.ext needT_ok.ok hxB
   by_cases htl:t<l.length
   ·obtain⟨z,hz⟩: ∃ z,l[t]? =some z:=⟨_,List.getElem?_eq_getElem htl⟩
    have hany:((l.take (t+1)).any fun z=>decide (z.name=(needI j).name))=(((l.take t).any fun z=>decide (z.name=(needI j).name)) || decide (z.name=(needI j).name)):=by
     rw[List.take_add_one,hz,List.any_append];simp
    have e2:((mkS z.name).toList==(mkS (nmN (j % 6))).toList)=decide (z.name=(needI j).name):=str_mk _ _
    cases tb with
    |true=>
     ((conv=>whnf);repeat(any_goals((first|refine Vc.stp ?_)<;>(intros;(conv=>whnf)))))
     exact⟨⟨t+1,true⟩,⟨rfl,rfl,trivial⟩,⟨rfl,htl,by(show true=_;rw[hany,←Bool.or_assoc,←hbt];rfl)⟩,by show l.length-(t+1)<l.length-t;omega⟩
    |false=>
     ((conv=>whnf);repeat(any_goals((first|(refine IdxA.el needT_ok.ok (by decide) hoB.row rfl t z rfl hz ?_;intro bx ox cx hcX hcl';obtain⟨xa,xc,ex,_,_⟩:=(id hcX);have hc0':hcell _ ⟨bx,ox+0,none⟩=some (Value.string (mkS z.name)):=hcl' 0 _ (by rw[ex];rfl))|refine Vc.stp ?_)<;>(intros;(conv=>whnf)))))
     exact⟨⟨t+1,((mkS z.name).toList==(mkS (nmN (j % 6))).toList)⟩,⟨rfl,rfl,trivial⟩,⟨rfl,htl,by(show((mkS z.name).toList==(mkS (nmN (j % 6))).toList)=_;rw[hany,←Bool.or_assoc,←hbt,e2];rfl)⟩,by show l.length-(t+1)<l.length-t;omega⟩
   ·obtain rfl:t=l.length:=by omega
    rw[List.take_length]at hbt
    rw[←hbt]at hcond
    cases tb with
    |true=>
     have hsn':needsX (nmN x.n) (x.needs.take (k+1))=l:=by rw[hsn];unfold insX;rw[if_pos (hcond.1 rfl)]
     ((conv=>whnf);repeat(any_goals((first|refine Vc.stp ?_)<;>(intros;(conv=>whnf)))))
     exact⟨⟨k+1,oa,oc⟩,⟨rfl,trivial⟩,⟨hkl,by dsimp only;rw[hsn'];exact hoB,by dsimp only;rw[hsn'];exact bgA.ext hxB,hx8A.trans hxB⟩,by show x.needs.length-(k+1)<x.needs.length-k;omega⟩
    |false=>
     have hsn':needsX (nmN x.n) (x.needs.take (k+1))=insN l (needI j):=by rw[hsn];unfold insX;rw[if_neg (fun h=>by have:=hcond.2 h;cases this)]
     ((conv=>whnf);repeat(any_goals((first|(refine quo6 hj16 ?_)|(refine rem6 ?_)|(refine rem10 ?_)|(refine(sname_any (j % 6) (by omega) _).mono ?_;rintro _ _ ⟨rfl,rfl⟩)|(refine(sspan_any (j / 6 % 10) (by omega) _).mono ?_;rintro _ HB ⟨rfl,hxB⟩;have hzB:=hxB.size)|(refine(rspan_any (spnN (j / 6 % 10)) (by have:=spnN_len (j / 6 % 10);omega) _).mono ?_;rintro _ HC ⟨hsp,hxC⟩;have hzC:=hxC.size;rw[spn_some]at hsp;obtain⟨sa,sc,rfl,hso⟩:=hsp)|refine Vc.stp ?_)<;>(intros;(conv=>whnf)))))
     rename_i HD zD bD xD HE zE bE kE
     have hxCE:Ext HC HE:=xD.but kE (Nat.le_refl _)
     have hxAE:=And.intro trivial (hxB.trans (hxC.trans hxCE))
     have hoE:=hoA.ext needT_ok.ok hxAE.2
     have bgE:=bgA.ext hxAE.2
     have hkE:hcell HE ⟨g,0+38,none⟩=some (.slice oa l.length oc):=hcell_keep hk38 hxAE.2 id
     have hzE:=hxAE.2.size
     have hcl:=hoE.cap_le
     refine LoopH.intro (fun(t:Nat)=>[(21,.int .i64 t)]) (fun t H'=>HE=H'∧t≤l.length∧ ∀ q x,q<t→l[q]? =some x→Op.bytesLess x.name (needI j).name=true) (fun t=>l.length-t) 0 ⟨rfl,trivial⟩ ⟨rfl,Nat.zero_le _,fun q x h=>absurd h (Nat.not_lt_zero _)⟩ ?_
     rintro t _ ⟨rfl,ht,hless⟩
     have htl:(l.take t).length=t:=by rw[List.length_take];omega
     have hdl:(l.drop t).length=l.length-t:=List.length_drop
     have hnT: ∀ H',Ext HE H'→needT H' (needI j) [.string (mkS (nmN (j % 6))),.bool (spnP (j / 6 % 10)).any,.slice sa (spnP (j / 6 % 10)).or_.length sc,.string (mkS (spnN (j / 6 % 10)))]:=fun H' k=>⟨sa,sc,rfl,hso.cap_le,(hso.ext bndsT_ok.ok (hxCE.trans k)).rowL⟩
     by_cases htn:t<l.length
     ·obtain⟨z,hz⟩: ∃ z,l[t]? =some z:=⟨_,List.getElem?_eq_getElem htn⟩
      have e1:Op.bytesLess (mkS z.name).toList (mkS (nmN (j % 6))).toList=Op.bytesLess z.name (needI j).name:=by rw[toListS,toListS];rfl
      by_cases hls:Op.bytesLess z.name (needI j).name=true
      ·rw[hls]at e1
       ((conv=>whnf);repeat(any_goals((first|(refine IdxA.el needT_ok.ok (by decide) hoE.row rfl t z rfl hz ?_;intro bx ox cx hcX hcl';obtain⟨xa,xc,ex,_,_⟩:=(id hcX);have hc0':hcell _ ⟨bx,ox+0,none⟩=some (Value.string (mkS z.name)):=hcl' 0 _ (by rw[ex];rfl))|refine Vc.stp ?_)<;>(intros;(conv=>whnf)))))
       exact⟨t+1,⟨rfl,trivial⟩,⟨rfl,by omega,fun q y hq hy=>by
        by_cases hqt:q=t
        ·subst hqt;rw[hz]at hy;cases hy;exact hls
        ·exact hless q y (by omega) hy⟩,by omega⟩
      ·have hls:Op.bytesLess z.name (needI j).name=false:=by simpa using hls
       rw[hls]at e1
       have hins:=insN_at l (needI j) t hless (by omega) (fun y hy=>by rw[hz]at hy;cases hy;exact hls)
       have hzne: ¬z.name=(needI j).name:=fun e=>by have:=hcond.2 (.inr ⟨z,List.mem_of_getElem? hz,e⟩);cases this
       rw[hz,Option.map_some,if_neg (fun e=>hzne (Option.some.inj e))]at hins
       rw[hins]at hsn'
       ((conv=>whnf);repeat(any_goals((first|(refine IdxA.el needT_ok.ok (by decide) hoE.row rfl t z rfl hz ?_;intro bx ox cx hcX hcl';obtain⟨xa,xc,ex,_,_⟩:=(id hcX);have hc0':hcell _ ⟨bx,ox+0,none⟩=some (Value.string (mkS z.name)):=hcl' 0 _ (by rw[ex];rfl))|(refine BndH.nat t rfl (by omega) ?_)|(show Go.Vc.PureH _ _ _;refine PureH.build3 _ need_built ?_)|(refine Vc.StillsH.load rfl rfl rfl rfl rfl rfl (by exact SemH.load_old rfl hkE (by exact Vc.xt) rfl) ?_)|(have:=hoG;refine NextH.full1 needT_ok.ok rfl ⟨_,rfl,fun _ h=>by cases h⟩ rfl rfl rfl rfl (by decide) ((hoE.row.ext needT_ok.ok hxEG).take needT_ok.ok t) (by rw[List.length_take];omega) hoG.row (by rw[List.length_cons,List.length_drop];omega) (by omega) (by omega) ?_;intro cI HI hoI hxI;have hzI:=hxI.size)|(rename_i Hl zl bl xl;refine NextH.pre1 needT_ok (c:=[.string (mkS (nmN (j % 6))),.bool (spnP (j / 6 % 10)).any,.slice sa (spnP (j / 6 % 10)).or_.length sc,.string (mkS (spnN (j / 6 % 10)))]) rfl ⟨_,rfl,fun _ h=>by cases h⟩ rfl rfl rfl rfl (by decide) (by decide) bl (hnT _ xl) ((hoE.row.ext needT_ok.ok xl).drop needT_ok.ok oc t (fun e=>by omega)) List.length_drop (by omega) ?_;intro aG cG HG hoG hwG;have hxEG:Ext HE HG:=xl.but hwG (by omega);have hzG:=hxEG.size)|(refine DoH.store1 (o:=38) (bgE.ext (hxEG.trans hxI)) rfl rfl rfl (by rw[List.size_toArray,rowC_len hsl];decide) ?_;intro HJ zJ bJ kJ;rw[List.setIfInBounds_toArray,rowC_set38 hsl]at bJ)|((with_reducible refine Vc.DrawH.held [0,1,2,3,4,5,6,7,8,10,11,12,13,9,14,15,16,17] [(9,[1,11]),(14,[1])] mixed (by decide+kernel) ?_))|refine Vc.stp ?_)<;>(intros;(conv=>whnf)))))
       all_goals
        have hlen2:(l.take t++needI j::l.drop t).length=t+(1+(l.length-t)):=by rw[List.length_append,List.length_take,List.length_cons,List.length_drop];omega
        exact⟨⟨k+1,some ⟨HG.size,0,none⟩,cI⟩,⟨rfl,trivial⟩,⟨hkl,by(dsimp only;rw[hsn'];exact(hoI.keep needT_ok kJ (fun b c u e hb=>by subst e;rw[hb.typ (bgE.ext (hxEG.trans hxI))];decide) (fun p hp=>by cases hp;have:=bgE.lt;show ¬HG.size=g;omega)).base (by omega)),by(dsimp only;rw[hsn',hlen2];exact bJ),(hx8A.trans (hxAE.2.trans (hxEG.trans hxI))).but kJ hgl⟩,by show x.needs.length-(k+1)<x.needs.length-k;omega⟩
     ·obtain rfl:t=l.length:=by omega
      have hins:=insN_at l (needI j) l.length hless (Nat.le_refl _) (fun y hy=>by simp at hy)
      rw[show l[l.length]? =none by simp,if_neg (by simp)]at hins
      rw[hins]at hsn'
      obtain⟨t,ht0⟩: ∃ t,t=l.length:=⟨_,rfl⟩
      rw[←ht0]at hsn' htl hdl
      ((conv=>whnf);repeat(any_goals((first|(refine IdxA.el needT_ok.ok (by decide) hoE.row rfl t z rfl hz ?_;intro bx ox cx hcX hcl';obtain⟨xa,xc,ex,_,_⟩:=(id hcX);have hc0':hcell _ ⟨bx,ox+0,none⟩=some (Value.string (mkS z.name)):=hcl' 0 _ (by rw[ex];rfl))|(refine BndH.nat t (by rw[ht0]) (by omega) ?_)|(show Go.Vc.PureH _ _ _;refine PureH.build3 _ need_built ?_)|(refine Vc.StillsH.load rfl rfl rfl rfl rfl rfl (by exact SemH.load_old rfl hkE (by exact Vc.xt) rfl) ?_)|(have:=hoG;refine NextH.full1 needT_ok.ok rfl ⟨_,rfl,fun _ h=>by cases h⟩ rfl rfl rfl rfl (by decide) ((hoE.row.ext needT_ok.ok hxEG).take needT_ok.ok t) (by rw[List.length_take];omega) hoG.row (by rw[List.length_cons,List.length_drop];omega) (by omega) (by omega) ?_;intro cI HI hoI hxI;have hzI:=hxI.size)|(rename_i Hl zl bl xl;refine NextH.pre1 needT_ok (c:=[.string (mkS (nmN (j % 6))),.bool (spnP (j / 6 % 10)).any,.slice sa (spnP (j / 6 % 10)).or_.length sc,.string (mkS (spnN (j / 6 % 10)))]) rfl ⟨_,rfl,fun _ h=>by cases h⟩ rfl rfl rfl rfl (by decide) (by decide) bl (hnT _ xl) ((hoE.row.ext needT_ok.ok xl).drop needT_ok.ok oc t (fun e=>by omega)) List.length_drop (by omega) ?_;intro aG cG HG hoG hwG;have hxEG:Ext HE HG:=xl.but hwG (by omega);have hzG:=hxEG.size)|(refine DoH.store1 (o:=38) (bgE.ext (hxEG.trans hxI)) rfl rfl rfl (by rw[List.size_toArray,rowC_len hsl];decide) ?_;intro HJ zJ bJ kJ;rw[List.setIfInBounds_toArray,rowC_set38 hsl]at bJ)|((with_reducible refine Vc.DrawH.held [0,1,2,3,4,5,6,7,8,10,11,12,13,9,14,15,16,17] [(9,[1,11]),(14,[1])] mixed (by decide+kernel) ?_))|refine Vc.stp ?_)<;>(intros;(conv=>whnf)))))
      all_goals
       have hlen2:(l.take t++needI j::l.drop t).length=t+(1+(l.length-t)):=by rw[List.length_append,List.length_take,List.length_cons,List.length_drop];omega
       exact⟨⟨k+1,some ⟨HG.size,0,none⟩,cI⟩,⟨rfl,trivial⟩,⟨hkl,by(dsimp only;rw[hsn'];exact(hoI.keep needT_ok kJ (fun b c u e hb=>by subst e;rw[hb.typ (bgE.ext (hxEG.trans hxI))];decide) (fun p hp=>by cases hp;have:=bgE.lt;show ¬HG.size=g;omega)).base (by omega)),by(dsimp only;rw[hsn',hlen2];exact bJ),(hx8A.trans (hxAE.2.trans (hxEG.trans hxI))).but kJ hgl⟩,by show x.needs.length-(k+1)<x.needs.length-k;omega⟩
  ·obtain rfl:k=x.needs.length:=by omega
   rw[List.take_length]at hl
   have hrw:=fun q u hu=>blk_list bgA 0 q u (by rw[Nat.zero_add];exact hu)
   have hx1A:=And.intro trivial (hx18.2.trans hx8A)
   ((conv=>whnf);repeat(any_goals((first|(refine hix _ _ rfl ?_)|refine Vc.stp ?_)<;>(intros;(conv=>whnf)))))
   refine SemH.load_irow (c:=rowC (nmN x.n) (verP x.v) va vc sum sz oa l.length oc) (rowC_len hsl) hrw (Ext.refl _) ?_
   ((conv=>whnf);repeat(any_goals((first|refine Vc.stp ?_)<;>(intros;(conv=>whnf)))))
   refine SemH.lit (vs:=[.agg (rowC (nmN x.n) (verP x.v) va vc sum sz oa l.length oc).toArray]) rfl rfl rfl rfl rfl rfl (by show(Nat.beq (rowC (nmN x.n) (verP x.v) va vc sum sz oa l.length oc).toArray.size 39&&true)=true;rw[List.size_toArray,rowC_len hsl];rfl) ?_
   intro HL zL bL' xL
   have bL:Blk HL HA.size (rowC (nmN x.n) (verP x.v) va vc sum sz oa l.length oc).toArray 54:=by simpa [Value.cells]using bL'
   ((conv=>whnf);repeat(any_goals((first|refine Vc.stp ?_)<;>(intros;(conv=>whnf)))))
   have hxL:=hx1A.2.trans xL
   have hrT:rowT HL (rowI x (sum,(sz:Int))) (rowC (nmN x.n) (verP x.v) va vc sum sz oa l.length oc):=⟨va,vc,oa,oc,by unfold rowC rowI;rw[hl],hsl,hvl,(hvo.rowT).ext (hx34.trans (hx48.trans (hx8A.trans xL))),by(show(needsX (nmN x.n) x.needs).length≤oc;rw[hl];exact hoA.cap_le),by(show RowL needT _ HL oa (needsX (nmN x.n) x.needs);rw[hl];exact(hoA.ext needT_ok.ok xL).rowL)⟩
   have hoL:=hor.ext rowT_ok.ok hxL
   have haL:=hoa.ext anyE_ok.ok hxL
   have hzL:=hxL.size
   refine NextH.appE rowT_ok rfl ⟨_,rfl,fun _ h=>by cases h⟩ rfl rfl rfl rfl (by decide) (by unfold rowTT;decide) hoL rfl (Blk.row bL) (LstV.one hrT) rfl (by omega) (by omega) ?_
   intro aR cR HR hoR hwR hfR
   have haR:OwnE anyE 1 HR H.size 68 aa A ac:=haL.keep anyE_ok hwR (fun _ _ _ _ _ e=>e) (fun p hp ⟨q,hq,e⟩=>by
    obtain⟨c1,g1⟩:=haL.typ p hp
    obtain⟨c2,g2⟩:=hoL.typ q hq
    rw[e]at g2
    exact absurd (g1.typ g2) (by decide))
   have hxR:Ext H HR:=ext_wr2 (n:=HL.size) (hx1.trans hxL) (fun p hp=>hoL.block p hp) hwR
   have hzR:=hwR.size
   ((conv=>whnf);repeat(any_goals((first|refine Vc.stp ?_)<;>(intros;(conv=>whnf)))))
   rename_i HS zS bS xS
   have hoS:=hoR.ext rowT_ok.ok xS
   have haS:=haR.ext anyE_ok.ok xS
   refine NextH.appE anyE_ok rfl ⟨_,rfl,fun _ h=>by cases h⟩ rfl rfl rfl rfl (by decide) id haS rfl (Blk.row bS) (LstV.one (x:=Value.slice ba B.length bc) ⟨rfl,rfl⟩) rfl (by omega) (by omega) ?_
   intro aX cX HX hoX hwX hfX
   have hoXr:OwnE rowT 39 HX H.size 54 aR (R++[rowI x (sum,(sz:Int))]) cR:=hoS.keep rowT_ok hwX (fun b c u ⟨q,hq,e⟩ hb=>by
    obtain⟨c1,g1⟩:=haS.typ q hq
    rw[e]at g1
    rw[hb.typ g1]
    unfold rowTT;decide) (fun p hp ⟨q,hq,e⟩=>by
    obtain⟨c1,g1⟩:=hoS.typ p hp
    obtain⟨c2,g2⟩:=haS.typ q hq
    rw[e]at g2
    exact absurd (g1.typ g2) (by decide))
   have hxX:Ext H HX:=ext_wr2 (n:=HS.size) (hxR.trans xS) (fun p hp=>haS.block p hp) hwX
   have hl1:(R++[rowI x (sum,(sz:Int))]).length=R.length+1:=by simp
   have hl2:(A++[Value.slice ba B.length bc]).length=A.length+1:=by simp
   ((conv=>whnf);repeat(any_goals((first|refine Vc.stp ?_)<;>(intros;(conv=>whnf)))))
   exact⟨⟨i+1,S++[(sum,(sz:Int))],aR,cR,A++[Value.slice ba B.length bc],aX,cX⟩,⟨rfl,by(show Value.slice _ _ _=Value.slice _ _ _;rw[hst',hl1]),by(show Value.slice _ _ _=Value.slice _ _ _;rw[hl2]),trivial⟩,⟨by show i+1≤n;omega,by show(S++[_]).length=i+1;rw[List.length_append,hS];rfl,by
    dsimp only
    rw[hst']
    intro r hr
    rcases List.mem_append.1 hr with hr|hr
    ·exact hsz r hr
    ·rw[List.mem_singleton]at hr;subst hr
     exact⟨sz,rfl,by omega⟩,by show(A++[_]).length≤i+1;omega,by dsimp only;rw[hst'];exact hoXr,hoX,hxX⟩,by show n-(i+1)<n-i;omega⟩
 ·obtain rfl:i=n:=by omega
  rw[List.take_of_length_le (by omega)]at hor hsz hMok hMB hMl
  have hIB:ItB (madeF (L.zip S)):=⟨hsz,fun r hr=>by
   obtain⟨x,s,rfl,_⟩:=hMok.row r hr
   have:=nmN_ne x.n
   show(nmN x.n).length≤100
   omega,fun r hr=>by
   obtain⟨x,s,rfl,hx4⟩:=hMok.row r hr
   have:=needsX_len (nmN x.n) x.needs
   refine⟨by show(needsX (nmN x.n) x.needs).length≤10;omega,fun n hn=> ?_⟩
   obtain⟨j,rfl⟩:=needsX_mem hn
   have h1:=nmN_ne (j % 6)
   have h2:=spnN_len (j / 6 % 10)
   exact⟨by show(nmN (j % 6)).length≤100;omega,by show(spnN (j / 6 % 10)).length≤100;omega⟩⟩
  have hMl2:(madeF (L.zip S)).length≤i:=by omega
  ((conv=>whnf);repeat(any_goals((first|(refine(rindex_any (madeF (L.zip S)) hMB hIB ra _ rc _ (hor.rowL.to fun _ _=>rowT_E) (by rw[List.take_of_length_le (by omega)]) (by rw[List.take_of_length_le (by omega)];omega)).mono ?_;rintro _ H2 ⟨⟨s,rfl⟩,hx2⟩)|refine Vc.stp ?_)<;>(intros;(conv=>whnf)))))
  exact⟨⟨S,ra,rc,aa,A.length,ac,s,hS,by rw[List.take_of_length_le (by omega)];rfl,(hor.ext rowT_ok.ok hx2).rowL.to fun _ _=>rowT_E,hor.cap_le⟩,hx1.trans hx2⟩
end Go.Proofs.YtjdieklgoepdjaaGreatDoor
