import Derived.Test.YtphkaogbcfdllaaGreatDoorKk
set_option linter.unusedVariables false
set_option linter.unusedSimpArgs false
set_option maxRecDepth 100000
/- VmRuns. -/
namespace Go.Run
open Go.Scr Go.Pth Go.Tre
open Go.Vc (mget mput)
def ruV (a b:Txt):Vars:=mput (mput [] [118] a) [110,97,109,101] b
theorem ruV_fit {a b:Txt} (ha:a.length≤65536) (hb:b.length≤65536):Fit (some (ruV a b)):=Fit.put (Fit.put (fun k=>Nat.zero_le _) ha) hb
end Go.Run
namespace Go.Proofs.YtphkaogbcfdllaaGreatDoor
open Go Go.Vc Go.Scr Go.Pth Go.Tre Go.Blk Go.Run
theorem place18_any (k:Int) (n:Nat) (h0:0<n) (hn:n≤1000000000) (H:Heap):CallH Tryz.prog 28 [.int .i64 k,.int .i64 n] H fun v H'=>(∃ i:Nat,v= .int .i64 i∧i<n)∧H=H':=by
 obtain⟨m,rfl⟩: ∃ m,n=m+1:=⟨n-1,by omega⟩
 refine Vc.CallH.body Tryz.func28 Tryz.call28 rfl (by decide+kernel) rfl ?_
 have hb:=tmod_bound k m
 obtain⟨r,hr⟩: ∃ r,k.tmod ((m:Int)+1)=r:=⟨_,rfl⟩
 rw[hr]at hb
 by_cases hneg:r<0
 ·((conv=>whnf);repeat(any_goals((first|(refine RemH.mk ⟨by omega,?_⟩;rw[show k.tmod ((m+1:Nat):Int)=r from hr])|refine Vc.stp ?_|refine Vc.spl ?_ ?_)<;>(intros;(conv=>whnf)))))
  exact⟨⟨(r+((m+1:Nat):Int)).toNat,by show Value.int _ _=_;congr 1;omega,by omega⟩,rfl⟩
 ·((conv=>whnf);repeat(any_goals((first|(refine RemH.mk ⟨by omega,?_⟩;rw[show k.tmod ((m+1:Nat):Int)=r from hr])|refine Vc.stp ?_|refine Vc.spl ?_ ?_)<;>(intros;(conv=>whnf)))))
  exact⟨⟨r.toNat,by show Value.int _ _=_;congr 1;omega,by omega⟩,rfl⟩
theorem end_line (at_ e:Nat):wrS [([108,105,110,101],Lib.itoa (at_:Int))] (basT (.num (e:Int)))=[108,105,110,101,32]++Lib.itoa (at_:Int)++[58,32,101,114,114,32]++Lib.itoa (e:Int):=by
 simp[wrS,basT,errS]
theorem szL (l:List UInt8):ByteArray.size ⟨l.toArray⟩=l.length:=rfl
theorem szM (l:List UInt8):(mkS l).size=l.length:=rfl
theorem end_eq (at_ e:Nat):((mkS (wrS [([108,105,110,101],Lib.itoa (at_:Int))] (basT (.num (e:Int))))).toList==((((⟨#[108,105,110,101,32]⟩:ByteArray)++mkS (Lib.itoa (at_:Int)))++(⟨#[58,32,101,114,114,32]⟩:ByteArray))++mkS (Lib.itoa (e:Int))).toList)=true:=by
 rw[end_line,←mkS_app,←mkS_app,←mkS_app]
 exact beq_self_eq_true _
set_option maxHeartbeats 4000000 in
theorem runs_any {H:Heap} (hg:Glb H) (hH:2≤H.size) (s:Bs) (hsl:s.length≤9223372036854775807) (FL:Tr) (fa:Option Addr) (nf cf:Nat) (hrf:RowF H fa FL) (hnf:FL.length=nf) (a b:Bs) (ha:a.length≤9223372036854775807) (hb:b.length≤9223372036854775807) (fuel:Int):
  CallH Tryz.prog 6 [.string (mkS s),.slice fa nf cf,.string (mkS a),.string (mkS b),.int .i64 fuel] H fun v H'=>v= .bool true∧Ext H H':=by
 have hsa:(mkS a).size=a.length:=rfl
 have hsb:(mkS b).size=b.length:=rfl
 have hlc:=fun H1 (k:Ext H H1)=>light18_any s FL fa nf cf H1 (hrf.ext k) hnf hsl
 refine Vc.CallH.body Tryz.func6 Tryz.call6 rfl (by decide+kernel) rfl ?_
 cases hli:(decide (s.length<2000)&&lightF FL)with
 |false=>
  rw[hli]at hlc
  ((conv=>whnf);repeat(any_goals((first|(refine(known18_any hg hH).mono ?_;rintro _ H1 ⟨rfl,hx1⟩;have hz1:=hx1.size)|(refine(hlc _ (by exact Vc.xt)).mono ?_;rintro _ _ ⟨rfl,rfl⟩)|((with_reducible refine Vc.DrawH.held [0,1,2,3,4,5,6,7,8,9,11,10,12,13,14,15,17,18,19,20,16,21,22,23,24,25,27,26,28,29,30] [(16,[20])] mixed (by decide+kernel) ?_))|refine Vc.stp ?_)<;>(intros;(conv=>whnf)))))
  exact⟨rfl,hx1⟩
 |true=>
  rw[hli]at hlc
  by_cases hba:60<a.length
  ·((conv=>whnf);repeat(any_goals((first|(refine(known18_any hg hH).mono ?_;rintro _ H1 ⟨rfl,hx1⟩;have hz1:=hx1.size)|(refine(hlc _ (by exact Vc.xt)).mono ?_;rintro _ _ ⟨rfl,rfl⟩)|((with_reducible refine Vc.DrawH.held [0,1,2,3,4,5,6,7,8,9,11,10,12,13,14,15,17,18,19,20,16,21,22,23,24,25,27,26,28,29,30] [(16,[20])] mixed (by decide+kernel) ?_))|refine Vc.stp ?_)<;>(intros;(conv=>whnf)))))
   exact⟨rfl,hx1⟩
  by_cases hbb:60<b.length
  ·((conv=>whnf);repeat(any_goals((first|(refine(known18_any hg hH).mono ?_;rintro _ H1 ⟨rfl,hx1⟩;have hz1:=hx1.size)|(refine(hlc _ (by exact Vc.xt)).mono ?_;rintro _ _ ⟨rfl,rfl⟩)|((with_reducible refine Vc.DrawH.held [0,1,2,3,4,5,6,7,8,9,11,10,12,13,14,15,17,18,19,20,16,21,22,23,24,25,27,26,28,29,30] [(16,[20])] mixed (by decide+kernel) ?_))|refine Vc.stp ?_)<;>(intros;(conv=>whnf)))))
   exact⟨rfl,hx1⟩
  obtain⟨hs2,hlf⟩:s.length<2000∧lightF FL=true:=by simpa using hli
  obtain⟨h20,hfl⟩:=(light_iff FL).1 hlf
  have hpr:=fun H=>rparse_any s (by omega) H
  rcases hP:parseF s with ⟨_|L,i⟩
  ·rw[hP]at hpr
   ((conv=>whnf);repeat(any_goals((first|(refine(known18_any hg hH).mono ?_;rintro _ H1 ⟨rfl,hx1⟩;have hz1:=hx1.size)|(refine(hlc _ (by exact Vc.xt)).mono ?_;rintro _ _ ⟨rfl,rfl⟩)|(refine(hpr _).mono ?_;rintro _ H2 ⟨rfl,hx2⟩;have hz2:=hx2.size)|((with_reducible refine Vc.DrawH.held [0,1,2,3,4,5,6,7,8,9,11,10,12,13,14,15,17,18,19,20,16,21,22,23,24,25,27,26,28,29,30] [(16,[20])] mixed (by decide+kernel) ?_))|refine Vc.stp ?_)<;>(intros;(conv=>whnf)))))
   exact⟨rfl,hx1.trans hx2⟩
  rw[hP]at hpr
  obtain⟨hlens,h200⟩:=parse_len hP
  have hne:Nested (kindsL L):=nested_of hP
  have hlens2: ∀ x∈L,x.a.length≤1000000∧x.b.length≤1000000∧x.tx.length≤1000000∧x.n≤1000000:=fun x hx=>by
   have:=hlens x hx
   exact⟨by have:=this.a;omega,by have:=this.b;omega,by have:=this.tx;omega,by have:=this.n;omega⟩
  ((conv=>whnf);repeat(any_goals((first|(refine(known18_any hg hH).mono ?_;rintro _ H1 ⟨rfl,hx1⟩;have hz1:=hx1.size)|(refine(hlc _ (by exact Vc.xt)).mono ?_;rintro _ _ ⟨rfl,rfl⟩)|(refine(hpr _).mono ?_;rintro _ H2 ⟨⟨a2,c2,rfl,ho2⟩,hx2⟩;have hz2:=hx2.size;have hr2:=ho2.row)|(refine(small18_any (hr2.ext (by exact Vc.xt)) rfl (by omega) (fun x hx=>⟨(hlens2 x hx).1,(hlens2 x hx).2.1,(hlens2 x hx).2.2.1⟩)).mono ?_;rintro _ _ ⟨⟨B,rfl,hB⟩,rfl⟩)|((with_reducible refine Vc.DrawH.held [0,1,2,3,4,5,6,7,8,9,11,10,12,13,14,15,17,18,19,20,16,21,22,23,24,25,27,26,28,29,30] [(16,[20])] mixed (by decide+kernel) ?_))|refine Vc.stp ?_)<;>(intros;(conv=>whnf)))))
  cases B with
  |false=>
   ((conv=>whnf);repeat(any_goals((first|((with_reducible refine Vc.DrawH.held [0,1,2,3,4,5,6,7,8,9,11,10,12,13,14,15,17,18,19,20,16,21,22,23,24,25,27,26,28,29,30] [(16,[20])] mixed (by decide+kernel) ?_))|refine Vc.stp ?_)<;>(intros;(conv=>whnf)))))
   exact⟨rfl,hx1.trans hx2⟩
  |true=>
  have hlens3: ∀ x∈L,x.a.length≤1500∧x.b.length≤1500∧x.tx.length≤15000∧x.n≤1000000:=fun x hx=>by
   have h1:=hB rfl x hx
   have h2:=hlens2 x hx
   have h3:=(hlens x hx).tx
   exact⟨by omega,by omega,by omega,by omega⟩
  have hA:=treesF_okay FL
  have htr:=fun H' (k:Ext H H')=>trees18_any FL fa nf cf H' (hrf.ext k) hnf (by omega) (fun f hf=>by have:=hfl f hf;omega)
  ((conv=>whnf);repeat(any_goals((first|(refine(htr _ (by exact Vc.xt)).mono ?_;rintro _ H3 ⟨⟨b3,m3,w3,rfl,ht3,hw3,hb3,hm3,hl3⟩,hx3⟩;have hz3:=hx3.size)|((with_reducible refine Vc.DrawH.held [0,1,2,3,4,5,6,7,8,9,11,10,12,13,14,15,17,18,19,20,16,21,22,23,24,25,27,26,28,29,30] [(16,[20])] mixed (by decide+kernel) ?_))|refine Vc.stp ?_)<;>(intros;(conv=>whnf)))))
  have l3:=ht3.blk.lt
  have l3':=ht3.map.lt
  ((conv=>whnf);repeat(any_goals((first|(have:=hm8;refine DoH.mapPut (k:=[110,97,109,101]) hm8 rfl rfl ?_;intro H9 z9 hm9 k9)|(refine DoH.mapPut (k:=[118]) hm7 rfl rfl ?_;intro H8 z8 hm8 k8)|(have:=hm6;refine SemH.makeMap0 ?_;intro H7 z7 hm7 x7)|(have:=hm5;refine DoH.mapPut (k:=[110,97,109,101]) hm5 rfl rfl ?_;intro H6 z6 hm6 k6)|(refine DoH.mapPut (k:=[118]) hm4 rfl rfl ?_;intro H5 z5 hm5 k5)|(refine SemH.makeMap0 ?_;intro H4 z4 hm4 x4)|(refine(place18_any fuel 600 (by decide) (by decide) _).mono ?_;rintro _ _ ⟨⟨j,rfl,hj⟩,rfl⟩)|((with_reducible refine Vc.DrawH.held [0,1,2,3,4,5,6,7,8,9,11,10,12,13,14,15,17,18,19,20,16,21,22,23,24,25,27,26,28,29,30] [(16,[20])] mixed (by decide+kernel) ?_))|refine Vc.stp ?_)<;>(intros;(conv=>whnf)))))
  have hx36:Ext H3 H6:=(x4.but k5 (Nat.le_refl _)).but k6 (Nat.le_refl _)
  have hx69:Ext H6 H9:=(x7.but k8 (Nat.le_refl _)).but k9 (Nat.le_refl _)
  have hv6:VarsO H6 (some H3.size) (some (ruV a b)):=by
   show MapO H6 H3.size (varV (ruV a b))
   unfold ruV
   rw[←var_put,←var_put]
   exact hm6
  have hv9:VarsO H9 (some H6.size) (some (ruV a b)):=by
   show MapO H9 H6.size (varV (ruV a b))
   unfold ruV
   rw[←var_put,←var_put]
   exact hm9
  clear hm4 hm5 hm6 hm7 hm8 hm9 k5 k6 k8 k9 x4 x7 this hlc hpr htr
  have hx39:=hx36.trans hx69
  have hx09:Ext H H9:=hx1.trans (hx2.trans (hx3.trans hx39))
  have hz9:=hx09.size
  have hrow9:=hr2.ext (hx3.trans hx39)
  have hbl:=fun p hp=>(ho2.block p hp).2
  have hfu:min (max ((j:Int)-2) 0) 65536=((j-2:Nat):Int):=by omega
  have ht9:=ht3.ext hx39
  have hw9:=hw3.ext hx39
  have hva9:=hv6.ext hx69
  refine(run_any (cl:=c2) (vm:=some H3.size) (V:=some (ruV a b)) (A:=treesF FL) (fuel:=(j:Int)-2) (F:=j-2) hrow9 rfl (by omega) hne hlens2 ht9 hva9 hA (fun v hv=>by injection hv;omega) (hg.ext hx09) ⟨by omega,by omega,fun v hv=>by injection hv;omega⟩ (by omega) hfu).mono ?_
  rintro _ H10 ⟨er,rfl,her0,ht10,hv10,ho10⟩
  have her:EndV H10 _ _ er:=her0
  have hw10:=hw9.keepTV ht9 hva9 ho10
  have hx10:=hv9.keepTV ht9 (fun v hv=>⟨by injection hv;omega,fun e=>by injection hv;injection e;omega⟩) ho10
  have hz10:=ho10.size
  have hx010:Ext H H10:=Only.trans hx09 ho10 fun y hy e=>by
   rcases e with e|e|e
   ·omega
   ·omega
   ·injection e;omega
  have hrow10:Row H10 a2 (lnsV L):=hrow9.keep ho10 fun p hp e=>by
   have:=hbl p hp
   rcases e with e|e|e
   ·omega
   ·omega
   ·injection e;omega
  clear her0 ho10 hw9 hw3 ht9 ht3 hva9 hv9 hv6 hrow9 hr2 ho2
  ((conv=>whnf);repeat(any_goals((first|((with_reducible refine Vc.DrawH.held [0,1,2,3,4,5,6,7,8,9,11,10,12,13,14,15,17,18,19,20,16,21,22,23,24,25,27,26,28,29,30] [(16,[20])] mixed (by decide+kernel) ?_))|refine Vc.stp ?_)<;>(intros;(conv=>whnf)))))
  refine(rrun_any (cl:=c2) (vm:=some H6.size) (V:=some (ruV a b)) (A:=treesF FL) (fuel:=(j:Int)-2) (F:=j-2) hrow10 rfl (by omega) hne hlens3 hw10 hx10 hA (ruV_fit (by omega) (by omega)) hfu).mono ?_
  rintro _ H11 ⟨rfl,hw11,hx11,ho11⟩
  have ht11:=ht10.keepRV hw10 hx10 (fun e=>by injection e;omega) ho11
  have hv11:=hv10.keepRV hw10 (fun v hv e=>by injection hv;injection e;omega) ho11
  have her11:=her.keepRV hw10 hx10 ho11
  have hx011:Ext H H11:=Only.trans hx010 ho11 fun y hy e=>by
   rcases e with e|e
   ·omega
   ·injection e;omega
  have hz11:=hx011.size
  have okR:=run_okay L (j-2) 0 ⟨0,treesF FL,some (ruV a b),[]⟩ hA
  obtain⟨n1,n2⟩:=run_endsV (F:=j-2) (A:=treesF FL) (V:=some (ruV a b)) hne
  have hso:=run_some (L:=L) (F:=j-2) (u:=0) (s:=⟨0,treesF FL,some (ruV a b),[]⟩) rfl
  have hul:=(run_le L (j-2) 0 ⟨0,treesF FL,some (ruV a b),[]⟩).2
  clear ho11 hw10 hx10 ht10 hv10 her hrow10
  generalize runP L (j-2) 0 ⟨0,treesF FL,some (ruV a b),[]⟩=R at*
  obtain⟨W,hW⟩:=Option.isSome_iff_exists.1 hso
  rw[hW]at hv11 hx11
  have hvm:MapO H11 H3.size (varV W):=hv11
  have hxm:MapO H11 H6.size (varV W):=hx11
  have okc:=okR.count
  have okf: ∀ k n,mget R.2.A k=some n→n.2.length≤1000000000:=fun k n h=>Nat.le_trans (okR.file k n h).1 (by decide)
  obtain⟨aw,sp,hbw,hrw⟩:=hw11.out
  ((conv=>whnf);repeat(any_goals((first|(refine(code_end (hg.ext (hx011.trans (by exact Vc.xt))) (her11.ext (by exact Vc.xt)) (by omega) (by omega)).mono ?_;rintro _ H12 ⟨rfl,hx12⟩;have hz12:=hx12.size)|(refine(files_any (ht11.ext (by exact Vc.xt)) okR.sorted (by omega) okf).mono ?_;rintro _ H13 ⟨⟨a13,c13,rfl,hc13,hr13,_⟩,hx13⟩;have hz13:=hx13.size)|(refine(hfiles_any R.2.A R.2.A a13 aw _ _ c13 _ _ (hr13.ext (by exact Vc.xt)) (hrw.ext (by exact Vc.xt)) rfl rfl (by omega) (by omega)).mono ?_;rintro _ _ ⟨rfl,rfl⟩;rw[decide_eq_true rfl])|((with_reducible apply SemH.mapLen);(focus((exact hvm.ext (by exact Vc.xt))));(focus(rfl));(focus(rfl));(focus((conv=>whnf))))|((with_reducible apply SemH.mapLen);(focus((exact hxm.ext (by exact Vc.xt))));(focus(rfl));(focus(rfl));(focus((conv=>whnf))))|((with_reducible apply SemH.rangeMap);(focus((exact hxm.ext (by exact Vc.xt))));(focus(rfl));(focus((intro H14 z14 it14 x14;(conv=>whnf)))))|((with_reducible refine Vc.DrawH.held [0,1,2,3,4,5,6,7,8,9,11,10,12,13,14,15,17,18,19,20,16,21,22,23,24,25,27,26,28,29,30] [(16,[20])] mixed (by decide+kernel) ?_))|refine Vc.stp ?_)<;>(intros;(conv=>whnf)))))
  have hvn:((varV W).map (·.1)).Nodup:=hvm.nodup
  have hx113:Ext H11 H13:=hx12.trans hx13
  have x013:=hx011.trans hx113
  clear hrw hbw hr13
  refine LoopH.intro (fun(vis:List Bs)=>[]) (fun vis H'=>IterO H' H13.size H6.size (varV W) vis∧Ext H13 H') (fun vis=>(varV W).length-vis.length) [] trivial ⟨it14,x14⟩ ?_
  rintro vis H15 ⟨hit,hx15⟩
  have hz15:=hx15.size
  ((conv=>whnf);repeat(any_goals((first|((with_reducible refine SemH.nextMap hit ?_ ?_);rotate_left;intro k v H16 hkv hkn z16 hit16 hcur hx16;(conv=>whnf);rotate_left;intro hall;(conv=>whnf))|((with_reducible refine Vc.DrawH.held [0,1,2,3,4,5,6,7,8,9,11,10,12,13,14,15,17,18,19,20,16,21,22,23,24,25,27,26,28,29,30] [(16,[20])] mixed (by decide+kernel) ?_))|refine Vc.stp ?_)<;>(intros;(conv=>whnf)))))
  ·have x15:Ext H H15:=x013.trans hx15
   by_cases h0:R.1.2=0
   ·have e1:er= .nilIface:=by unfold EndV at her11;rw[if_pos h0]at her11;exact her11
    subst e1
    ((conv=>whnf);repeat(any_goals((first|((with_reducible refine Vc.DrawH.held [0,1,2,3,4,5,6,7,8,9,11,10,12,13,14,15,17,18,19,20,16,21,22,23,24,25,27,26,28,29,30] [(16,[20])] mixed (by decide+kernel) ?_))|refine Vc.stp ?_)<;>(intros;(conv=>whnf)))))
    exact⟨rfl,x15⟩
   ·have e1:ErV H11 [([108,105,110,101],Lib.itoa (R.2.at_:Int))] (.num (R.1.2:Int)) er:=by unfold EndV at her11;rw[if_neg h0]at her11;exact her11
    obtain⟨ety,epl,rfl⟩:=ErV.iface e1
    have hok:BasOk (.num (R.1.2:Int)):=(show I64 (R.1.2:Int)from⟨by omega,by omega⟩)
    have hl1:=itoa_len (R.2.at_:Int) ⟨by omega,by omega⟩
    have hl2:=itoa_len (R.1.2:Int) ⟨by omega,by omega⟩
    ((conv=>whnf);repeat(any_goals((first|(refine(text_err (hg.ext (x15.trans (by exact Vc.xt))) (line_small R.2.at_ (by omega)) hok (ErV.ext e1 ((hx113.trans hx15).trans (by exact Vc.xt)))).mono ?_;rintro _ H17 ⟨rfl,hx17⟩;have hz17:=hx17.size)|(refine(rdec_any R.2.at_ (by omega) _).mono ?_;rintro _ _ ⟨rfl,rfl⟩)|(refine(rdec_any R.1.2 (by omega) _).mono ?_;rintro _ _ ⟨rfl,rfl⟩)|(refine NeedH.mk ⟨by(simp only[ByteArray.size_append,szL,szM,List.length_cons,List.length_nil];omega),?_⟩)|((with_reducible refine Vc.DrawH.held [0,1,2,3,4,5,6,7,8,9,11,10,12,13,14,15,17,18,19,20,16,21,22,23,24,25,27,26,28,29,30] [(16,[20])] mixed (by decide+kernel) ?_))|refine Vc.stp ?_)<;>(intros;(conv=>whnf)))))
    exact⟨by(show Value.bool _=_;rw[end_eq]),x15.trans (by exact Vc.xt)⟩
  ·have hkm:mget (varV W) k=some v:=mget_of_mem hvn hkv
   have hkm2:=hkm
   rw[var_get]at hkm2
   obtain⟨t,ht,rfl⟩:=Option.map_eq_some_iff.1 hkm2
   have hx136:Ext H13 H16:=hx15.but hx16 (Nat.le_refl _)
   have hvm16:=hvm.ext (hx113.trans hx136)
   have hxm16:=hxm.ext (hx113.trans hx136)
   have hvl:=nodup_len hit16.nodup hit16.sub
   rw[List.length_map,List.length_append,List.length_singleton]at hvl
   have hsome:(some (Value.string (mkS t))).isSome=true:=rfl
   clear hkm2 hx16
   ((conv=>whnf);repeat(any_goals((first|((with_reducible apply SemH.entryMap hcur);(focus((conv=>whnf))))|((with_reducible apply SemH.lookupOk);(focus((exact hvm16)));(focus(rfl));(focus(rfl));(focus(rfl));(focus(rfl));(focus((rw[hkm];(conv=>whnf)))))|((with_reducible apply SemH.lookupS);(focus((exact hxm16)));(focus(rfl));(focus(rfl));(focus(rfl));(focus(rfl));(focus((rw[hkm];(conv=>whnf)))))|((with_reducible refine Vc.DrawH.held [0,1,2,3,4,5,6,7,8,9,11,10,12,13,14,15,17,18,19,20,16,21,22,23,24,25,27,26,28,29,30] [(16,[20])] mixed (by decide+kernel) ?_))|refine Vc.stp ?_)<;>(intros;(conv=>whnf)))))
   exact⟨vis++[k],trivial,⟨hit16,hx136⟩,by show _-(vis++[k]).length<_;rw[List.length_append,List.length_singleton];omega⟩
end Go.Proofs.YtphkaogbcfdllaaGreatDoor
