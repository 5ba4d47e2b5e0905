import Derived.Test.YtphkaogbcfdllaaGreatDoorKk
set_option linter.unusedVariables false
set_option linter.unusedSimpArgs false
set_option maxRecDepth 100000
/- VmStays. -/
namespace Go.Run
open Go.Scr Go.Pth Go.Tre
open Go.Vc (mget mput)
def stA:Tr:=(writeF [] [105,110,47,97] [49]).1
theorem stA_okay:Okay stA:=Okay.writeF Okay.nil _ _
def stV (a b:Txt):Vars:=mput (mput [] [118] a) [110,97,109,101] b
theorem stV_fit {a b:Txt} (ha:a.length≤65536) (hb:b.length≤65536):Fit (some (stV a b)):=Fit.put (Fit.put (fun k=>Nat.zero_le _) ha) hb
def stLn (j:Nat):Ln:=stLines.getD j ⟨0,[],[],[],0,false⟩
theorem st_lens: ∀ j,j<6→(stLn j).a.length≤1500∧(stLn j).b.length≤1500∧(stLn j).tx.length≤1500∧(stLn j).n≤1500:=by decide
theorem st_len: ∀ j,j<6→(stTexts.getD j []).length≤100:=by decide
end Go.Run
namespace Go.Proofs.YtphkaogbcfdllaaGreatDoor
open Go Go.Vc Go.Scr Go.Pth Go.Tre Go.Blk Go.Run
theorem marked18 {P:Program} {t e:TypeId} {A H:Heap} {g n cap:Nat} {c:Array Value} {ty:TypeId} {K:Value→Heap→Prop} (ht:P.underlying t=some (.slice e)) (he:P.underlying e=some (.int .u8)) (hb:Blk H g c ty) (hx:Ext A H) (hg:A.size≤g)
  (hk: ∀ H',H'.size=H.size→Row H' (some ⟨g,0,none⟩) c.toList→Ext A H'→K (.slice (some ⟨g,0,none⟩) n cap) H'):SemH P (convert t t (.slice (some ⟨g,0,none⟩) n cap)) H K:=by
 obtain⟨fr,h1,_⟩:=hb.out
 refine⟨fun w hw=>⟨_,w.freeze ⟨g,c.size,none⟩ 1,?_,⟨rfl,rfl,rfl⟩,hk _ ?_ ?_ ?_⟩⟩
 ·have hsh:w.shape? g=some (ty,c.size):=by
   unfold World.shape?
   rw[hw,h1]
  simp[convert,underlying_of ht,underlying_of he,markStringish,hsh]
 ·subst hw;simp[World.freeze]
 ·subst hw
  refine⟨.inr ⟨g,0,rfl,fun j v hv=> ?_⟩⟩
  have hgt:=hb.lt
  simp only[hcell,World.freeze,Nat.zero_add]
  simp[Array.getElem?_modify,h1]
  simpa using hv
 ·subst hw
  refine⟨by simpa [World.freeze]using hx.size,fun b h _=> ?_⟩
  rw[←hx.same b h id]
  have hne:g≠b:=by omega
  simp[World.freeze,Array.getElem?_modify,hne]
theorem genOps {P:Program} {ops:List Oper} {X:Panics} {i:Nat} {l:List Oper} {env:Env} {H:Heap} {k:Env→Heap→Prop} (h: ∀ (X':Panics) (k':Env→Heap→Prop),X'=X→k'=k→vcOps P ops X' i l env H k'):vcOps P ops X i l env H k:=h X k rfl rfl
set_option maxHeartbeats 4000000 in
theorem stays_any {H:Heap} (hg:Glb H) (hH:2≤H.size) (a b:Bs) (ha:a.length≤9223372036854775807) (hb:b.length≤9223372036854775807) (how:Nat) (hh:how<256):
  CallH Tryz.prog 8 [.string (mkS a),.string (mkS b),.int .u8 how] H fun r H'=>r= .bool true∧Ext H H':=by
 have hsa:(mkS a).size=a.length:=rfl
 have hsb:(mkS b).size=b.length:=rfl
 refine Vc.CallH.body Tryz.func8 Tryz.call8 rfl (by decide+kernel) rfl ?_
 by_cases hbig:150<a.length∨150<b.length
 ·by_cases h1:150<a.length
  ·((conv=>whnf);repeat(any_goals((first|(refine(known18_any hg hH).mono ?_;rintro _ H1 ⟨rfl,hx1⟩;have hz1:=hx1.size)|refine Vc.stp ?_)<;>(intros;(conv=>whnf)))))
   exact⟨rfl,hx1⟩
  ·have h2:150<b.length:=by omega
   ((conv=>whnf);repeat(any_goals((first|(refine(known18_any hg hH).mono ?_;rintro _ H1 ⟨rfl,hx1⟩;have hz1:=hx1.size)|refine Vc.stp ?_)<;>(intros;(conv=>whnf)))))
   exact⟨rfl,hx1⟩
 obtain⟨q,hq⟩: ∃ q,q=how % 6:=⟨_,rfl⟩
 have hq6:q<6:=by omega
 have hq':((how:Int) % 6)=(q:Int):=by omega
 obtain⟨t,ht⟩: ∃ t,stTexts.getD q []=t:=⟨_,rfl⟩
 have ht':stTexts[q]? =some t:=by
  subst ht
  match q,hq6 with|0,_=>rfl|1,_=>rfl|2,_=>rfl|3,_=>rfl|4,_=>rfl|5,_=>rfl
 have htl:=st_len q hq6
 rw[ht]at htl
 have h1: ¬150<a.length:=by omega
 have h2: ¬150<b.length:=by omega
 have hpr:=fun H=>rparse_any t (by omega) H
 rw[←ht,st_parse q hq6]at hpr
 rw[ht]at hpr
 have hne:Nested (kindsL [stLn q]):=st_nested q hq6
 obtain⟨l1,l2,l3,l4⟩:=st_lens q hq6
 change ∀ H,CallH _ _ _ _ fun v H'=>parseR H' H.size v (some [stLn q],0)∧Ext H H' at hpr
 generalize stLn q=x at*
 ((conv=>whnf);repeat(any_goals((first|(refine(known18_any hg hH).mono ?_;rintro _ H1 ⟨rfl,hx1⟩;have hz1:=hx1.size)|(refine RemH.pos (by omega) ?_)|((with_reducible apply Vc.SemH.lit (vs:=[_,_,_,_,_,_]));(focus(rfl));(focus(rfl));(focus(rfl));(focus(rfl));(focus(rfl));(focus(rfl));(focus(rfl));(focus((intro H2 z2 hb2 hx2;(conv=>whnf)))))|(refine IdxA.strv (ws:=stTexts) (Blk.row (by assumption)) rfl q t (by omega) ht' ?_;intro _ _ _ _ _)|(refine(hpr _).mono ?_;rintro _ H3 ⟨⟨a3,c3,rfl,ho3⟩,hx3⟩;have hz3:=hx3.size)|(refine(new_any _).mono ?_;rintro _ H4 ⟨⟨b4,m4,rfl,ht4,hb4,hm4⟩,hx4⟩;have hz4:=hx4.size)|(refine PureH.build #[.slice none 0 0] (by kernel_rfl) ?_)|refine Vc.stp ?_)<;>(intros;(conv=>whnf)))))
 rename_i H5 z5 b5 x5 H6 z6 b6 x6
 refine marked18 rfl rfl b6 x6 (by omega) ?_
 intro H7 z7 hr7 x7
 refine genOps fun X' k' hX' hk'=> ?_
 (conv=>whnf)
 refine CallX.of ?_
 have hx47:Ext H4 H7:=x5.trans x7
 have hx07:Ext H H7:=hx1.trans (hx2.trans (hx3.trans (hx4.trans hx47)))
 have hl4:=ht4.blk.lt
 have hl4':=ht4.map.lt
 have hr7w:RTree H7 H4.size []:=(RTree.of (n:=0) (cap:=0) (a:=none) b5 rfl (Nat.le_refl _) (RowF.nil _ _)).ext x7
 have hrow3:=ho3.row
 have hrow7:=hrow3.ext (hx4.trans hx47)
 have hb3:=fun p hp=>(ho3.block p hp).2
 clear b6 x6 b5 hpr ho3
 refine(write_any (ht4.ext hx47) Okay.nil [105,110,47,97] [49] _ _ _ hr7 rfl (by decide)).mono ?_
 rintro _ H8 hd8
 obtain rfl:=hd8.code
 have ht8:=hd8.tree
 have hx08:Ext H H8:=ext_tt hx07 hd8.only (by omega) (by omega)
 have hr8w:=hr7w.other (ht4.ext hx47) hd8.only
 have hrow8:Row H8 a3 (lnsV [x]):=hrow7.keep hd8.only fun p hp e=>by
  have:=hb3 p hp
  rcases e with e|e<;>omega
 have hz8:=hd8.only.size
 have hz7:=hx47.size
 clear hd8 hr7w hrow7 hr7 hrow3
 (conv=>whnf)
 subst hX' hk'
 ((conv=>whnf);repeat(any_goals((first|refine Vc.stp ?_)<;>(intros;(conv=>whnf)))))
 rename_i H9 z9 b9 x9
 refine marked18 rfl rfl b9 x9 (by omega) ?_
 intro H10 z10 hr10 x10
 refine genOps fun X' k' hX' hk'=> ?_
 (conv=>whnf)
 refine CallX.of ?_
 refine(rwrite_any (hr8w.ext x10) Okay.nil [105,110,47,97] [49] (by decide) _ _ _ hr10 rfl (by decide)).mono ?_
 rintro _ H11 hd11
 obtain rfl:=hd11.code
 have hr11:=hd11.tree
 have hx11:Ext H H11:=ext_rr (hx08.trans x10) hd11.only (by omega)
 have ht11:=(ht8.ext x10).otherR (hr8w.ext x10) hd11.only
 have hrow11:Row H11 a3 (lnsV [x]):=(hrow8.ext x10).keep hd11.only fun p hp e=>by
  have:=hb3 p hp
  omega
 have hz11:=hd11.only.size
 have hz10:=x10.size
 clear hd11 hr8w ht8 hrow8 hr10 b9 x9
 (conv=>whnf)
 subst hX' hk'
 have hdA:(writeF [] [105,110,47,97] [49]).1=stA:=rfl
 rw[hdA]at ht11 hr11
 ((conv=>whnf);repeat(any_goals((first|(have:=hm13;refine DoH.mapPut (k:=[110,97,109,101]) hm13 rfl rfl ?_;intro H14 z14 hm14 k14)|(refine DoH.mapPut (k:=[118]) hm12 rfl rfl ?_;intro H13 z13 hm13 k13)|((with_reducible apply SemH.makeMap0);(focus((intro H12 z12 hm12 hx12;(conv=>whnf)))))|refine Vc.stp ?_)<;>(intros;(conv=>whnf)))))
 have hx114:Ext H11 H14:=(hx12.but k13 (Nat.le_refl _)).but k14 (Nat.le_refl _)
 have hv14:VarsO H14 (some H11.size) (some (stV a b)):=by
  show MapO H14 H11.size (varV (stV a b))
  unfold stV
  rw[←var_put,←var_put]
  exact hm14
 clear hm12 hm13 hm14 this k13 k14 hx12
 have hx14:=hx11.trans hx114
 have hrow14:=hrow11.ext hx114
 have ht14:=ht11.ext hx114
 have hr14:=hr11.ext hx114
 clear hrow11 ht11 hr11
 have hl3: ∀ y∈ [x],y.a.length≤1500∧y.b.length≤1500∧y.tx.length≤15000∧y.n≤1000000:=fun y hy=>by
  rw[List.mem_singleton]at hy
  subst hy
  omega
 have hl6: ∀ y∈ [x],y.a.length≤1000000∧y.b.length≤1000000∧y.tx.length≤1000000∧y.n≤1000000:=fun y hy=>by
  have:=hl3 y hy
  omega
 have hfu:min (max 9 0) 65536=((9:Nat):Int):=rfl
 have hn1:[x].length≤1000000:=Nat.le_of_ble_eq_true rfl
 have hz14:=hx14.size
 refine(run_any (cl:=c3) (vm:=some H11.size) (V:=some (stV a b)) (A:=stA) (fuel:=9) (F:=9) hrow14 rfl hn1 hne hl6 ht14 hv14 stA_okay (fun v hv=>by injection hv;omega) (hg.ext hx14) ⟨by omega,by omega,fun v hv=>by injection hv;omega⟩ (by omega) hfu).mono ?_
 rintro _ H15 ⟨er,rfl,her0,ht15,hv15,ho15⟩
 have her:EndV H15 _ _ er:=her0
 have hr15:=hr14.keepTV ht14 hv14 ho15
 have hz15:=ho15.size
 have hx15:Ext H H15:=Only.trans hx14 ho15 fun y hy e=>by
  rcases e with e|e|e
  ·omega
  ·omega
  ·injection e;omega
 have hrow15:Row H15 a3 (lnsV [x]):=hrow14.keep ho15 fun p hp e=>by
  have:=hb3 p hp
  rcases e with e|e|e
  ·omega
  ·omega
  ·injection e;omega
 clear her0 ho15 hv15 hr14 ht14 hrow14 hv14
 ((conv=>whnf);repeat(any_goals((first|(have:=hm17;refine DoH.mapPut (k:=[110,97,109,101]) hm17 rfl rfl ?_;intro H18 z18 hm18 k18)|(refine DoH.mapPut (k:=[118]) hm16 rfl rfl ?_;intro H17 z17 hm17 k17)|((with_reducible apply SemH.makeMap0);(focus((intro H16 z16 hm16 hx16;(conv=>whnf)))))|refine Vc.stp ?_)<;>(intros;(conv=>whnf)))))
 have hx158:Ext H15 H18:=(hx16.but k17 (Nat.le_refl _)).but k18 (Nat.le_refl _)
 have hv18:VarsO H18 (some H15.size) (some (stV a b)):=by
  show MapO H18 H15.size (varV (stV a b))
  unfold stV
  rw[←var_put,←var_put]
  exact hm18
 clear hm16 hm17 hm18 this k17 k18 hx16
 have hr18:=hr15.ext hx158
 refine(rrun_any (cl:=c3) (vm:=some H15.size) (V:=some (stV a b)) (A:=stA) (fuel:=9) (F:=9) (hrow15.ext hx158) rfl hn1 hne hl3 hr18 hv18 stA_okay (stV_fit (by omega) (by omega)) hfu).mono ?_
 rintro _ H19 ⟨rfl,hr19,hv19,ho19⟩
 have hlm:=ht15.map.lt
 have ht19:=(ht15.ext hx158).keepRV hr18 hv18 (fun e=>by injection e;omega) ho19
 have her19:=(her.ext hx158).keepRV hr18 hv18 ho19
 have hz18:=hx158.size
 have hx19:Ext H H19:=Only.trans (hx15.trans hx158) ho19 fun y hy e=>by
  rcases e with e|e
  ·omega
  ·injection e;omega
 have hz19:=hx19.size
 have okR:=run_okay [x] 9 0 ⟨0,stA,some (stV a b),[]⟩ stA_okay
 obtain⟨n1,n2⟩:=run_endsV (F:=9) (A:=stA) (V:=some (stV a b)) hne
 clear ho19 hv19 hv18 hr18 hr15 hrow15 ht15 her hl3 hl6
 generalize runP [x] 9 0 ⟨0,stA,some (stV a b),[]⟩=R at*
 have okc:=okR.count
 have okf: ∀ k n,mget R.2.A k=some n→n.2.length≤1000000000:=fun k n h=>Nat.le_trans (okR.file k n h).1 (by decide)
 ((conv=>whnf);repeat(any_goals((first|(refine(files_any ht19 okR.sorted (by omega) okf).mono ?_;rintro _ H20 ⟨⟨a20,c20,rfl,hc20,hr20,_⟩,hx20⟩;have hz20:=hx20.size)|refine Vc.stp ?_)<;>(intros;(conv=>whnf)))))
 obtain⟨aw,sp,hbw,hrw⟩:=hr19.out
 have hsd:=okR.sorted.nodup
 refine LoopH.intro (fun(i:Nat)=>[(20,.int .i64 i)]) (fun i H'=>i≤R.2.A.length∧Ext H20 H') (fun i=>R.2.A.length-i) 0 ⟨rfl,trivial⟩ ⟨Nat.zero_le _,Ext.refl _⟩ ?_
 rintro i H21 ⟨hi,hx21⟩
 have hz21:=hx21.size
 by_cases hlt:i<R.2.A.length
 ·obtain⟨f,hf⟩: ∃ f,R.2.A[i]? =some f:=⟨_,List.getElem?_eq_getElem hlt⟩
  obtain⟨hcp,hnn⟩:=okR.clean f.1 f.2 (mget_of_mem hsd (List.mem_of_getElem? hf))
  have hid:=hcp.id
  have hfl:f.1.length≤100000000:=by
   obtain⟨l,hl,hcl⟩:=hcp
   have:=hcl.long
   rw[hl];omega
  have hcl:=fun H'=>rclean_any f.1 hfl H'
  rw[hid]at hcl
  have he0:((mkS f.1).toList==(⟨#[]⟩:ByteArray).toList)=false:=by
   show((mkS f.1).toList==(mkS []).toList)=false
   rw[str_mk]
   exact decide_eq_false hnn
  ((conv=>whnf);repeat(any_goals((first|(refine IdxA.file (hr20.ext hx21) rfl i f (by omega) hf ?_;intro bi oi ai ci hri hci;have hc0:=hci 0 _ rfl)|(refine(hcl _).mono ?_;rintro _ H22 ⟨rfl,hx22⟩;have hz22:=hx22.size)|refine Vc.stp ?_)<;>(intros;(conv=>whnf)))))
  exact⟨i+1,⟨rfl,trivial⟩,⟨by omega,hx21.trans (by exact Vc.xt)⟩,by omega⟩
 ·((conv=>whnf);repeat(any_goals((first|(refine(code_end (hg.ext (hx19.trans (hx20.trans (hx21.trans (by exact Vc.xt))))) (her19.ext (hx20.trans (hx21.trans (by exact Vc.xt)))) (by omega) (by omega)).mono ?_;rintro _ H23 ⟨rfl,hx23⟩;have hz23:=hx23.size)|(refine(hfiles_any R.2.A R.2.A a20 aw _ _ c20 _ _ (hr20.ext (hx21.trans (by exact Vc.xt))) (hrw.ext (hx20.trans (hx21.trans (by exact Vc.xt)))) rfl rfl (by omega) (by omega)).mono ?_;rintro _ _ ⟨rfl,rfl⟩;rw[decide_eq_true rfl])|refine Vc.stp ?_)<;>(intros;(conv=>whnf)))))
  exact⟨rfl,hx19.trans (hx20.trans (hx21.trans (by exact Vc.xt)))⟩
end Go.Proofs.YtphkaogbcfdllaaGreatDoor
