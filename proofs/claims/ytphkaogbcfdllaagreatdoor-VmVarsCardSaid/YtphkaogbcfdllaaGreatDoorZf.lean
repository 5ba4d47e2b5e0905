import Derived.Test.YtphkaogbcfdllaaGreatDoorKk
set_option linter.unusedVariables false
set_option linter.unusedSimpArgs false
set_option maxRecDepth 100000
/- VmVars. -/
namespace Go.Run
open Go.Scr
def vvTexts:List Txt:=[[36,118],[36,118,36,119],[97,36,118,46,98],[36,36,118],[36],[36,49],[36,118,119],[36,118,36,36,36,119],[36,86],[120,36,119,36]]
def vvL (v w t:Txt):List Ln:=[⟨6,[118],[],v,0,false⟩,⟨6,[119],[],w,0,false⟩,⟨1,[111,117,116],[],t,0,false⟩]
theorem vv_nested (v w t:Txt):Go.Blk.Nested (kindsL (vvL v w t)):=rfl
theorem vv_len: ∀ t∈vvTexts,t.length≤10:=by decide
theorem vv_lens {v w t:Txt} (hv:v.length≤100) (hw:w.length≤100) (ht:t.length≤10): ∀ x∈vvL v w t,x.a.length≤1500∧x.b.length≤1500∧x.tx.length≤15000∧x.n≤1000000:=by
 intro x hx
 simp only[vvL,List.mem_cons,List.not_mem_nil,or_false]at hx
 rcases hx with rfl|rfl|rfl<;>exact⟨Nat.le_of_ble_eq_true rfl,Nat.le_of_ble_eq_true rfl,by dsimp only;omega,Nat.le_of_ble_eq_true rfl⟩
end Go.Run
namespace Go.Proofs.YtphkaogbcfdllaaGreatDoor
open Go Go.Vc Go.Scr Go.Pth Go.Tre Go.Blk Go.Run
theorem lnB3 {K:Value→Prop} {o1 o2 o3:Operand} {k:Int} {a t:ByteArray} (h:K (.agg #[.int .i64 k,.string a,.string ⟨#[]⟩,.string t,.int .i64 0,.bool false])):PureH Tryz.prog (Instr.build 43 ((List.map (fun x:Nat×Operand=>x.1) (#[(0,o1),(1,o2),(3,o3)]:Array (Nat×Operand)).toList).zip [.int .i64 k,.string a,.string t]).toArray) K:=PureH.build _ (by kernel_rfl) h
set_option maxHeartbeats 4000000 in
theorem vars_any {H:Heap} (hg:Glb H) (hH:2≤H.size) (v w:Bs) (hv:v.length≤9223372036854775807) (hw:w.length≤9223372036854775807) (how:Nat) (hh:how<256):
  CallH Tryz.prog 5 [.string (mkS v),.string (mkS w),.int .u8 how] H fun r H'=>r= .bool true∧Ext H H':=by
 have hsv:(mkS v).size=v.length:=rfl
 have hsw:(mkS w).size=w.length:=rfl
 refine Vc.CallH.body Tryz.func5 Tryz.call5 rfl (by decide+kernel) rfl ?_
 by_cases hb:100<v.length∨100<w.length
 ·by_cases h1:100<v.length
  ·((conv=>whnf);repeat(any_goals((first|(refine(known18_any hg hH).mono ?_;rintro _ H1 ⟨rfl,hx1⟩;have hz1:=hx1.size)|refine Vc.stp ?_)<;>(intros;(conv=>whnf)))))
   exact⟨rfl,hx1⟩
  ·have h2:100<w.length:=by omega
   ((conv=>whnf);repeat(any_goals((first|(refine(known18_any hg hH).mono ?_;rintro _ H1 ⟨rfl,hx1⟩;have hz1:=hx1.size)|refine Vc.stp ?_)<;>(intros;(conv=>whnf)))))
   exact⟨rfl,hx1⟩
 obtain⟨q,hq⟩: ∃ q,q=how % 10:=⟨_,rfl⟩
 have hq10:q<10:=by omega
 have hq':((how:Int) % 10)=(q:Int):=by omega
 obtain⟨t,ht⟩: ∃ t,vvTexts[q]? =some t:=⟨_,List.getElem?_eq_getElem (by show q<10;exact hq10)⟩
 have htl:=vv_len t (List.mem_of_getElem? ht)
 have h1: ¬100<v.length:=by omega
 have h2: ¬100<w.length:=by omega
 ((conv=>whnf);repeat(any_goals((first|(refine(known18_any hg hH).mono ?_;rintro _ H1 ⟨rfl,hx1⟩;have hz1:=hx1.size)|(refine RemH.pos (by omega) ?_)|(refine IdxA.strv (ws:=vvTexts) (Blk.row (by assumption)) rfl q t (by omega) ht ?_;intro b o hbo hao hc0)|((with_reducible apply Vc.SemH.lit (vs:=[_,_,_,_,_,_,_,_,_,_]));(focus(rfl));(focus(rfl));(focus(rfl));(focus(rfl));(focus(rfl));(focus(rfl));(focus(rfl));(focus((intro H2 z2 hb2 hx2;(conv=>whnf)))))|((with_reducible apply Vc.SemH.lit (vs:=[_,_,_]));(focus(rfl));(focus(rfl));(focus(rfl));(focus(rfl));(focus(rfl));(focus(rfl));(focus(rfl));(focus((intro H3 z3 hb3 hx3;(conv=>whnf)))))|((with_reducible apply lnB3);(focus((conv=>whnf))))|(refine(new_any _).mono ?_;rintro _ H4 ⟨⟨b4,m4,rfl,ht4,hb4,hm4⟩,hx4⟩;have hz4:=hx4.size)|((with_reducible apply SemH.makeMap0);(focus((intro H5 z5 hm5 hx5;(conv=>whnf)))))|refine Vc.stp ?_)<;>(intros;(conv=>whnf)))))
 have hrow3:Row H3 (some ⟨H2.size,0,none⟩) (lnsV (vvL v w t)):=Blk.row hb3
 have hx35:Ext H3 H5:=hx4.trans hx5
 have hx05:Ext H H5:=hx1.trans (hx2.trans (hx3.trans hx35))
 have hrow:=hrow3.ext hx35
 have hlt4:=ht4.blk.lt
 have hlm4:=ht4.map.lt
 have hl3:=vv_lens (v:=v) (w:=w) (t:=t) (by omega) (by omega) htl
 have hl6: ∀ x∈vvL v w t,x.a.length≤1000000∧x.b.length≤1000000∧x.tx.length≤1000000∧x.n≤1000000:=fun x hx=>by
  have:=hl3 x hx
  omega
 have hv5:VarsO H5 (some H4.size) (some []):=hm5
 have hfu:min (max 100 0) 65536=((100:Nat):Int):=rfl
 have hne:=vv_nested v w t
 generalize hL:vvL v w t=L at*
 have hLn:L.length=3:=by rw[←hL];rfl
 refine(run_any (cl:=3) (vm:=some H4.size) (V:=some []) (A:=[]) (fuel:=100) (F:=100) hrow hLn (by decide) hne hl6 (ht4.ext hx5) hv5 Okay.nil (fun v hv=>by cases hv;omega) (hg.ext hx05) ⟨by omega,by omega,fun v hv=>by cases hv;omega⟩ (by omega) hfu).mono ?_
 rintro _ H6 ⟨er,rfl,her0,ht6,hv6,ho6⟩
 have her:EndV H6 _ _ er:=her0
 clear her0
 have hz6:=ho6.size
 have hx06:Ext H H6:=Only.trans hx05 ho6 fun y hy e=>by
  rcases e with e|e|e
  ·omega
  ·omega
  ·injection e;omega
 have hrow6:Row H6 (some ⟨H2.size,0,none⟩) (lnsV L):=hrow.keep ho6 fun p hp e=>by
  cases hp
  dsimp only at e
  rcases e with e|e|e
  ·omega
  ·omega
  ·injection e;omega
 ((conv=>whnf);repeat(any_goals((first|(refine PureH.build #[.slice none 0 0] (by kernel_rfl) ?_)|((with_reducible apply SemH.makeMap0);(focus((intro H8 z8 hm8 hx8;(conv=>whnf)))))|refine Vc.stp ?_)<;>(intros;(conv=>whnf)))))
 rename_i H7 z7 b7 x7
 have hx68:=x7.trans hx8
 have hr8:RTree H8 H6.size []:=(RTree.of (n:=0) (cap:=0) (a:=none) b7 rfl (Nat.le_refl _) (RowF.nil _ _)).ext hx8
 have hv8:VarsO H8 (some H7.size) (some []):=hm8
 refine(rrun_any (cl:=3) (vm:=some H7.size) (V:=some []) (A:=[]) (fuel:=100) (F:=100) (hrow6.ext hx68) hLn (by decide) hne hl3 hr8 hv8 Okay.nil Fit.nil hfu).mono ?_
 rintro _ H9 ⟨rfl,hr9,hv9,ho9⟩
 have hx69:Ext H6 H9:=Only.trans hx68 ho9 fun y hy e=>by
  rcases e with e|e
  ·omega
  ·injection e;omega
 have okR:=run_okay L 100 0 ⟨0,[],some [],[]⟩ Okay.nil
 obtain⟨n1,n2⟩:=run_endsV (F:=100) (A:=[]) (V:=some []) hne
 have hso:=run_some (L:=L) (F:=100) (u:=0) (s:=⟨0,[],some [],[]⟩) rfl
 generalize runP L 100 0 ⟨0,[],some [],[]⟩=R at*
 obtain⟨W,hW⟩:=Option.isSome_iff_exists.1 hso
 rw[hW]at hv6 hv9
 have hvm6:MapO H6 H4.size (varV W):=hv6
 have hvm9:MapO H9 H7.size (varV W):=hv9
 have hx09:=hx06.trans hx69
 have hz9:=hx69.size
 clear ho6 ho9 hrow6 hrow hrow3 hl6 hl3 hr8 hv8 hv5 hm5 hm8 b7 ht4
 ((conv=>whnf);repeat(any_goals((first|(refine(read_any (ht6.ext (by exact Vc.xt)) okR [111,117,116]).mono ?_;rintro _ H10 ⟨⟨a10,c10,rfl,ho10⟩,hx10⟩;have hz10:=hx10.size)|(refine(rread_any (hr9.ext (by exact Vc.xt)) okR [111,117,116] (by decide)).mono ?_;rintro _ H11 ⟨⟨a11,c11,rfl,ho11⟩,hx11⟩;have hz11:=hx11.size)|(refine(code_end (hg.ext (hx09.trans (by exact Vc.xt))) (her.ext (hx69.trans (by exact Vc.xt))) (by omega) (by omega)).mono ?_;rintro _ H12 ⟨rfl,hx12⟩;have hz12:=hx12.size)|(refine to_string' rfl rfl rfl (ho10.row.ext (by exact Vc.xt)) rfl ?_)|(refine to_string' rfl rfl rfl (ho11.row.ext (by exact Vc.xt)) rfl ?_)|((with_reducible apply SemH.mapLen);(focus((exact hvm6.ext (hx69.trans (by exact Vc.xt)))));(focus(rfl));(focus(rfl));(focus((conv=>whnf))))|((with_reducible apply SemH.mapLen);(focus((exact hvm9.ext (by exact Vc.xt))));(focus(rfl));(focus(rfl));(focus((conv=>whnf))))|(refine SemH.var (vm:=some H4.size) (V:=some W) (k:=[118]) (VarsO.ext hv6 (hx69.trans (by exact Vc.xt))) ?_)|(refine SemH.var (vm:=some H7.size) (V:=some W) (k:=[118]) (VarsO.ext hv9 (by exact Vc.xt)) ?_)|(refine SemH.var (vm:=some H4.size) (V:=some W) (k:=[119]) (VarsO.ext hv6 (hx69.trans (by exact Vc.xt))) ?_)|(refine SemH.var (vm:=some H7.size) (V:=some W) (k:=[119]) (VarsO.ext hv9 (by exact Vc.xt)) ?_)|refine Vc.stp ?_)<;>(intros;(conv=>whnf)))))
 exact⟨by(show Value.bool (_==_)=_;rw[beq_self_eq_true]),hx09.trans (hx10.trans (hx11.trans hx12))⟩
end Go.Proofs.YtphkaogbcfdllaaGreatDoor
