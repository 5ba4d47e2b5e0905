import Derived.Test.YtjdieklgoepdjaaGreatDoorBw
set_option linter.unusedVariables false
set_option linter.unusedSimpArgs false
set_option maxRecDepth 100000
/- SolveTurned, walked. -/
namespace Go.Proofs.YtjdieklgoepdjaaGreatDoor
open Go Go.Vc Go.Scr Go.Slv
structure TuS where
 i:Nat
 a:Option Addr
 cap:Nat
theorem row_built5 {s:ByteArray} {v:VerP} {va:Option Addr} {vc:Nat} {a:Option Addr} {n c:Nat}:Go.Program.built Tryz.prog 54 [(0,.string s),(1,verC v va vc),(4,.slice a n c)]=some (([.string s,.int .i64 v.ma,.int .i64 v.mi,.int .i64 v.pa,.slice va v.pre.length vc]:List Value)++strV z32++([.int .i64 0,.slice a n c]:List Value)).toArray:=by kernel_rfl
theorem needB {K:Value→Prop} {o1 o2 o3:Operand} {s t:ByteArray} {b:Bool} {a:Option Addr} {n c:Nat} (h:K (.agg #[.string s,.bool b,.slice a n c,.string t])):PureH Tryz.prog (Instr.build 45 ((List.map (fun x:Nat×Operand=>x.1) (#[(0,o1),(1,o2),(2,o3)]:Array (Nat×Operand)).toList).zip [.string s,.agg #[.bool b,.slice a n c],.string t]).toArray) K:=PureH.build3 _ need_built h
theorem rowB5 {K:Value→Prop} {o1 o2 o3:Operand} {s:ByteArray} {v:VerP} {va:Option Addr} {vc:Nat} {a:Option Addr} {n c:Nat} (h:K (.agg (([.string s,.int .i64 v.ma,.int .i64 v.mi,.int .i64 v.pa,.slice va v.pre.length vc]:List Value)++strV z32++([.int .i64 0,.slice a n c]:List Value)).toArray)):PureH Tryz.prog (Instr.build 54 ((List.map (fun x:Nat×Operand=>x.1) (#[(0,o1),(1,o2),(4,o3)]:Array (Nat×Operand)).toList).zip [.string s,verC v va vc,.slice a n c]).toArray) K:=PureH.build3 _ row_built5 h
theorem solve_turn {R:List RowP} {W:List Nat} (hMok:MadeOk R) (hRl:R.length≤17) (t k:Nat) (hk:k≤2) (hW:W.length≤10) (ra:Option Addr) (rc:Nat) (na:Option Addr) (nc:Nat) (H:Heap) (hg:Glb H) (hr:RowE rowE H ra (turnR R t k)) (hn:RowE needE H na (needsM W)) {o:Option (List PinP)} (ho:Solves R (needsM W) o):
  CallH Tryz.prog 35 [.slice ra (turnR R t k).length rc,.slice na (needsM W).length nc,.int .i64 1048576] H fun v H'=>(match o with
   |some P=>∃ a cap,v= .tuple #[.slice a (List.length P) cap,.int .i64 0]∧RowE pinE H' a P
   |none=>v= .tuple #[.slice none 0 0,.int .i64 70])∧Ext H H':=by
 have hlen:=turn_len R t k
 have hN:=needsM_len W
 have hso:=turn_best hMok t k hk ho
 refine(solve_any (turnR R t k) (needsM W) (turn_apart hMok t k hk) (turn_bounds hMok t k) (by omega) (by omega) needs_b (fun q=>by have:=ofName_len (turnR R t k) q (turnR R t k).length;omega) ra rc na nc 1048576 H hg hr hn).mono ?_
 rintro v H' ⟨hs,hx⟩
 refine⟨?_,hx⟩
 rcases hs with ⟨P,a,cap,e,h1,_,h2,h3⟩|⟨e,_,h⟩|⟨e,h⟩
 ·have:=solves_one h2 hso
  subst this
  exact⟨a,cap,e,h3⟩
 ·have:=solves_one (o:=none) h hso
  subst this
  exact e
 ·have:=turn_names hMok t k hk
  exact absurd ⟨by omega,by omega,by decide⟩ (h (by decide))
theorem reg_made2 {H:Heap} (hg:Glb H) {L:List RowI} (hl4: ∀ r∈L,r.needs.length≤4) {la:Option Addr} {ln lc:Nat} (hL:RowE rinE H la L) (hLn:L.length=ln) (hl:ln≤19):CallH Tryz.prog 19 [.slice la ln lc] H fun v H'=>(∃ R ra rc aa an ac s,v= .tuple #[.slice ra (List.length R) rc,.slice aa an ac,.string s]∧MadeOk R∧R.length≤ln∧RowE rowE H' ra R∧R.length≤rc)∧Ext H H':=by
 refine(smade_any L hl4 la ln lc H hL hLn (by omega)).mono ?_
 rintro _ H2 ⟨⟨S,ra,rc,ga,gn,gc,st,hS,rfl,hR,hRc⟩,hx2⟩
 have hMl:=madeF_len (L.zip S)
 rw[List.length_zip]at hMl
 exact⟨⟨_,ra,rc,ga,gn,gc,st,rfl,madeF_ok (L.zip S) (fun x hx=>hl4 x.1 (List.of_mem_zip hx).1),by omega,hR,hRc⟩,hx2⟩
theorem flat_one {H:Heap} {b:Nat} {c:List Value} {t:TypeId} (h:Blk H b (List.flatMap (fun v:Value=>v.cells.toList) [Value.agg c.toArray]).toArray t):Blk H b c.toArray t:=by simpa [Value.cells]using h
theorem turn_snoc (R:List RowP) (t k:Nat):turnR R t (k+1)=turnR R t k++[zzRow k]:=by
 unfold turnR zzR
 rw[List.range_succ,List.map_append,List.append_assoc]
 rfl
theorem solveR_two {R:List RowP} {N:List NeedP} {H:Heap} {v:Value} (hMok:MadeOk R) (hRl:R.length≤40) (h:SolveR R N 1048576 H v): ∃ (pv:Option Addr) (pn pc:Nat) (en:Int),v= .tuple #[.slice pv pn pc,.int .i64 en]∧((∃ P:List PinP,P.length=pn∧en=0∧Solves R N (some P)∧RowE pinE H pv P)∨(pn=0∧en=70∧Solves R N none)):=by
 rcases solveR_big hMok hRl h with ⟨P,a,cap,e,_,h2,h3⟩|⟨e,h2⟩
 ·exact⟨a,_,cap,0,e,.inl ⟨P,rfl,rfl,h2,h3⟩⟩
 ·exact⟨none,0,0,70,e,.inr ⟨rfl,rfl,h2⟩⟩
set_option maxHeartbeats 8000000 in
theorem turned_any {H:Heap} (hg:Glb H) (L:List RowI) (la:Option Addr) (ln lc:Nat) (hL:RowE rinE H la L) (hLn:L.length=ln) (W:List Nat) (wa:Option Addr) (wn wc:Nat) (hW:Row H wa (intsV .u16 W)) (hWn:W.length=wn) (hW16: ∀ x∈W,x<65536) (T:Nat) (hT:T<256):
  CallH Tryz.prog 13 [.slice la ln lc,.slice wa wn wc,.int .u8 T] H fun v H'=>v= .bool true∧Ext H H':=by
 refine Vc.CallH.body Tryz.func13 Tryz.call13 rfl (by decide+kernel) rfl ?_
 cases hlt:lightI L 12 with
 |false=>
  ((conv=>whnf);repeat(any_goals((first|((fail_if_success (have:=hx1));show Go.Vc.CallH _ _ _ _ _;refine(known15_any hg).mono ?_;rintro _ H1 ⟨rfl,hx1⟩;have hz1:=hx1.size)|((fail_if_success (have:=hlq));show Go.Vc.CallH _ _ _ _ _;refine(some_any L la ln lc H1 (hL.ext rin_ok hx1) hLn).mono ?_;have hlq:=hlt;rintro _ _ ⟨rfl,rfl⟩;rw[hlt])|refine Vc.stp ?_)<;>(intros;(conv=>whnf)))))
  exact⟨rfl,hx1⟩
 |true=>
 obtain⟨hl20,hl4⟩:=(lightI_iff L 12).1 hlt
 by_cases h6:wn≤4
 ·((conv=>whnf);repeat(any_goals((first|((fail_if_success (have:=hx1));show Go.Vc.CallH _ _ _ _ _;refine(known15_any hg).mono ?_;rintro _ H1 ⟨rfl,hx1⟩;have hz1:=hx1.size)|((fail_if_success (have:=hlq));show Go.Vc.CallH _ _ _ _ _;refine(some_any L la ln lc H1 (hL.ext rin_ok hx1) hLn).mono ?_;have hlq:=hlt;rintro _ _ ⟨rfl,rfl⟩;rw[hlt])|(show Go.Vc.CallH _ _ _ _ _;refine(reg_made2 (hg.ext hx1) hl4 (hL.ext rin_ok hx1) hLn (by omega)).mono ?_;rintro _ H2 ⟨⟨R,ra,rc,ga,gn,gc,st,rfl,hMok,hRln,hR,hRc⟩,hx2⟩;have hz2:=hx2.size)|(show Go.Vc.CallH _ _ _ _ _;refine(sneeds_any W hW16 wa wn wc H2 (hW.ext (hx1.trans hx2)) hWn (by omega)).mono ?_;rintro _ H3 ⟨⟨na,nc,rfl,hNo⟩,hx3⟩;have hz3:=hx3.size)|refine Vc.stp ?_)<;>(intros;(conv=>whnf)))))
  have hnl:=needsM_len W
  have hnb:=needs_b (L:=W)
  have hO:RegO H3 R (needsM W) ra rc na nc:=⟨hg.ext (hx1.trans (hx2.trans hx3)),hMok,by omega,by omega,hnb,hR.ext row_ok hx3,hNo.rowL.to fun _ _=>needT_E,hNo.cap_le⟩
  have hx03:=And.intro trivial (hx1.trans (hx2.trans hx3))
  refine(hO.solve 1048576).mono ?_
  rintro _ H4 ⟨hs4,hx4⟩
  have hz4:=hx4.size
  obtain⟨pv,pn,pc,en,rfl,hout⟩:=solveR_two hMok (by omega) hs4
  have hO4:=hO.ext hx4
  ((conv=>whnf);repeat(any_goals((first|refine Vc.stp ?_)<;>(intros;(conv=>whnf)))))
  refine LoopH.intro (fun(x:TuS)=>[(14,.int .i64 x.i),(13,.slice x.a ((rotR R T).take x.i).length x.cap)]) (fun x H'=>x.i≤R.length∧OwnE (mixE H4) 39 H' H4.size 54 x.a ((rotR R T).take x.i) x.cap∧Ext H4 H') (fun x=>R.length-x.i) ⟨0,none,0⟩ ⟨rfl,rfl,trivial⟩ ⟨Nat.zero_le _,OwnE.nil _ _ _ _ _,Ext.refl _⟩ ?_
  rintro⟨i,oa,oc⟩ H5 ⟨hi,ho5,hx5⟩
  dsimp only at hi ho5 ⊢
  have hz5:=hx5.size
  have hrl:(rotR R T).length=R.length:=(rot_perm R T).length_eq
  by_cases hil:i<R.length
  ·obtain⟨q,hq⟩: ∃ q,(i+T) % R.length=q:=⟨_,rfl⟩
   have hqi:((i:Int)+(T:Int)) % (R.length:Int)=(q:Int):=by rw[←hq];push_cast;rfl
   have hqR:q<R.length:=by rw[←hq];exact Nat.mod_lt _ (by omega)
   obtain⟨r,hr⟩: ∃ r,R[q]? =some r:=⟨_,List.getElem?_eq_getElem hqR⟩
   have hrt:(rotR R T)[i]? =some r:=by rw[rot_at R T i hil,hq];exact hr
   have hts:(rotR R T).take (i+1)=(rotR R T).take i++[r]:=by rw[List.take_add_one,hrt];rfl
   have htl:((rotR R T).take i).length=i:=by rw[List.length_take];omega
   obtain⟨M,hM⟩: ∃ M,(rotR R T).take i=M:=⟨_,rfl⟩
   rw[hM]at ho5 hts htl ⊢
   obtain⟨bR,oR,cR,hcR,hclR,hixR⟩:=hO4.row.fix row_ok (by decide) rfl hr
   have hdone:True:=trivial
   ((conv=>whnf);repeat(any_goals((first|(refine RemH.pos (by omega) ?_;rw[hqi])|(refine hixR _ _ rfl ?_)|refine Vc.stp ?_)<;>(intros;(conv=>whnf)))))
   refine SemH.load_irow (H0:=H4) (b:=bR) (o:=oR) (c:=cR) (row_ok.len hcR) hclR hx5 ?_
   ((conv=>whnf);repeat(any_goals((first|refine Vc.stp ?_)<;>(intros;(conv=>whnf)))))
   refine SemH.lit (vs:=[.agg cR.toArray]) rfl rfl rfl rfl rfl rfl (by show(Nat.beq cR.toArray.size 39&&true)=true;rw[List.size_toArray,row_ok.len hcR];rfl) ?_
   intro HL zL bL' xL
   have bL:=(show ∀ {b:Nat},Blk HL b (List.flatMap (fun v:Value=>v.cells.toList) [Value.agg cR.toArray]).toArray 54→Blk HL b cR.toArray 54 from fun h=>by simpa [Value.cells]using h) bL'
   ((conv=>whnf);repeat(any_goals((first|refine Vc.stp ?_)<;>(intros;(conv=>whnf)))))
   have ho8:=ho5.ext (mixE_ok H4).ok xL
   have hxL:=hx5.trans xL
   have hmx:mixE H4 HL r cR:= .inl hcR
   refine NextH.appE (mixE_ok H4) rfl ⟨_,rfl,fun _ h=>by cases h⟩ rfl rfl rfl rfl (by decide) (by unfold rowTT;decide) ho8 rfl (Blk.row bL) (LstV.one hmx) rfl (by omega) (by omega) ?_
   intro aX cX HX hoX hwX hfX
   have hxX:Ext H4 HX:=ext_wr2 (n:=HL.size) hxL (fun p hp=>ho8.block p hp) hwX
   have hlX:(M++[r]).length=M.length+1:=by simp
   ((conv=>whnf);repeat(any_goals((first|refine Vc.stp ?_)<;>(intros;(conv=>whnf)))))
   exact⟨⟨i+1,aX,cX⟩,⟨rfl,by(show Value.slice _ _ _=Value.slice _ _ _;rw[hts,hlX]),trivial⟩,⟨hil,by(dsimp only;rw[hts];exact hoX),hxX⟩,by show R.length-(i+1)<R.length-i;omega⟩
  ·obtain rfl:i=R.length:=by omega
   rw[List.take_of_length_le (by omega)]at ho5
   have ho5:OwnE (mixE H4) 39 H5 H4.size 54 oa (turnR R T 0) oc:=by
    have e:turnR R T 0=rotR R T:=by unfold turnR zzR;simp
    rw[e];exact ho5
   obtain⟨K,hK⟩: ∃ K,T % 3=K:=⟨_,rfl⟩
   have hK2:K≤2:=by omega
   have hKi:(T:Int) % 3=(K:Int):=by rw[←hK];push_cast;rfl
   have e0:((rotR R T).take R.length).length=(turnR R T 0).length:=by rw[turn_len,List.length_take,hrl];omega
   have v9:=rver_any [57,46,48,46,48] (by decide) H5
   rw[ver900]at v9
   ((conv=>whnf);repeat(any_goals((first|refine Vc.stp ?_)<;>(intros;(conv=>whnf)))))
   rw[e0]
   refine v9.mono ?_
   rintro _ H6 ⟨⟨va,vc,rfl,hvo⟩,hx6⟩
   have hz6:=hx6.size
   ((conv=>whnf);repeat(any_goals((first|(rename_i Hl zl bl xl;unfold verC;refine DoH.store_list (c:=[.int .i64 v900.ma,.int .i64 v900.mi,.int .i64 v900.pa,.slice va v900.pre.length vc]) bl rfl rfl rfl (fun u hu=>by simp at hu;rcases hu with rfl|rfl|rfl|rfl<;>rfl) ?_;intro H7 z7 b7 k7;have hx67:Ext H6 H7:=xl.but k7 (Nat.le_refl _))|refine Vc.stp ?_)<;>(intros;(conv=>whnf)))))
   have hx57:=hx6.trans hx67
   have hx47:=And.intro trivial (hx5.trans hx57)
   have hvv: ∀ (k:Nat) (u:Value),([.int .i64 v900.ma,.int .i64 v900.mi,.int .i64 v900.pa,.slice va v900.pre.length vc]:List Value)[k]? =some u→hcell H7 ⟨H6.size,0+k,none⟩=some u:=fun k u hu=>blk_list b7 0 k u (by rw[Nat.zero_add];exact hu)
   have ho7:=ho5.ext (mixE_ok H4).ok hx57
   have hz7:=hx47.2.size
   refine LoopH.intro (fun(x:TuS)=>[(17,.int .i64 x.i),(13,.slice x.a (turnR R T x.i).length x.cap)]) (fun x H'=>x.i≤K∧OwnE (mixE H4) 39 H' H4.size 54 x.a (turnR R T x.i) x.cap∧Blk H' H6.size ([.int .i64 v900.ma,.int .i64 v900.mi,.int .i64 v900.pa,.slice va v900.pre.length vc]:List Value).toArray 48∧Ext H4 H') (fun x=>K-x.i) ⟨0,oa,oc⟩ ⟨rfl,rfl,trivial⟩ ⟨Nat.zero_le _,ho7,b7,hx47.2⟩ ?_
   clear ho5 ho7 hvv b7 hx57 hx67 hx47 hvo
   rintro⟨i,oa,oc⟩ H8 ⟨hi,ho8,b8,hx8⟩
   dsimp only at hi ho8 ⊢
   have hz8:=hx8.size
   have hvv: ∀ (k:Nat) (u:Value),([.int .i64 v900.ma,.int .i64 v900.mi,.int .i64 v900.pa,.slice va v900.pre.length vc]:List Value)[k]? =some u→hcell H8 ⟨H6.size,0+k,none⟩=some u:=fun k u hu=>blk_list b8 0 k u (by rw[Nat.zero_add];exact hu)
   have htl:=turn_len R T i
   by_cases hik:i<K
   ·have hdl:=itoa_len (i:Int) ⟨by omega,by omega⟩
    ((conv=>whnf);repeat(any_goals((first|(refine RemH.pos (by omega) ?_;rw[hKi])|(show Go.Vc.CallH _ _ _ _ _;refine(rdec_any i (by omega) _).mono ?_;rintro _ _ ⟨rfl,rfl⟩)|((with_reducible apply SemH.load_ver);(focus((exact hvv)));(focus((exact Vc.xt)));(focus((conv=>whnf))))|((with_reducible apply spanB);(focus((conv=>whnf))))|((with_reducible apply needB);(focus((conv=>whnf))))|((with_reducible apply rowB5);(focus((conv=>whnf))))|(refine NeedH.mk ⟨by(simp only[ByteArray.size_append,szL2,szM2,List.length_cons,List.length_nil];omega),?_⟩)|(refine Vc.StillsH.load rfl rfl rfl rfl rfl rfl (by exact SemH.load_ver hvv (by exact Vc.xt) rfl) ?_)|(first|(with_reducible refine Vc.DrawH.lin (id:=17) mixed ?_)|(with_reducible refine Vc.DrawL.split (es:=[]) 2 7 (by decide) (by decide) (by decide) ?_ ?_)|(with_reducible refine Vc.DrawL.held (es:=[(2,7)]) [0,1,4,5,6,2,3,7,8,9,10,11] [(2,[4]),(7,[4])] (by decide+kernel) ?_)|(with_reducible refine Vc.DrawL.held (es:=[(7,2)]) [0,1,4,5,6,7,2,3,8,9,10,11] [(7,[4]),(2,[4])] (by decide+kernel) ?_))|refine Vc.stp ?_)<;>(intros;(conv=>whnf)))))
    all_goals
     rename_i HN zN bN xN HL zL bL' xL
     have hnm:(⟨#[122,122]⟩:ByteArray)++mkS (Lib.itoa (i:Int))=mkS (zzName i):=by
      rw[show(⟨#[122,122]⟩:ByteArray)=mkS [122,122]from rfl,mkS_app,itoa_decT i (by omega)];rfl
     rw[hnm]at bL'
     have bL:=flat_one bL'
     have hxL:Ext H8 HL:=xN.trans xL
     have hnL:RowL needT 45 HL (some ⟨H8.size,0,none⟩) [zzNeed]:=(own_litE needT_ok.ok (bN.ext xL) (LstV.one (c:=[.string (mkS [97]),.bool true,.slice none 0 0,.string (mkS [42])]) ⟨none,0,rfl,Nat.le_refl _,RowL.nil _ _ _ _⟩) (Nat.le_refl _) (by simp)).rowL
     have hrT:mixE H4 HL (zzRow i) ([.string (mkS (zzName i)),.int .i64 v900.ma,.int .i64 v900.mi,.int .i64 v900.pa,.slice va v900.pre.length vc]++strV z32++[.int .i64 0,.slice (some ⟨H8.size,0,none⟩) 1 1]):= .inr ⟨va,vc,some ⟨H8.size,0,none⟩,1,rfl,by rw[show(zzRow i).sum=z32 from rfl];rfl,Nat.zero_le _,RowT.nil _ _ _,Nat.le_refl _,hnL⟩
     have hoL:=ho8.ext (mixE_ok H4).ok hxL
     have hzL:=hxL.size
     refine NextH.appE (mixE_ok H4) rfl ⟨_,rfl,fun _ h=>by cases h⟩ rfl rfl rfl rfl (by decide) (by unfold rowTT;decide) hoL rfl (Blk.row bL) (LstV.one hrT) rfl (by omega) (by omega) ?_
     intro aX cX HX hoX hwX hfX
     have hxX:Ext H4 HX:=ext_wr2 (n:=HL.size) (hx8.trans hxL) (fun p hp=>hoL.block p hp) hwX
     have bX:=(b8.ext hxL).keep hwX (fun⟨p,hp,e⟩=>by
      obtain⟨c1,g1⟩:=hoL.typ p hp
      rw[e]at g1
      exact absurd (g1.typ (b8.ext hxL)) (by decide))
     have hts:=turn_snoc R T i
     have hlX:(turnR R T i++[zzRow i]).length=(turnR R T i).length+1:=by simp
     ((conv=>whnf);repeat(any_goals((first|refine Vc.stp ?_)<;>(intros;(conv=>whnf)))))
     exact⟨⟨i+1,aX,cX⟩,⟨rfl,by(show Value.slice _ _ _=Value.slice _ _ _;rw[hts,hlX]),trivial⟩,⟨hik,by(dsimp only;rw[hts];exact hoX),bX,hxX⟩,by show K-(i+1)<K-i;omega⟩
   ·obtain rfl:i=K:=by omega
    have hO8:=hO4.ext hx8
    have hW10:W.length≤10:=by omega
    have hRl17:R.length≤17:=by omega
    have hm8:=mix_row hx8 ho8.row
    ((conv=>whnf);repeat(any_goals((first|(refine RemH.pos (by omega) ?_;rw[hKi])|refine Vc.stp ?_)<;>(intros;(conv=>whnf)))))
    rcases hout with ⟨P,rfl,rfl,hsol,hP4⟩|⟨rfl,rfl,hsol⟩
    ·have hfit:FitP R (needsM W) P:=hsol.fit
     have hPl:=hO.few hfit.sorted hfit.row
     have hdd:decide (P=P)=true:=decide_eq_true rfl
     refine(solve_turn hMok hRl17 T i hK2 hW10 oa oc na nc H8 hO8.glb hm8 hO8.need hsol).mono ?_
     rintro _ H9 ⟨⟨qa,qc,rfl,hQ⟩,hx9⟩
     have hz9:=hx9.size
     ((conv=>whnf);repeat(any_goals((first|(show Go.Vc.CallH _ _ _ _ _;refine((hO8.ext hx9).pins hfit.row hfit.row (hP4.ext pin_ok (hx8.trans hx9)) hQ (by omega) (by omega)).mono ?_;rintro _ H10 ⟨rfl,hx10⟩;rw[hdd])|refine Vc.stp ?_)<;>(intros;(conv=>whnf)))))
     exact⟨rfl,hx03.2.trans (hx4.trans (hx8.trans (hx9.trans hx10)))⟩
    ·have hdd:decide (([]:List PinP)=[])=true:=rfl
     refine(solve_turn hMok hRl17 T i hK2 hW10 oa oc na nc H8 hO8.glb hm8 hO8.need hsol).mono ?_
     rintro _ H9 ⟨rfl,hx9⟩
     have hz9:=hx9.size
     ((conv=>whnf);repeat(any_goals((first|(show Go.Vc.CallH _ _ _ _ _;refine((hO8.ext hx9).pins (P:=[]) (Q:=[]) (fun p hp=>(by cases hp)) (fun p hp=>(by cases hp)) (RowE.nil _ _ _) (RowE.nil _ _ _) (by decide) (by decide)).mono ?_;rintro _ H10 ⟨rfl,hx10⟩;rw[hdd])|refine Vc.stp ?_)<;>(intros;(conv=>whnf)))))
     exact⟨rfl,hx03.2.trans (hx4.trans (hx8.trans (hx9.trans hx10)))⟩
 ·((conv=>whnf);repeat(any_goals((first|((fail_if_success (have:=hx1));show Go.Vc.CallH _ _ _ _ _;refine(known15_any hg).mono ?_;rintro _ H1 ⟨rfl,hx1⟩;have hz1:=hx1.size)|((fail_if_success (have:=hlq));show Go.Vc.CallH _ _ _ _ _;refine(some_any L la ln lc H1 (hL.ext rin_ok hx1) hLn).mono ?_;have hlq:=hlt;rintro _ _ ⟨rfl,rfl⟩;rw[hlt])|refine Vc.stp ?_|refine Vc.spl ?_ ?_)<;>(intros;(conv=>whnf)))))
  all_goals exact⟨rfl,hx1⟩
end Go.Proofs.YtjdieklgoepdjaaGreatDoor
