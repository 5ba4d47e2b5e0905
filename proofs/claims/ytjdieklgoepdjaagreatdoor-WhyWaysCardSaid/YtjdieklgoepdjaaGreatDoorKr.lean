import Derived.Test.YtjdieklgoepdjaaGreatDoorKo
import Derived.Test.YtjdieklgoepdjaaGreatDoorKm
import Derived.Test.YtjdieklgoepdjaaGreatDoorKe
import Derived.Test.YtjdieklgoepdjaaGreatDoorKp
import Derived.Test.YtjdieklgoepdjaaGreatDoorKd
set_option linter.unusedVariables false
set_option linter.unusedSimpArgs false
set_option maxRecDepth 100000
/- The reference: which names are needed, in order; Users. -/
namespace Go.Why
open Go.Scr Go.Tre Go.Slv
theorem insW_at: ∀ (l:List Txt) (k:Txt) (i:Nat),(∀ j x,j<i→l[j]? =some x→Op.bytesLess x k=true)→i≤l.length→(∀ x,l[i]? =some x→Op.bytesLess x k=false)→insW l k=l.take i++k::l.drop i
 |[],k,i,_,hi,_=>by
  obtain rfl:i=0:=by simpa using hi
  rfl
 |x::l,k,0,_,_,h=>by
  have:=h x rfl
  unfold insW
  rw[if_neg (by rw[this];simp)]
  simp
 |x::l,k,i+1,h1,hi,h=>by
  have hx:=h1 0 x (by omega) rfl
  unfold insW
  rw[if_pos hx,insW_at l k i (fun j y hj hy=>h1 (j+1) y (by omega) (by simpa using hy)) (by simpa using hi) (fun y hy=>h y (by simpa using hy))]
  simp
theorem namesN_snoc {L:List NeedP} {i:Nat} {n:NeedP} (h:L[i]? =some n):namesN (L.take (i+1))=insW (namesN (L.take i)) n.name:=by
 unfold namesN
 rw[List.take_add_one,h,List.foldl_append]
 rfl
theorem namesN_len (L:List NeedP):(namesN L).length=L.length:=by
 rw[(namesN_spec L).1.length_eq,List.length_map]
theorem needs_find {R:List RowP} {P:List PinP} {k:Txt} {p:PinP} (hf:(P.find? fun p=>p.name==k)=some p) {r:RowP} {ri:Nat} (hi:idxR R p.name p.v=some ri) (hr:R[ri]? =some r):needsP R P k=r.needs:=by
 unfold needsP
 simp only[hf,hi,needsR,hr]
end Go.Why
namespace Go.Proofs.YtjdieklgoepdjaaGreatDoor
open Go Go.Vc Go.Scr Go.Slv
structure NoS where
 i:Nat
 a:Option Addr
 cap:Nat
set_option maxHeartbeats 4000000 in
theorem rneedsof_any (R:List RowP) (ha:Apart R) (hRB:RowsB R) (N:List NeedP) (P:List PinP) (hrow: ∀ p∈P,∃ r∈R,pinR r=p) (k:Bs) (L:List NeedP) (hk:(k=[]∧L=N)∨(k≠ []∧(∃ p,findP P k=some p)∧L=Why.needsP R P k)) (ra na pa:Option Addr) (rn rc nn nc pn pc:Nat) (H:Heap)
  (hR:RowE rowE H ra R) (hN:RowE needE H na N) (hP:RowE pinE H pa P) (hrn:R.length=rn) (hnn:N.length=nn) (hpn:P.length=pn) (hrl:rn≤10000) (hnl:nn≤10000) (hpl:pn≤900) (hnc:nn≤nc):
  CallH Tryz.prog 60 [.slice ra rn rc,.slice na nn nc,.slice pa pn pc,.string (mkS k)] H fun x H'=>(∃ a c,x= .slice a (Why.namesN L).length c∧Own H' H.size 9 1 a (Why.namesN L).length c (strs (Why.namesN L)))∧Ext H H':=by
 refine Vc.CallH.body Tryz.func60 Tryz.call60 rfl (by decide+kernel) rfl ?_
 rcases hk with ⟨rfl,rfl⟩|⟨hk0,⟨p,hf⟩,hL⟩
 ·have hL:=hN
  subst hnn
  obtain⟨L,rfl⟩: ∃ M,M=L:=⟨L,rfl⟩
  ((conv=>whnf);repeat(any_goals((first|refine Vc.stp ?_)<;>(intros;(conv=>whnf)))))
  refine LoopH.intro (fun(x:NoS)=>[(15,.int .i64 x.i),(14,.slice x.a (Why.namesN (L.take x.i)).length x.cap)]) (fun x H'=>x.i≤L.length∧OwnE strE 1 H' H.size 9 x.a (Why.namesN (L.take x.i)) x.cap∧Ext H H') (fun x=>L.length-x.i) ⟨0,none,0⟩ ⟨rfl,rfl,trivial⟩ ⟨Nat.zero_le _,OwnE.nil _ _ _ _ _,by first|exact Ext.refl _|exact hx0⟩ ?_
  rintro⟨i,oa,oc⟩ H1 ⟨hi,ho1,hx1⟩
  dsimp only at hi ho1 ⊢
  have hz1:=hx1.size
  by_cases hlt:i<L.length
  ·obtain⟨n,hn⟩: ∃ n,L[i]? =some n:=⟨_,List.getElem?_eq_getElem (by omega)⟩
   have hsn:=Why.namesN_snoc hn
   have hlen:=Why.namesN_len (L.take i)
   rw[List.length_take]at hlen
   obtain⟨l,hl⟩: ∃ l,Why.namesN (L.take i)=l:=⟨_,rfl⟩
   rw[hl]at ho1 hsn hlen ⊢
   have hcl:=ho1.cap_le
   ((conv=>whnf);repeat(any_goals((first|refine Vc.stp ?_)<;>(intros;(conv=>whnf)))))
   refine LoopH.intro (fun(t:Nat)=>[(16,.int .i64 t)]) (fun t H'=>H1=H'∧t≤l.length∧ ∀ j x,j<t→l[j]? =some x→Op.bytesLess x n.name=true) (fun t=>l.length-t) 0 ⟨rfl,trivial⟩ ⟨rfl,Nat.zero_le _,fun j x h=>absurd h (Nat.not_lt_zero _)⟩ ?_
   rintro t _ ⟨rfl,ht,hless⟩
   have htl:(l.take t).length=t:=by rw[List.length_take];omega
   have hdl:(l.drop t).length=l.length-t:=List.length_drop
   by_cases htn:t<l.length
   ·obtain⟨x,hx⟩: ∃ x,l[t]? =some x:=⟨_,List.getElem?_eq_getElem htn⟩
    have e1:Op.bytesLess (mkS x).toList (mkS n.name).toList=Op.bytesLess x n.name:=by rw[toListS,toListS]
    by_cases hls:Op.bytesLess x n.name=true
    ·rw[hls]at e1
     ((conv=>whnf);repeat(any_goals((first|(refine IdxA.need (H0:=H) hL.const rfl i n rfl hn ?_;intro b o c hcN hcl hc0)|(refine IdxA.strv ho1.strs.row rfl t x rfl hx ?_;intro _ _ _ _ _)|refine Vc.stp ?_)<;>(intros;(conv=>whnf)))))
     exact⟨t+1,⟨rfl,trivial⟩,⟨rfl,by omega,fun j y hj hy=>by
      by_cases hjt:j=t
      ·subst hjt;rw[hx]at hy;cases hy;exact hls
      ·exact hless j y (by omega) hy⟩,by omega⟩
    ·have hls:Op.bytesLess x n.name=false:=by simpa using hls
     rw[hls]at e1
     have hins:=Why.insW_at l n.name t hless (by omega) (fun y hy=>by rw[hx]at hy;cases hy;exact hls)
     rw[hins]at hsn
     ((conv=>whnf);repeat(any_goals((first|(refine IdxA.need (H0:=H) hL.const rfl i n rfl hn ?_;intro b o c hcN hcl hc0)|(refine IdxA.strv ho1.strs.row rfl t x rfl hx ?_;intro _ _ _ _ _)|(refine BndH.nat t rfl (by omega) ?_)|(refine NextH.full1 str_ok.ok rfl ⟨_,rfl,fun _ h=>by cases h⟩ rfl rfl rfl rfl (by decide) ((ho1.row.ext str_ok.ok hx5).take str_ok.ok t) (by rw[List.length_take];omega) ho5.row (by rw[List.length_cons,List.length_drop];omega) (by omega) (by omega) ?_;intro c6 H6 ho6 hx6;have hz6:=hx6.size)|(rename_i Hl zl bl xl;refine NextH.pre1 str_ok (c:=[.string (mkS n.name)]) rfl ⟨_,rfl,fun _ h=>by cases h⟩ rfl rfl rfl rfl (by decide) id bl rfl ((ho1.row.ext str_ok.ok xl).drop str_ok.ok oc t (fun e=>by omega)) List.length_drop (by omega) ?_;intro a5 c5 H5 ho5 hw5;have hx5:Ext H1 H5:=xl.but hw5 (by omega);have hz5:=hx5.size)|refine Vc.stp ?_)<;>(intros;(conv=>whnf)))))
     have hlen2:(l.take t++n.name::l.drop t).length=t+(1+(l.length-t)):=(by rw[List.length_append,List.length_take,List.length_cons,List.length_drop];omega);exact⟨⟨i+1,some ⟨H5.size,0,none⟩,c6⟩,⟨rfl,by(show Value.slice _ _ _=Value.slice _ _ _;rw[hsn,hlen2]),trivial⟩,⟨by(show i+1≤L.length;omega),by(dsimp only;rw[hsn];exact ho6.base (by omega)),hx1.trans (hx5.trans hx6)⟩,by(show L.length-(i+1)<L.length-i;omega)⟩
   ·obtain rfl:t=l.length:=by omega
    have hins:=Why.insW_at l n.name l.length hless (Nat.le_refl _) (fun y hy=>by simp at hy)
    rw[hins]at hsn
    obtain⟨t,ht0⟩: ∃ t,t=l.length:=⟨_,rfl⟩
    rw[←ht0]at hsn htl hdl
    ((conv=>whnf);repeat(any_goals((first|(refine IdxA.need (H0:=H) hL.const rfl i n rfl hn ?_;intro b o c hcN hcl hc0)|(refine IdxA.strv ho1.strs.row rfl t x rfl hx ?_;intro _ _ _ _ _)|(refine BndH.nat t (by rw[ht0]) (by omega) ?_)|(refine NextH.full1 str_ok.ok rfl ⟨_,rfl,fun _ h=>by cases h⟩ rfl rfl rfl rfl (by decide) ((ho1.row.ext str_ok.ok hx5).take str_ok.ok t) (by rw[List.length_take];omega) ho5.row (by rw[List.length_cons,List.length_drop];omega) (by omega) (by omega) ?_;intro c6 H6 ho6 hx6;have hz6:=hx6.size)|(rename_i Hl zl bl xl;refine NextH.pre1 str_ok (c:=[.string (mkS n.name)]) rfl ⟨_,rfl,fun _ h=>by cases h⟩ rfl rfl rfl rfl (by decide) id bl rfl ((ho1.row.ext str_ok.ok xl).drop str_ok.ok oc t (fun e=>by omega)) List.length_drop (by omega) ?_;intro a5 c5 H5 ho5 hw5;have hx5:Ext H1 H5:=xl.but hw5 (by omega);have hz5:=hx5.size)|refine Vc.stp ?_)<;>(intros;(conv=>whnf)))))
    have hlen2:(l.take t++n.name::l.drop t).length=t+(1+(l.length-t)):=(by rw[List.length_append,List.length_take,List.length_cons,List.length_drop];omega);exact⟨⟨i+1,some ⟨H5.size,0,none⟩,c6⟩,⟨rfl,by(show Value.slice _ _ _=Value.slice _ _ _;rw[hsn,hlen2]),trivial⟩,⟨by(show i+1≤L.length;omega),by(dsimp only;rw[hsn];exact ho6.base (by omega)),hx1.trans (hx5.trans hx6)⟩,by(show L.length-(i+1)<L.length-i;omega)⟩
  ·obtain rfl:i=L.length:=by omega
   rw[List.take_of_length_le (Nat.le_refl _)]at ho1 ⊢
   ((conv=>whnf);repeat(any_goals((first|refine Vc.stp ?_)<;>(intros;(conv=>whnf)))))
   exact⟨⟨oa,oc,rfl,ho1.strs⟩,hx1⟩
 ·have hpm:=List.mem_of_find?_eq_some hf
  obtain⟨r,hr,hrp⟩:=hrow p hpm
  obtain⟨ri,hri⟩:=List.getElem?_of_mem hr
  have hidx:idxR R p.name p.v=some ri:=by rw[←hrp];exact idx_of ha hri
  have hpv:VerB p.v:=by rw[←hrp];exact rows_ver hRB r hr
  have hpin:=fun H' (k':Ext H H')=>rpin_any P k pa pn pc H H' k' hP hpn (by omega)
  rw[hf]at hpin
  have hrow2:=fun H' (k:Ext H H') cp hcp=>rrow_any R p hpv (rows_ver hRB) ra rn rc cp H H' k hR hrn (by omega) hcp
  rw[hidx]at hrow2
  have e0:((mkS k).toList==(mkS []).toList)=false:=by rw[str_mk];exact decide_eq_false hk0
  have hLr:L=r.needs:=by rw[hL];exact Why.needs_find hf hidx hri
  have hrnl:=hRB.needs r hr
  subst hLr
  clear hL
  ((conv=>whnf);repeat(any_goals((first|(refine(hpin _ (Ext.refl _)).mono ?_;rintro _ H2 ⟨⟨cp,rfl,hcp⟩,hx2⟩;have hz2:=hx2.size)|(rename_i Hl zl bl xl;(fail_if_success (have:=b3));refine DoH.store_list bl rfl (by rw[pin_ok.len hcp];rfl) (by rw[pin_ok.len hcp];rfl) (pin_ok.plain hcp) ?_;intro H3 z3 b3 k3;have hx03:Ext H H3:=by exact Vc.xt)|((with_reducible apply SemH.load_pin);(exact pin_ok.len hcp);(exact fun k u hu=>blk_list b3 0 k u (by rw[Nat.zero_add];exact hu));(exact Ext.refl _);(conv=>whnf))|(refine(hrow2 _ hx03 cp hcp).mono ?_;rintro _ H4 ⟨⟨r4,cr,hr4,rfl,hcr⟩,hx4⟩;have hz4:=hx4.size;rw[hri]at hr4;have e7:=Option.some.inj hr4;subst e7)|(rename_i Hq zq bq xq;refine DoH.store_list bq rfl (by rw[row_ok.len hcr];rfl) (by rw[row_ok.len hcr];rfl) (row_ok.plain hcr) ?_;intro H5 z5 b5 k5;obtain⟨sa,sc,ma,mc,er,r32,hsl,hsr,hnl5,hnr5⟩:=(id hcr);have hn38:hcell H5 ⟨H4.size,0+38,none⟩=some (.slice ma r.needs.length mc):=blk_list b5 0 38 _ (by rw[Nat.zero_add];exact(row_last er (by rw[strV_length];exact r32)).2);have hx0:Ext H H5:=hx03.trans (by exact Vc.xt))|refine Vc.stp ?_)<;>(intros;(conv=>whnf)))))
  have hL:=hnr5
  obtain⟨L,hLe⟩: ∃ M,r.needs=M:=⟨_,rfl⟩
  rw[hLe]at hL hrnl ⊢
  refine LoopH.intro (fun(x:NoS)=>[(15,.int .i64 x.i),(14,.slice x.a (Why.namesN (L.take x.i)).length x.cap)]) (fun x H'=>x.i≤L.length∧OwnE strE 1 H' H.size 9 x.a (Why.namesN (L.take x.i)) x.cap∧Ext H H') (fun x=>L.length-x.i) ⟨0,none,0⟩ ⟨rfl,rfl,trivial⟩ ⟨Nat.zero_le _,OwnE.nil _ _ _ _ _,by first|exact Ext.refl _|exact hx0⟩ ?_
  rintro⟨i,oa,oc⟩ H1 ⟨hi,ho1,hx1⟩
  dsimp only at hi ho1 ⊢
  have hz1:=hx1.size
  by_cases hlt:i<L.length
  ·obtain⟨n,hn⟩: ∃ n,L[i]? =some n:=⟨_,List.getElem?_eq_getElem (by omega)⟩
   have hsn:=Why.namesN_snoc hn
   have hlen:=Why.namesN_len (L.take i)
   rw[List.length_take]at hlen
   obtain⟨l,hl⟩: ∃ l,Why.namesN (L.take i)=l:=⟨_,rfl⟩
   rw[hl]at ho1 hsn hlen ⊢
   have hcl:=ho1.cap_le
   ((conv=>whnf);repeat(any_goals((first|refine Vc.stp ?_)<;>(intros;(conv=>whnf)))))
   refine LoopH.intro (fun(t:Nat)=>[(16,.int .i64 t)]) (fun t H'=>H1=H'∧t≤l.length∧ ∀ j x,j<t→l[j]? =some x→Op.bytesLess x n.name=true) (fun t=>l.length-t) 0 ⟨rfl,trivial⟩ ⟨rfl,Nat.zero_le _,fun j x h=>absurd h (Nat.not_lt_zero _)⟩ ?_
   rintro t _ ⟨rfl,ht,hless⟩
   have htl:(l.take t).length=t:=by rw[List.length_take];omega
   have hdl:(l.drop t).length=l.length-t:=List.length_drop
   by_cases htn:t<l.length
   ·obtain⟨x,hx⟩: ∃ x,l[t]? =some x:=⟨_,List.getElem?_eq_getElem htn⟩
    have e1:Op.bytesLess (mkS x).toList (mkS n.name).toList=Op.bytesLess x n.name:=by rw[toListS,toListS]
    by_cases hls:Op.bytesLess x n.name=true
    ·rw[hls]at e1
     ((conv=>whnf);repeat(any_goals((first|(refine IdxA.need (H0:=H) hL.const rfl i n rfl hn ?_;intro b o c hcN hcl hc0)|(refine IdxA.strv ho1.strs.row rfl t x rfl hx ?_;intro _ _ _ _ _)|refine Vc.stp ?_)<;>(intros;(conv=>whnf)))))
     exact⟨t+1,⟨rfl,trivial⟩,⟨rfl,by omega,fun j y hj hy=>by
      by_cases hjt:j=t
      ·subst hjt;rw[hx]at hy;cases hy;exact hls
      ·exact hless j y (by omega) hy⟩,by omega⟩
    ·have hls:Op.bytesLess x n.name=false:=by simpa using hls
     rw[hls]at e1
     have hins:=Why.insW_at l n.name t hless (by omega) (fun y hy=>by rw[hx]at hy;cases hy;exact hls)
     rw[hins]at hsn
     ((conv=>whnf);repeat(any_goals((first|(refine IdxA.need (H0:=H) hL.const rfl i n rfl hn ?_;intro b o c hcN hcl hc0)|(refine IdxA.strv ho1.strs.row rfl t x rfl hx ?_;intro _ _ _ _ _)|(refine BndH.nat t rfl (by omega) ?_)|(refine NextH.full1 str_ok.ok rfl ⟨_,rfl,fun _ h=>by cases h⟩ rfl rfl rfl rfl (by decide) ((ho1.row.ext str_ok.ok hx5).take str_ok.ok t) (by rw[List.length_take];omega) ho5.row (by rw[List.length_cons,List.length_drop];omega) (by omega) (by omega) ?_;intro c6 H6 ho6 hx6;have hz6:=hx6.size)|(rename_i Hl zl bl xl;refine NextH.pre1 str_ok (c:=[.string (mkS n.name)]) rfl ⟨_,rfl,fun _ h=>by cases h⟩ rfl rfl rfl rfl (by decide) id bl rfl ((ho1.row.ext str_ok.ok xl).drop str_ok.ok oc t (fun e=>by omega)) List.length_drop (by omega) ?_;intro a5 c5 H5 ho5 hw5;have hx5:Ext H1 H5:=xl.but hw5 (by omega);have hz5:=hx5.size)|refine Vc.stp ?_)<;>(intros;(conv=>whnf)))))
     have hlen2:(l.take t++n.name::l.drop t).length=t+(1+(l.length-t)):=(by rw[List.length_append,List.length_take,List.length_cons,List.length_drop];omega);exact⟨⟨i+1,some ⟨H5.size,0,none⟩,c6⟩,⟨rfl,by(show Value.slice _ _ _=Value.slice _ _ _;rw[hsn,hlen2]),trivial⟩,⟨by(show i+1≤L.length;omega),by(dsimp only;rw[hsn];exact ho6.base (by omega)),hx1.trans (hx5.trans hx6)⟩,by(show L.length-(i+1)<L.length-i;omega)⟩
   ·obtain rfl:t=l.length:=by omega
    have hins:=Why.insW_at l n.name l.length hless (Nat.le_refl _) (fun y hy=>by simp at hy)
    rw[hins]at hsn
    obtain⟨t,ht0⟩: ∃ t,t=l.length:=⟨_,rfl⟩
    rw[←ht0]at hsn htl hdl
    ((conv=>whnf);repeat(any_goals((first|(refine IdxA.need (H0:=H) hL.const rfl i n rfl hn ?_;intro b o c hcN hcl hc0)|(refine IdxA.strv ho1.strs.row rfl t x rfl hx ?_;intro _ _ _ _ _)|(refine BndH.nat t (by rw[ht0]) (by omega) ?_)|(refine NextH.full1 str_ok.ok rfl ⟨_,rfl,fun _ h=>by cases h⟩ rfl rfl rfl rfl (by decide) ((ho1.row.ext str_ok.ok hx5).take str_ok.ok t) (by rw[List.length_take];omega) ho5.row (by rw[List.length_cons,List.length_drop];omega) (by omega) (by omega) ?_;intro c6 H6 ho6 hx6;have hz6:=hx6.size)|(rename_i Hl zl bl xl;refine NextH.pre1 str_ok (c:=[.string (mkS n.name)]) rfl ⟨_,rfl,fun _ h=>by cases h⟩ rfl rfl rfl rfl (by decide) id bl rfl ((ho1.row.ext str_ok.ok xl).drop str_ok.ok oc t (fun e=>by omega)) List.length_drop (by omega) ?_;intro a5 c5 H5 ho5 hw5;have hx5:Ext H1 H5:=xl.but hw5 (by omega);have hz5:=hx5.size)|refine Vc.stp ?_)<;>(intros;(conv=>whnf)))))
    have hlen2:(l.take t++n.name::l.drop t).length=t+(1+(l.length-t)):=(by rw[List.length_append,List.length_take,List.length_cons,List.length_drop];omega);exact⟨⟨i+1,some ⟨H5.size,0,none⟩,c6⟩,⟨rfl,by(show Value.slice _ _ _=Value.slice _ _ _;rw[hsn,hlen2]),trivial⟩,⟨by(show i+1≤L.length;omega),by(dsimp only;rw[hsn];exact ho6.base (by omega)),hx1.trans (hx5.trans hx6)⟩,by(show L.length-(i+1)<L.length-i;omega)⟩
  ·obtain rfl:i=L.length:=by omega
   rw[List.take_of_length_le (Nat.le_refl _)]at ho1 ⊢
   ((conv=>whnf);repeat(any_goals((first|refine Vc.stp ?_)<;>(intros;(conv=>whnf)))))
   exact⟨⟨oa,oc,rfl,ho1.strs⟩,hx1⟩
end Go.Proofs.YtjdieklgoepdjaaGreatDoor
namespace Go.Why
open Go.Scr Go.Tre Go.Slv
def usersT (R:List RowP) (P:List PinP) (name:Txt) (i:Nat):List Txt:=((P.take i).filter fun p=>(needsP R P p.name).any fun n=>n.name==name).map (·.name)
theorem any_names (l:List NeedP) (k:Txt):(l.any fun n=>n.name==k)=decide (k∈namesN l):=by
 rw[Bool.eq_iff_iff,decide_eq_true_eq,namesN_mem,List.any_eq_true]
 simp
theorem users_step {R:List RowP} {P:List PinP} {name:Txt} {i:Nat} {p:PinP} (hp:P[i]? =some p):usersT R P name (i+1)=usersT R P name i++if name∈namesN (needsP R P p.name)then [p.name]else []:=by
 unfold usersT
 rw[List.take_add_one,hp,List.filter_append,List.map_append]
 congr 1
 show List.map _ (List.filter _ [p])=_
 rw[List.filter_cons,any_names]
 by_cases h:name∈namesN (needsP R P p.name)
 ·rw[decide_eq_true h,if_pos h];rfl
 ·rw[decide_eq_false h,if_neg h];rfl
theorem users_len (R:List RowP) (P:List PinP) (name:Txt) (i:Nat):(usersT R P name i).length≤i:=by
 unfold usersT
 rw[List.length_map]
 exact Nat.le_trans (List.length_filter_le _ _) (by rw[List.length_take];omega)
theorem users_eq {R:List RowP} {N:List NeedP} {P:List PinP} {name:Txt}:usersF R N P name=(if name∈namesN N then [[]]else [])++usersT R P name P.length:=by
 unfold usersF usersT
 rw[any_names,List.take_length]
 simp
end Go.Why
namespace Go.Proofs.YtjdieklgoepdjaaGreatDoor
open Go Go.Vc Go.Scr Go.Slv
open Go.Why (usersT users_step users_len users_eq)
set_option maxHeartbeats 4000000 in
theorem rusers_any (R:List RowP) (ha:Apart R) (hRB:RowsB R) (N:List NeedP) (P:List PinP) (hs:SortP P) (hrow: ∀ p∈P,∃ r∈R,pinR r=p) (hne: ∀ p∈P,p.name≠ []) (name:Bs) (ra na pa:Option Addr) (rn rc nn nc pn pc:Nat) (H:Heap)
  (hR:RowE rowE H ra R) (hN:RowE needE H na N) (hP:RowE pinE H pa P) (hrn:R.length=rn) (hnn:N.length=nn) (hpn:P.length=pn) (hrl:rn≤10000) (hnl:nn≤10000) (hpl:pn≤900) (hnc:nn≤nc):
  CallH Tryz.prog 27 [.slice ra rn rc,.slice na nn nc,.slice pa pn pc,.string (mkS name)] H fun x H'=>(∃ a c,x= .slice a (Why.usersF R N P name).length c∧Own H' H.size 9 1 a (Why.usersF R N P name).length c (strs (Why.usersF R N P name)))∧Ext H H':=by
 have hnN:(Why.namesN N).length≤10000:=by rw[Why.namesN_len];omega
 have hu:=users_eq (R:=R) (N:=N) (P:=P) (name:=name)
 rw[hpn]at hu
 refine Vc.CallH.body Tryz.func27 Tryz.call27 rfl (by decide+kernel) rfl ?_
 by_cases hm:name∈Why.namesN N
 ·obtain⟨A0,hA0⟩: ∃ A0:List Bs,A0=[[]]:=⟨_,rfl⟩
  have hA:A0.length≤1:=by rw[hA0];decide
  have hus:Why.usersF R N P name=A0++usersT R P name pn:=by rw[hu,if_pos hm,hA0]
  ((conv=>whnf);repeat(any_goals((first|(refine(rneedsof_any R ha hRB N P hrow [] N (.inl ⟨rfl,rfl⟩) ra na pa rn rc nn nc pn pc _ hR hN hP hrn hnn hpn hrl hnl hpl hnc).mono ?_;rintro _ H1 ⟨⟨a1,c1,rfl,ho1⟩,hx1⟩;have hz1:=hx1.size)|(refine(rin_any _ name a1 _ c1 _ ho1.row rfl (by omega)).mono ?_;rintro _ _ ⟨rfl,rfl⟩;rw[decide_eq_true hm])|refine Vc.stp ?_)<;>(intros;(conv=>whnf)))))
  rename_i Hm zm bm xm
  refine NextH.push1b (v:= .string (mkS [])) bm (Own.nil Hm H.size 9 1) (by have:=zm;omega) (by omega) rfl ⟨_,rfl,fun _ h=>by cases h⟩ rfl rfl rfl rfl rfl rfl rfl ?_
  intro a2 c2 H2 ho2 hz2 hw2
  have hx2:Ext H H2:=ext_wrO (n:=0) (hx1.trans xm) (fun q hq=>by cases hq) hw2
  ((conv=>whnf);repeat(any_goals((first|refine Vc.stp ?_)<;>(intros;(conv=>whnf)))))
  refine LoopH.intro (fun(x:NoS)=>[(10,.int .i64 x.i),(9,.slice x.a (A0++usersT R P name x.i).length x.cap)]) (fun x H'=>x.i≤pn∧Own H' H.size 9 1 x.a (A0++usersT R P name x.i).length x.cap (strs (A0++usersT R P name x.i))∧Ext H H') (fun x=>pn-x.i) ⟨0,a2,c2⟩ ⟨rfl,by show Value.slice _ _ _=Value.slice _ _ _;rw[hA0];rfl,trivial⟩ ⟨Nat.zero_le _,by dsimp only;rw[hA0];exact ho2,hx2⟩ ?_
  rintro⟨i,oa,oc⟩ H3 ⟨hi,ho3,hx3⟩
  dsimp only at hi ho3 ⊢
  have hz3:=hx3.size
  by_cases hlt:i<pn
  ·obtain⟨p,hp⟩: ∃ p,P[i]? =some p:=⟨_,List.getElem?_eq_getElem (by omega)⟩
   have hpm:=List.mem_of_getElem? hp
   have hfp:findP P p.name=some p:=find_sorted hs hpm
   have hn2:=fun H' (k:Ext H H')=>rneedsof_any R ha hRB N P hrow p.name (Why.needsP R P p.name) (.inr ⟨hne p hpm,⟨p,hfp⟩,rfl⟩) ra na pa rn rc nn nc pn pc H' (hR.ext row_ok k) (hN.ext need_ok k) (hP.ext pin_ok k) hrn hnn hpn hrl hnl hpl hnc
   have hnl2:(Why.namesN (Why.needsP R P p.name)).length≤1000:=by
    obtain⟨r,hr,hrp⟩:=hrow p hpm
    have h1:=Why.needs_pin ha hs hr (by rw[hrp];exact hpm)
    rw[Why.namesN_len,show p.name=r.name by rw[←hrp];rfl,h1]
    exact hRB.needs r hr
   have hst:=users_step (R:=R) (P:=P) (name:=name) hp
   have hul:=users_len R P name i
   obtain⟨U,hU⟩: ∃ U,A0++usersT R P name i=U:=⟨_,rfl⟩
   have hUl:U.length≤1000:=by rw[←hU,List.length_append];omega
   rw[hU]at ho3 ⊢
   by_cases hm2:name∈Why.namesN (Why.needsP R P p.name)
   ·have hst2:A0++usersT R P name (i+1)=U++[p.name]:=by rw[hst,if_pos hm2,←List.append_assoc,hU]
    ((conv=>whnf);repeat(any_goals((first|(refine IdxA.pin hP hpn i p rfl hp ?_;intro b1 o1 c1 pa1 pc1 hp1 hl1 hpl1 hpr1 hcl1 hn1 hv1)|(refine(hn2 _ hx3).mono ?_;rintro _ H4 ⟨⟨a4,c4,rfl,ho4⟩,hx4⟩;have hz4:=hx4.size)|(refine(rin_any _ name a4 _ c4 _ ho4.row rfl (by omega)).mono ?_;rintro _ _ ⟨rfl,rfl⟩;rw[decide_eq_true hm2])|(rename_i Hm zm bm xm;refine NextH.push1b bm (ho3.ext (by exact Vc.xt)) (by omega) (by omega) rfl ⟨_,rfl,fun _ h=>by cases h⟩ rfl rfl rfl rfl rfl rfl rfl ?_;intro a6 c6 H6 ho6 hz6 hw6;have hx6:Ext H H6:=ext_wrO (hx3.trans (hx4.trans xm)) (fun q hq=>ho3.block q hq) hw6)|refine Vc.stp ?_)<;>(intros;(conv=>whnf)))))
    exact⟨⟨i+1,a6,c6⟩,⟨rfl,by show Value.slice _ _ _=Value.slice _ _ _;rw[hst2,List.length_append];rfl,trivial⟩,⟨by show i+1≤pn;omega,by dsimp only;rw[hst2];exact own_snocS rfl ho6,hx6⟩,by show pn-(i+1)<pn-i;omega⟩
   ·have hst2:A0++usersT R P name (i+1)=U:=by rw[hst,if_neg hm2,List.append_nil,hU]
    ((conv=>whnf);repeat(any_goals((first|(refine IdxA.pin hP hpn i p rfl hp ?_;intro b1 o1 c1 pa1 pc1 hp1 hl1 hpl1 hpr1 hcl1 hn1 hv1)|(refine(hn2 _ hx3).mono ?_;rintro _ H4 ⟨⟨a4,c4,rfl,ho4⟩,hx4⟩;have hz4:=hx4.size)|(refine(rin_any _ name a4 _ c4 _ ho4.row rfl (by omega)).mono ?_;rintro _ _ ⟨rfl,rfl⟩;rw[decide_eq_false hm2])|refine Vc.stp ?_)<;>(intros;(conv=>whnf)))))
    exact⟨⟨i+1,oa,oc⟩,⟨rfl,by show Value.slice _ _ _=Value.slice _ _ _;rw[hst2],trivial⟩,⟨by show i+1≤pn;omega,by dsimp only;rw[hst2];exact ho3.ext hx4,hx3.trans hx4⟩,by show pn-(i+1)<pn-i;omega⟩
  ·obtain rfl:i=pn:=by omega
   rw[hus]
   ((conv=>whnf);repeat(any_goals((first|refine Vc.stp ?_)<;>(intros;(conv=>whnf)))))
   exact⟨⟨oa,oc,rfl,ho3⟩,hx3⟩
 ·obtain⟨A0,hA0⟩: ∃ A0:List Bs,A0=[]:=⟨_,rfl⟩
  have hA:A0.length≤1:=by rw[hA0];decide
  have hus:Why.usersF R N P name=A0++usersT R P name pn:=by rw[hu,if_neg hm,hA0]
  ((conv=>whnf);repeat(any_goals((first|(refine(rneedsof_any R ha hRB N P hrow [] N (.inl ⟨rfl,rfl⟩) ra na pa rn rc nn nc pn pc _ hR hN hP hrn hnn hpn hrl hnl hpl hnc).mono ?_;rintro _ H1 ⟨⟨a1,c1,rfl,ho1⟩,hx1⟩;have hz1:=hx1.size)|(refine(rin_any _ name a1 _ c1 _ ho1.row rfl (by omega)).mono ?_;rintro _ _ ⟨rfl,rfl⟩;rw[decide_eq_false hm])|refine Vc.stp ?_)<;>(intros;(conv=>whnf)))))
  refine LoopH.intro (fun(x:NoS)=>[(10,.int .i64 x.i),(9,.slice x.a (A0++usersT R P name x.i).length x.cap)]) (fun x H'=>x.i≤pn∧Own H' H.size 9 1 x.a (A0++usersT R P name x.i).length x.cap (strs (A0++usersT R P name x.i))∧Ext H H') (fun x=>pn-x.i) ⟨0,none,0⟩ ⟨rfl,by show Value.slice _ _ _=Value.slice _ _ _;rw[hA0];rfl,trivial⟩ ⟨Nat.zero_le _,by dsimp only;rw[hA0];exact Own.nil _ _ _ _,hx1⟩ ?_
  rintro⟨i,oa,oc⟩ H3 ⟨hi,ho3,hx3⟩
  dsimp only at hi ho3 ⊢
  have hz3:=hx3.size
  by_cases hlt:i<pn
  ·obtain⟨p,hp⟩: ∃ p,P[i]? =some p:=⟨_,List.getElem?_eq_getElem (by omega)⟩
   have hpm:=List.mem_of_getElem? hp
   have hfp:findP P p.name=some p:=find_sorted hs hpm
   have hn2:=fun H' (k:Ext H H')=>rneedsof_any R ha hRB N P hrow p.name (Why.needsP R P p.name) (.inr ⟨hne p hpm,⟨p,hfp⟩,rfl⟩) ra na pa rn rc nn nc pn pc H' (hR.ext row_ok k) (hN.ext need_ok k) (hP.ext pin_ok k) hrn hnn hpn hrl hnl hpl hnc
   have hnl2:(Why.namesN (Why.needsP R P p.name)).length≤1000:=by
    obtain⟨r,hr,hrp⟩:=hrow p hpm
    have h1:=Why.needs_pin ha hs hr (by rw[hrp];exact hpm)
    rw[Why.namesN_len,show p.name=r.name by rw[←hrp];rfl,h1]
    exact hRB.needs r hr
   have hst:=users_step (R:=R) (P:=P) (name:=name) hp
   have hul:=users_len R P name i
   obtain⟨U,hU⟩: ∃ U,A0++usersT R P name i=U:=⟨_,rfl⟩
   have hUl:U.length≤1000:=by rw[←hU,List.length_append];omega
   rw[hU]at ho3 ⊢
   by_cases hm2:name∈Why.namesN (Why.needsP R P p.name)
   ·have hst2:A0++usersT R P name (i+1)=U++[p.name]:=by rw[hst,if_pos hm2,←List.append_assoc,hU]
    ((conv=>whnf);repeat(any_goals((first|(refine IdxA.pin hP hpn i p rfl hp ?_;intro b1 o1 c1 pa1 pc1 hp1 hl1 hpl1 hpr1 hcl1 hn1 hv1)|(refine(hn2 _ hx3).mono ?_;rintro _ H4 ⟨⟨a4,c4,rfl,ho4⟩,hx4⟩;have hz4:=hx4.size)|(refine(rin_any _ name a4 _ c4 _ ho4.row rfl (by omega)).mono ?_;rintro _ _ ⟨rfl,rfl⟩;rw[decide_eq_true hm2])|(rename_i Hm zm bm xm;refine NextH.push1b bm (ho3.ext (by exact Vc.xt)) (by omega) (by omega) rfl ⟨_,rfl,fun _ h=>by cases h⟩ rfl rfl rfl rfl rfl rfl rfl ?_;intro a6 c6 H6 ho6 hz6 hw6;have hx6:Ext H H6:=ext_wrO (hx3.trans (hx4.trans xm)) (fun q hq=>ho3.block q hq) hw6)|refine Vc.stp ?_)<;>(intros;(conv=>whnf)))))
    exact⟨⟨i+1,a6,c6⟩,⟨rfl,by show Value.slice _ _ _=Value.slice _ _ _;rw[hst2,List.length_append];rfl,trivial⟩,⟨by show i+1≤pn;omega,by dsimp only;rw[hst2];exact own_snocS rfl ho6,hx6⟩,by show pn-(i+1)<pn-i;omega⟩
   ·have hst2:A0++usersT R P name (i+1)=U:=by rw[hst,if_neg hm2,List.append_nil,hU]
    ((conv=>whnf);repeat(any_goals((first|(refine IdxA.pin hP hpn i p rfl hp ?_;intro b1 o1 c1 pa1 pc1 hp1 hl1 hpl1 hpr1 hcl1 hn1 hv1)|(refine(hn2 _ hx3).mono ?_;rintro _ H4 ⟨⟨a4,c4,rfl,ho4⟩,hx4⟩;have hz4:=hx4.size)|(refine(rin_any _ name a4 _ c4 _ ho4.row rfl (by omega)).mono ?_;rintro _ _ ⟨rfl,rfl⟩;rw[decide_eq_false hm2])|refine Vc.stp ?_)<;>(intros;(conv=>whnf)))))
    exact⟨⟨i+1,oa,oc⟩,⟨rfl,by show Value.slice _ _ _=Value.slice _ _ _;rw[hst2],trivial⟩,⟨by show i+1≤pn;omega,by dsimp only;rw[hst2];exact ho3.ext hx4,hx3.trans hx4⟩,by show pn-(i+1)<pn-i;omega⟩
  ·obtain rfl:i=pn:=by omega
   rw[hus]
   ((conv=>whnf);repeat(any_goals((first|refine Vc.stp ?_)<;>(intros;(conv=>whnf)))))
   exact⟨⟨oa,oc,rfl,ho3⟩,hx3⟩
end Go.Proofs.YtjdieklgoepdjaaGreatDoor
namespace Go.Why
open Go.Scr Go.Tre Go.Slv
abbrev WRes:=List Txt ⊕ (List Txt×List (List Txt))
def endR (R:List RowP) (N:List NeedP) (P:List PinP) (name:Txt) (f:Nat):WRes→List Txt
 | .inl w=>w
 | .inr (s,d)=>bfs R N P name f d s
def contL (R:List RowP) (N:List NeedP) (P:List PinP) (name:Txt) (l:List (List Txt)):WRes→WRes
 | .inl w=> .inl w
 | .inr (s,d)=>goL R N P name l s d
theorem bfs_nil (R:List RowP) (N:List NeedP) (P:List PinP) (name:Txt) (f:Nat) (seen:List Txt):bfs R N P name f [] seen=[]:=by
 cases f<;>rfl
theorem bfs_cons (R:List RowP) (N:List NeedP) (P:List PinP) (name:Txt) (f:Nat) (x:List Txt) (l:List (List Txt)) (seen:List Txt):bfs R N P name (f+1) (x::l) seen=endR R N P name f (goL R N P name (x::l) seen []):=by
 unfold bfs
 cases e:goL R N P name (x::l) seen []with
 |inl w=>simp only[e];rfl
 |inr y=>simp only[e];rfl
theorem goL_cons (R:List RowP) (N:List NeedP) (P:List PinP) (name:Txt) (path:List Txt) (l:List (List Txt)) (seen:List Txt) (deep:List (List Txt)):goL R N P name (path::l) seen deep=contL R N P name l (goN name path (nextN R N P path) seen deep):=by
 rw[goL]
 cases e:goN name path (nextN R N P path) seen deep with
 |inl w=>rfl
 |inr y=>rfl
theorem goL_at {R:List RowP} {N:List NeedP} {P:List PinP} {name:Txt} {lv:List (List Txt)} {i:Nat} {path:List Txt} (h:lv[i]? =some path) (seen:List Txt) (deep:List (List Txt)):goL R N P name (lv.drop i) seen deep=contL R N P name (lv.drop (i+1)) (goN name path (nextN R N P path) seen deep):=by
 obtain⟨g1,g2⟩:=List.getElem?_eq_some_iff.1 h
 rw[List.drop_eq_getElem_cons g1,g2,goL_cons]
theorem goL_end {R:List RowP} {N:List NeedP} {P:List PinP} {name:Txt} {lv:List (List Txt)} {i:Nat} (h:lv.length≤i) (seen:List Txt) (deep:List (List Txt)):goL R N P name (lv.drop i) seen deep= .inr (seen,deep):=by
 rw[List.drop_of_length_le h];rfl
theorem goN_at {name:Txt} {path ks:List Txt} {i:Nat} {k:Txt} (h:ks[i]? =some k) (seen:List Txt) (deep:List (List Txt)):goN name path (ks.drop i) seen deep=if k∈seen then goN name path (ks.drop (i+1)) seen deep else if k=name then .inl (path++[k])else goN name path (ks.drop (i+1)) (seen++[k]) (deep++[path++[k]]):=by
 obtain⟨g1,g2⟩:=List.getElem?_eq_some_iff.1 h
 rw[List.drop_eq_getElem_cons g1,g2,goN]
theorem goN_end {name:Txt} {path ks:List Txt} {i:Nat} (h:ks.length≤i) (seen:List Txt) (deep:List (List Txt)):goN name path (ks.drop i) seen deep= .inr (seen,deep):=by
 rw[List.drop_of_length_le h];rfl
theorem nextN_sub {R:List RowP} {N:List NeedP} {P:List PinP} {path:List Txt} {k:Txt} (h:k∈nextN R N P path):k∈allN R N:=by
 unfold nextN at h
 unfold allN
 rw[List.mem_append]
 split at h
 ·obtain⟨n,hn,e⟩:=(namesN_mem _ _).1 h
  exact .inl (List.mem_map.2 ⟨n,hn,e⟩)
 ·obtain⟨n,hn,e⟩:=(namesN_mem _ _).1 h
  obtain⟨r,hr,hn⟩:=needsP_mem hn
  exact .inr (List.mem_flatMap.2 ⟨r,hr,List.mem_map.2 ⟨n,hn,e⟩⟩)
structure FuelI (R:List RowP) (N:List NeedP) (seen:List Txt) (lv:List (List Txt)) (f:Nat):Prop where
 nodup:seen.Nodup
 sub: ∀ k∈seen,k∈allN R N
 fuel:lv=[]∨(allN R N).length+1≤seen.length+f
theorem FuelI.le {R:List RowP} {N:List NeedP} {seen:List Txt} {lv:List (List Txt)} {f:Nat} (h:FuelI R N seen lv f):seen.length≤(allN R N).length:=Go.Vc.nodup_len h.nodup h.sub
theorem FuelI.pos {R:List RowP} {N:List NeedP} {seen:List Txt} {x:List Txt} {lv:List (List Txt)} {f:Nat} (h:FuelI R N seen (x::lv) f): ∃ g,f=g+1∧(allN R N).length≤seen.length+g:=by
 have h1:=h.le
 rcases h.fuel with e|e
 ·cases e
 ·exact⟨f-1,by omega,by omega⟩
structure LevI (R:List RowP) (N:List NeedP) (m:Nat) (seen:List Txt) (deep:List (List Txt)):Prop where
 nodup:seen.Nodup
 sub: ∀ k∈seen,k∈allN R N
 le:m≤seen.length
 deep:deep=[]∨m+1≤seen.length
theorem LevI.new {R:List RowP} {N:List NeedP} {P:List PinP} {m:Nat} {seen:List Txt} {deep:List (List Txt)} (h:LevI R N m seen deep) {path:List Txt} {k:Txt} (hk:k∈nextN R N P path) (hs:k∉seen):LevI R N m (seen++[k]) (deep++[path++[k]]):=by
 have h1:=h.le
 refine⟨?_,fun j hj=> ?_,by rw[List.length_append];omega,.inr (by rw[List.length_append];simp;omega)⟩
 ·rw[List.nodup_append]
  refine⟨h.nodup,by simp,fun x hx y hy e=> ?_⟩
  rw[List.mem_singleton]at hy;subst hy;subst e;exact hs hx
 ·rcases List.mem_append.1 hj with hj|hj
  ·exact h.sub j hj
  ·rw[List.mem_singleton]at hj;subst hj;exact nextN_sub hk
theorem LevI.end {R:List RowP} {N:List NeedP} {m:Nat} {seen:List Txt} {deep:List (List Txt)} (h:LevI R N m seen deep) {f:Nat} (hf:(allN R N).length≤m+f):FuelI R N seen deep f:=by
 refine⟨h.nodup,h.sub,?_⟩
 rcases h.deep with e|e
 ·exact .inl e
 ·exact .inr (by omega)
theorem FuelI.lev {R:List RowP} {N:List NeedP} {seen:List Txt} {lv:List (List Txt)} {f:Nat} (h:FuelI R N seen lv f):LevI R N seen.length seen []:=⟨h.nodup,h.sub,Nat.le_refl _,.inl rfl⟩
theorem fuel_start (R:List RowP) (N:List NeedP):FuelI R N [] [[]] ((allN R N).length+2):=⟨List.nodup_nil,fun k hk=>(by cases hk),.inr (by simp)⟩
def kwL:List RowI:=[⟨0,0,[1],0,0⟩,⟨1,1,[2],0,0⟩,⟨2,0,[],0,0⟩]
def kwR (s1 s2 s3:Txt×Int):List RowP:=[⟨[97],⟨1,0,0,[]⟩,s1.1,s1.2,[needI 1]⟩,⟨[98],⟨1,1,0,[]⟩,s2.1,s2.2,[needI 2]⟩,⟨[99],⟨1,0,0,[]⟩,s3.1,s3.2,[]⟩]
def kwP (s1 s2 s3:Txt×Int):List PinP:=[⟨[97],⟨1,0,0,[]⟩,s1.1⟩,⟨[98],⟨1,1,0,[]⟩,s2.1⟩,⟨[99],⟨1,0,0,[]⟩,s3.1⟩]
theorem kw_made (S:List (Txt×Int)) (h:S.length=3): ∃ s1 s2 s3,madeF (kwL.zip S)=kwR s1 s2 s3:=by
 match S,h with
 |[a,b,c],_=>exact⟨a,b,c,by kernel_rfl⟩
theorem kw_best (s1 s2 s3:Txt×Int):Solves (kwR s1 s2 s3) (needsM [0]) (some (kwP s1 s2 s3)):=by
 have h1:apartB (kwR s1 s2 s3)=true:=by kernel_rfl
 have h2:goodB (kwR s1 s2 s3) (needsM [0]) [0,1,2] []=true:=by kernel_rfl
 have h3:topB (kwR s1 s2 s3) (needsM [0]) [0,1,2]=true:=by kernel_rfl
 have h:=best_look h1 h2 h3
 have e:pinsOf (kwR s1 s2 s3) (namesF (kwR s1 s2 s3)) (choS (stackOf (kwR s1 s2 s3) [0,1,2]))=kwP s1 s2 s3:=by kernel_rfl
 rw[e]at h
 exact h
theorem kw_path (s1 s2 s3:Txt×Int):pathF (kwR s1 s2 s3) (needsM [0]) (kwP s1 s2 s3) [99]=[[97],[98],[99]]:=by kernel_rfl
theorem kw_users1 (s1 s2 s3:Txt×Int):usersF (kwR s1 s2 s3) (needsM [0]) (kwP s1 s2 s3) [97]=[[]]:=by kernel_rfl
theorem kw_users2 (s1 s2 s3:Txt×Int):usersF (kwR s1 s2 s3) (needsM [0]) (kwP s1 s2 s3) [99]=[[98]]:=by kernel_rfl
theorem kw_none (s1 s2 s3:Txt×Int) (N:List NeedP) (h:needI 5∈N):Solves (kwR s1 s2 s3) N none:=
 none_look (n:=needI 5) (l:=[]) (by kernel_rfl) h (by kernel_rfl)
theorem kw_core (s1 s2 s3:Txt×Int) {fails:List NeedP→Bool} (hf: ∀ M,fails M=true↔NoFits (kwR s1 s2 s3) M):coreF fails (needsM [0,5])=[[102]]:=by
 have e:needsM [0,5]=[needI 0,needI 5]:=by kernel_rfl
 have f1: ∀ N,needI 5∈N→fails N=true:=fun N h=>(hf N).2 fun P hP=>kw_none s1 s2 s3 N h P hP
 have f0:fails []=false:=by
  cases h:fails []with
  |false=>rfl
  |true=>exact absurd (⟨List.Pairwise.nil,fun p hp=>(by cases hp),fun n hn=>(by cases hn),fun r _ hp=>(by cases hp),fun p hp=>(by cases hp)⟩:FitP (kwR s1 s2 s3) [] []) ((hf []).1 h [])
 rw[e]
 unfold coreF
 rw[if_pos (f1 _ (by simp)),coreL,if_pos (f1 _ (by simp)),coreL,if_neg (by rw[List.nil_append,f0];simp),coreL]
 rfl
def SortN (N:List NeedP):Prop:=N.Pairwise fun a b=>Op.bytesLess a.name b.name=true
theorem leT_nil (a:Txt):LeT [] a:=by
 unfold LeT
 cases a<;>rfl
theorem users_sorted {R:List RowP} {N:List NeedP} {P:List PinP} (hs:SortP P) (name:Txt):(usersF R N P name).Pairwise LeT:=by
 unfold usersF
 rw[List.pairwise_append]
 refine⟨by split<;>simp,?_,fun a ha b _=> ?_⟩
 ·rw[List.pairwise_map]
  exact(List.Pairwise.filter _ hs).imp fun h=>lt_as h
 ·split at ha
  ·rw[List.mem_singleton]at ha;subst ha;exact leT_nil b
  ·cases ha
theorem insN_sort: ∀ {l:List NeedP} {n:NeedP},SortN l→SortN (insN l n)
 |[],n,_=>List.pairwise_singleton _ _
 |x::l,n,h=>by
  unfold SortN at h
  rw[List.pairwise_cons]at h
  unfold insN
  by_cases h1:Op.bytesLess x.name n.name=true
  ·rw[if_pos h1]
   refine List.Pairwise.cons (fun y hy=> ?_) (insN_sort h.2)
   rcases insN_mem hy with hy|rfl
   ·exact h.1 y hy
   ·exact h1
  ·rw[if_neg h1]
   by_cases h2:x.name=n.name
   ·rw[if_pos h2]
    exact List.Pairwise.cons h.1 h.2
   ·rw[if_neg h2]
    have h3:Op.bytesLess n.name x.name=true:=lt_tri (by simpa using h1) h2
    refine List.Pairwise.cons (fun y hy=> ?_) (List.Pairwise.cons h.1 h.2)
    rcases List.mem_cons.1 hy with rfl|hy
    ·exact h3
    ·exact lt_trans h3 (h.1 y hy)
theorem needsM_sort (L:List Nat):SortN (needsM L):=by
 have key: ∀ (L:List Nat) (l:List NeedP),SortN l→SortN (L.foldl (fun l j=>insN l (needI j)) l):=by
  intro L
  induction L with
  |nil=>intro l h;exact h
  |cons j L ih=>intro l h;exact ih _ (insN_sort h)
 exact key L [] List.Pairwise.nil
theorem sortN_names {N:List NeedP} (h:SortN N):namesN N=N.map (·.name):=
 (namesN_one (List.Perm.refl _) (by rw[List.pairwise_map];exact h.imp fun h=>lt_as h)).symm
theorem sortN_sub {N M:List NeedP} (h:SortN N) (k:M.Sublist N):SortN M:=List.Pairwise.sublist k h
theorem sortN_at {N:List NeedP} (h:SortN N) {i j:Nat} {a b:NeedP} (hi:N[i]? =some a) (hj:N[j]? =some b) (hij:i<j):Op.bytesLess a.name b.name=true:=by
 obtain⟨gi,rfl⟩:=List.getElem?_eq_some_iff.1 hi
 obtain⟨gj,rfl⟩:=List.getElem?_eq_some_iff.1 hj
 exact List.pairwise_iff_getElem.1 h i j gi gj hij
theorem sortN_ne {N:List NeedP} (h:SortN N) {i j:Nat} {a b:NeedP} (hi:N[i]? =some a) (hj:N[j]? =some b) (hij:i≠j):a.name≠b.name:=by
 intro e
 rcases Nat.lt_or_gt_of_ne hij with g|g
 ·have:=sortN_at h hi hj g
  rw[e,lt_irrefl]at this;cases this
 ·have:=sortN_at h hj hi g
  rw[e,lt_irrefl]at this;cases this
structure CoreI (fails:List NeedP→Bool) (N:List NeedP) (C:List NeedP) (i:Nat) (left:List NeedP):Prop where
 out: ∃ kept,kept.Sublist (N.take i)∧left=kept++N.drop i∧coreL fails kept (N.drop i)=C
theorem CoreI.start {fails:List NeedP→Bool} {N:List NeedP}:CoreI fails N (coreL fails [] N) 0 N:=⟨[],by simp,by simp,by simp⟩
theorem CoreI.sub {fails:List NeedP→Bool} {N C:List NeedP} {i:Nat} {left:List NeedP} (h:CoreI fails N C i left):left.Sublist N:=by
 obtain⟨kept,h1,rfl,_⟩:=h.out
 have:=h1.append (List.Sublist.refl (N.drop i))
 rwa[List.take_append_drop]at this
theorem CoreI.at {fails:List NeedP→Bool} {N C:List NeedP} (hN:SortN N) {i:Nat} {left:List NeedP} (h:CoreI fails N C i left) {n:NeedP} (hn:N[i]? =some n):
  ∃ j,left[j]? =some n∧(∀ k x,left[k]? =some x→k≠j→x.name≠n.name)∧(fails (left.eraseIdx j)=true→CoreI fails N C (i+1) (left.eraseIdx j))∧(fails (left.eraseIdx j)=false→CoreI fails N C (i+1) left):=by
 have hsub:=sortN_sub hN h.sub
 obtain⟨kept,h1,rfl,h3⟩:=h.out
 obtain⟨g1,g2⟩:=List.getElem?_eq_some_iff.1 hn
 have hd:N.drop i=n::N.drop (i+1):=by rw[List.drop_eq_getElem_cons g1,g2]
 rw[hd]at h3 hsub ⊢
 have hj:(kept++n::N.drop (i+1))[kept.length]? =some n:=by rw[List.getElem?_append_right (Nat.le_refl _),Nat.sub_self];rfl
 have he:(kept++n::N.drop (i+1)).eraseIdx kept.length=kept++N.drop (i+1):=by
  rw[List.eraseIdx_append_of_length_le (Nat.le_refl _),Nat.sub_self];rfl
 refine⟨kept.length,hj,fun k x hk hne e=>sortN_ne hsub hk hj hne e,fun hf=> ?_,fun hf=> ?_⟩
 ·rw[he]at hf ⊢
  rw[coreL,if_pos hf]at h3
  refine⟨kept,h1.trans ?_,rfl,h3⟩
  rw[List.take_add_one];exact List.sublist_append_left _ _
 ·rw[he]at hf
  rw[coreL,if_neg (by rw[hf];simp)]at h3
  refine⟨kept++[n],?_,by simp,h3⟩
  rw[List.take_add_one,hn]
  exact h1.append (List.Sublist.refl _)
theorem CoreI.end {fails:List NeedP→Bool} {N C:List NeedP} {i:Nat} {left:List NeedP} (h:CoreI fails N C i left) (hi:N.length≤i):left=C:=by
 obtain⟨kept,h1,rfl,h3⟩:=h.out
 rw[List.drop_of_length_le hi]at h3 ⊢
 rw[coreL]at h3
 rw[List.append_nil];exact h3
theorem coreL_sub {fails:List NeedP→Bool}: ∀ (l kept:List NeedP),(coreL fails kept l).Sublist (kept++l)
 |[],kept=>by unfold coreL;simp
 |n::l,kept=>by
  unfold coreL
  split
  ·exact(coreL_sub l kept).trans ((List.Sublist.refl kept).append (List.sublist_cons_self n l))
  ·have:=coreL_sub (fails:=fails) l (kept++[n])
   rwa[List.append_assoc]at this
theorem fails_ex (R:List RowP): ∃ fails:List NeedP→Bool,∀ M,fails M=true↔NoFits R M:=by
 classical
 exact⟨fun M=>decide (NoFits R M),fun M=>decide_eq_true_iff⟩
theorem del_erase {l:List NeedP} {j:Nat} {n:NeedP} (hj:l[j]? =some n) (hno: ∀ k x,l[k]? =some x→k≠j→x.name≠n.name):l.findIdx? (fun x=>x.name==n.name)=some j:=by
 obtain⟨g1,g2⟩:=List.getElem?_eq_some_iff.1 hj
 refine List.findIdx?_eq_some_iff_getElem.2 ⟨g1,by rw[g2];simp,fun k hk=> ?_⟩
 have:=hno k l[k] (List.getElem?_eq_getElem (by omega)) (by omega)
 simp[this]
theorem needsP_len {R:List RowP} (h: ∀ r∈R,r.needs.length≤1000) (P:List PinP) (k:Txt):(needsP R P k).length≤1000:=by
 unfold needsP
 split
 ·simp
 ·split
  ·simp
  ·unfold needsR
   split
   ·rename_i r hr
    exact h r (List.mem_of_getElem? hr)
   ·simp
theorem nextN_len {R:List RowP} (h: ∀ r∈R,r.needs.length≤1000) {N:List NeedP} (hN:N.length≤1000) (P:List PinP) (path:List Txt):(nextN R N P path).length≤1000:=by
 unfold nextN
 rw[namesN_len]
 split
 ·exact hN
 ·exact needsP_len h P _
theorem allN_len {R:List RowP} (h: ∀ r∈R,r.needs.length≤1000) (hR:R.length≤200) {N:List NeedP} (hN:N.length≤1000):(allN R N).length≤201000:=by
 have key: ∀ l:List RowP,(∀ r∈l,r.needs.length≤1000)→(l.flatMap fun r=>r.needs.map (·.name)).length≤1000*l.length:=by
  intro l
  induction l with
  |nil=>intro _;simp
  |cons r l ih=>
   intro h
   have h1:=h r List.mem_cons_self
   have h2:=ih fun q hq=>h q (List.mem_cons_of_mem _ hq)
   rw[List.flatMap_cons,List.length_append,List.length_map,List.length_cons]
   omega
 have:=key R h
 unfold allN
 rw[List.length_append,List.length_map]
 omega
end Go.Why
namespace Go.Vc
theorem LstV.imp {α:Type} {E E':Heap→α→List Value→Prop} {H H':Heap} (hE: ∀ x c,E H x c→E' H' x c) {l:List α} {vs:List Value} (h:LstV E H l vs):LstV E' H' l vs:=by
 induction h with
 |nil=>exact .nil
 |cons h _ ih=>exact .cons (hE _ _ h) ih
end Go.Vc
namespace Go.Proofs.YtjdieklgoepdjaaGreatDoor
open Go Go.Vc Go.Scr Go.Slv
def wayT (H:Heap) (l:List Bs) (c:List Value):Prop:=∃ a cap,c=[.slice a l.length cap]∧l.length≤cap∧RowT 9 H a (strs l)
theorem wayT_ok:EncT wayT 1 (fun t=>t=9):=⟨fun⟨_,_,e,_⟩=>by rw[e];rfl,fun⟨_,_,e,_⟩ u hu=>by
 rw[e]at hu
 simp at hu
 subst hu;rfl,fun k hF ⟨a,cap,e,h,r⟩=>⟨a,cap,e,h,r.keep k hF⟩⟩
def wayX (x:Option Addr) (H:Heap) (l:List Bs) (c:List Value):Prop:=∃ a cap,c=[.slice a l.length cap]∧l.length≤cap∧RowT 9 H a (strs l)∧ ∀ p,a=some p→p.block<H.size∧ ∀ q,x=some q→p.block≠q.block
theorem wayX_ok (x:Option Addr):EncT (wayX x) 1 (fun t=>t=9):=⟨fun⟨_,_,e,_⟩=>by rw[e];rfl,fun⟨_,_,e,_⟩ u hu=>by
 rw[e]at hu
 simp at hu
 subst hu;rfl,fun k hF ⟨a,cap,e,h,r,hx⟩=>⟨a,cap,e,h,r.keep k hF,fun p hp=>⟨Nat.lt_of_lt_of_le (hx p hp).1 k.size,(hx p hp).2⟩⟩⟩
theorem wayX_step {x x':Option Addr} {H H':Heap} (k:Wr x H H') (hf: ∀ q,x'=some q→x'=x∨H.size≤q.block) {l:List Bs} {c:List Value} (h:wayX x H l c):wayX x' H' l c:=by
 obtain⟨a,cap,e,hl,hr,hx⟩:=h
 refine⟨a,cap,e,hl,⟨hr.row.keep k fun p hp ⟨q,hq,e⟩=>(hx p hp).2 q hq e.symm,fun h0 p hp=> ?_⟩,fun p hp=>⟨Nat.lt_of_lt_of_le (hx p hp).1 k.size,fun q hq=> ?_⟩⟩
 ·obtain⟨c,hc⟩:=hr.typ h0 p hp
  exact⟨c,hc.keep k fun⟨q,hq,e⟩=>(hx p hp).2 q hq e.symm⟩
 ·rcases hf q hq with e1|e1
  ·exact(hx p hp).2 q (by rw[←e1];exact hq)
  ·have:=(hx p hp).1;omega
theorem ways_off {x:Option Addr} {H:Heap} (hT: ∀ q,x=some q→ ∃ c,Blk H q.block c 9) {b:Nat} {c:Array Value} (hB:Blk H b c 37): ¬ ∃ q,x=some q∧q.block=b:=by
 rintro⟨q,hq,rfl⟩
 obtain⟨c',hc'⟩:=hT q hq
 have:=hB.typ hc'
 revert this;decide
theorem RowL.stepX {x x':Option Addr} {H H':Heap} (k:Wr x H H') (hf: ∀ q,x'=some q→x'=x∨H.size≤q.block) (hT: ∀ q,x=some q→ ∃ c,Blk H q.block c 9) {a:Option Addr} {l:List (List Bs)} (h:RowL (wayX x) 37 H a l):RowL (wayX x') 37 H' a l:=by
 obtain⟨vs,h1,h2⟩:=h.out
 exact⟨vs,h1.keep k fun b c u hb hB e=>by subst e;exact ways_off hT hB hb,h2.imp fun y c hy=>wayX_step k hf hy⟩
theorem OwnE.stepX {x x':Option Addr} {H H':Heap} (k:Wr x H H') (hf: ∀ q,x'=some q→x'=x∨H.size≤q.block) (hT: ∀ q,x=some q→ ∃ c,Blk H q.block c 9) {base:Nat} {a:Option Addr} {l:List (List Bs)} {cap:Nat} (h:OwnE (wayX x) 1 H base 37 a l cap):OwnE (wayX x') 1 H' base 37 a l cap:=by
 have ht:=h.typ
 obtain⟨vs,h1,h2⟩:=h.out
 refine⟨vs,h1.keep k fun p hp hb=> ?_,h2.imp fun y c hy=>wayX_step k hf hy⟩
 obtain⟨c,hc⟩:=ht p hp
 exact ways_off hT hc hb
end Go.Proofs.YtjdieklgoepdjaaGreatDoor
namespace Go.Vc
theorem RowL.off {α:Type} {E:Heap→α→List Value→Prop} {s:Nat} {Ts:TypeId→Prop} (ok:EncT E s Ts) {t:TypeId} {F:Nat→Prop} {H H':Heap} {a:Option Addr} {l:List α} (h:RowL E t H a l) (k:Only F H H') (ha: ∀ p,a=some p→ ¬F p.block) (hF: ∀ b c u,F b→Blk H b c u→ ¬Ts u):RowL E t H' a l:=by
 obtain⟨vs,h1,h2⟩:=h.out
 exact⟨vs,⟨h1.row.keep k ha,fun h0 p hp=>(h1.typ h0 p hp).imp fun c hc=>hc.keep k (ha p hp)⟩,h2.keep ok k hF⟩
end Go.Vc
namespace Go.Proofs.YtjdieklgoepdjaaGreatDoor
open Go Go.Vc Go.Scr Go.Slv
open Go.Why (pathF nextN needsP namesN allN bfs goL goN endR contL LevI FuelI)
structure RpS where
 lv:List (List Txt)
 a:Option Addr
 cap:Nat
 seen:List Txt
 sa:Option Addr
 sc:Nat
 f:Nat
structure RbS where
 i:Nat
 deep:List (List Txt)
 a:Option Addr
 cap:Nat
 seen:List Txt
 sa:Option Addr
 sc:Nat
def Askd (P:List PinP) (w:List Txt):Prop:=∀ k,w.getLast? =some k→k≠ []∧ ∃ p,findP P k=some p
set_option maxHeartbeats 8000000 in
theorem rpath_any (R:List RowP) (ha:Apart R) (hRB:RowsB R) (hRl:R.length≤200) (N:List NeedP) (P:List PinP) (hrow: ∀ p∈P,∃ r∈R,pinR r=p) (hask: ∀ path k,k∈nextN R N P path→k≠ []∧ ∃ p,findP P k=some p) (name:Bs) (ra na qa:Option Addr) (rn rc nn nc qn qc:Nat) (H:Heap) (hR:RowE rowE H ra R) (hN:RowE needE H na N) (hP:RowE pinE H qa P) (hrn:R.length=rn) (hnn:N.length=nn) (hnl:nn≤1000) (hnc:nn≤nc) (hqn:P.length=qn) (hql:qn≤900):
  CallH Tryz.prog 25 [.slice ra rn rc,.slice na nn nc,.slice qa qn qc,.string (mkS name)] H fun x H'=>(∃ a c,x= .slice a (pathF R N P name).length c∧(pathF R N P name).length≤c∧Row H' a (strs (pathF R N P name)))∧Ext H H':=by
 have hF0:pathF R N P name=if P.any (fun p=>p.name==name)then bfs R N P name ((allN R N).length+2) [[]] []else []:=rfl
 have hff:(findP P name).isSome=P.any (fun p=>p.name==name):=by unfold findP;rw[Bool.eq_iff_iff,List.find?_isSome,List.any_eq_true]
 obtain⟨F,hF⟩: ∃ F,pathF R N P name=F:=⟨_,rfl⟩
 rw[hF]at hF0 ⊢
 have hall:=Go.Why.allN_len hRB.needs hRl (N:=N) (by omega)
 have hpn:=fun H' (k:Ext H H')=>rpin_any P name qa qn qc H H' k hP hqn (by omega)
 obtain⟨I,hI⟩: ∃ I,findP P name=I:=⟨_,rfl⟩
 rw[hI]at hpn hff
 refine Vc.CallH.body Tryz.func25 Tryz.call25 rfl (by decide+kernel) rfl ?_
 cases I with
 |none=>
  rw[←hff]at hF0
  have hF0:F=[]:=hF0
  rw[hF0]
  ((conv=>whnf);repeat(any_goals((first|(refine(hpn _ (by exact Vc.xt)).mono ?_;rintro _ H1 ⟨rfl,hx1⟩;have hz1:=hx1.size)|((with_reducible refine Vc.DrawH.held [0,1,2,3,4,5,6,7,8,9,10,11,12,13,14,15,16,17,18,19,20,21] [(19,[3,7,12])] mixed (by decide+kernel) ?_))|refine Vc.stp ?_)<;>(intros;(conv=>whnf)))))
  rename_i H2 z2 b2 x2 H3 z3 b3 k3
  exact⟨⟨none,0,rfl,Nat.le_refl _,Row.nil _ _⟩,(hx1.trans x2).but k3 (by omega)⟩
 |some p0=>
  rw[←hff]at hF0
  have hF0:F=bfs R N P name ((allN R N).length+2) [[]] []:=hF0
  ((conv=>whnf);repeat(any_goals((first|(refine(hpn _ (by exact Vc.xt)).mono ?_;rintro _ H1 ⟨⟨cp,rfl,hcp⟩,hx1⟩;have hz1:=hx1.size)|(rename_i Hq zq bq xq;refine DoH.store_list bq rfl (by rw[pin_ok.len hcp];rfl) (by rw[pin_ok.len hcp];rfl) (pin_ok.plain hcp) ?_;intro H3 z3 b3 k3)|((with_reducible apply SemH.lit (vs:=[.slice none 0 0]));rfl;rfl;rfl;rfl;rfl;rfl;rfl;(intro H7 z7 b7 x7;(conv=>whnf)))|((with_reducible refine Vc.DrawH.held [0,1,2,3,4,5,6,7,8,9,10,11,12,13,14,15,16,17,18,19,20,21] [(19,[3,7,12])] mixed (by decide+kernel) ?_))|refine Vc.stp ?_)<;>(intros;(conv=>whnf)))))
  have x37:=(hx1.trans xq).but k3 (Nat.le_refl H1.size |> fun _=>by omega)
  have hx7:=And.intro trivial (x37.trans x7)
  have hz7:=hx7.2.size
  have hlv7:RowL (wayX none) 37 H7 (some ⟨H3.size,0,none⟩) [[]]:=⟨[.slice none 0 0],⟨Blk.row b7,fun _ p hp=>by cases hp;exact⟨_,b7⟩⟩,LstV.one ⟨none,0,rfl,Nat.le_refl _,RowT.nil _ _ _,fun p hp=>(by cases hp)⟩⟩
  clear b7 x7 x37 k3 b3 xq bq hx1
  refine LoopH.intro (fun(x:RpS)=>[(11,.slice x.a x.lv.length x.cap),(12,.slice x.sa x.seen.length x.sc)]) (fun x H'=>And True (Ext H H')∧RowL (wayX x.sa) 37 H' x.a x.lv∧x.lv.length≤x.cap∧OwnE strE 1 H' H.size 9 x.sa x.seen x.sc∧FuelI R N x.seen x.lv x.f∧bfs R N P name x.f x.lv x.seen=F∧x.lv.length≤x.seen.length+1∧ ∀ w∈x.lv,w.length≤x.seen.length∧Askd P w) (fun x=>x.f) ⟨[[]],some ⟨H3.size,0,none⟩,1,[],none,0,(allN R N).length+2⟩ ⟨rfl,rfl,trivial⟩ ⟨hx7,hlv7,Nat.le_refl _,OwnE.nil _ _ _ _ _,Go.Why.fuel_start R N,hF0.symm,Nat.le_refl _,fun w hw=>by rw[List.mem_singleton]at hw;subst hw;exact⟨Nat.le_refl _,fun k h=>by cases h⟩⟩ ?_
  clear hlv7 hx7
  rintro⟨lv,la,lc,seen,sa,sc,f⟩ H8 ⟨hx8,hlv,hlc,hs8,hfu,hbf,hll8,hw8⟩
  dsimp only at hlv hlc hs8 hfu hbf hll8 hw8 ⊢
  have hz8:=hx8.2.size
  rcases lv with _|⟨x0,l0⟩
  ·have hFn:F=[]:=by rw[←hbf,Go.Why.bfs_nil]
   have hl0:([]:List (List Txt)).length=0:=rfl
   rw[hFn,hl0]
   ((conv=>whnf);repeat(any_goals((first|((with_reducible refine Vc.DrawH.held [0,1,2,3,4,5,6,7,8,9,10,11,12,13,14,15,16,17,18,19,20,21] [(19,[3,7,12])] mixed (by decide+kernel) ?_))|refine Vc.stp ?_)<;>(intros;(conv=>whnf)))))
   exact⟨⟨none,0,rfl,Nat.le_refl _,Row.nil _ _⟩,hx8.2⟩
  ·obtain⟨g,rfl,hfg⟩:=hfu.pos
   rw[Go.Why.bfs_cons]at hbf
   have hpos:0<(x0::l0).length:=by simp
   have hlev0:=hfu.lev
   clear hfu
   obtain⟨lv,hlve⟩: ∃ lv,x0::l0=lv:=⟨_,rfl⟩
   rw[hlve]at hlv hlc hw8 hbf hpos hll8 ⊢
   have hlow: ∀ p,la=some p→p.block<H8.size:=fun p hp=>by
    obtain⟨vs,h1,h2⟩:=hlv.out
    have hvl:=h2.len (wayX_ok sa).ok
    obtain⟨c,hc⟩:=h1.typ (fun e=>by rw[e]at hvl;simp at hvl;omega) p hp
    exact hc.lt
   clear hlve
   obtain⟨G,hG⟩: ∃ G,goL R N P name lv seen []=G:=⟨_,rfl⟩
   rw[hG]at hbf
   have hle0:=hlev0.le
   have hsl0:=nodup_len hlev0.nodup hlev0.sub
   ((conv=>whnf);repeat(any_goals((first|((with_reducible refine Vc.DrawH.held [0,1,2,3,4,5,6,7,8,9,10,11,12,13,14,15,16,17,18,19,20,21] [(19,[3,7,12])] mixed (by decide+kernel) ?_))|refine Vc.stp ?_)<;>(intros;(conv=>whnf)))))
   refine LoopH.intro (fun(x:RbS)=>[(14,.int .i64 x.i),(13,.slice x.a x.deep.length x.cap),(12,.slice x.sa x.seen.length x.sc)]) (fun x H'=>x.i≤lv.length∧And True (Ext H H')∧H8.size≤H'.size∧RowL (wayX x.sa) 37 H' la lv∧OwnE (wayX x.sa) 1 H' H8.size 37 x.a x.deep x.cap∧OwnE strE 1 H' H.size 9 x.sa x.seen x.sc∧LevI R N seen.length x.seen x.deep∧goL R N P name (lv.drop x.i) x.seen x.deep=G∧x.deep.length≤x.seen.length∧ ∀ w∈x.deep,w.length≤x.seen.length∧Askd P w) (fun x=>lv.length-x.i) ⟨0,[],none,0,seen,sa,sc⟩ ⟨rfl,rfl,rfl,trivial⟩ ⟨Nat.zero_le _,hx8,Nat.le_refl _,hlv,OwnE.nil _ _ _ _ _,hs8,hlev0,hG,Nat.zero_le _,fun w hw=>by cases hw⟩ ?_
   clear hlev0 hG hlv hs8
   rintro⟨i,deep,da,dc,seen1,sa1,sc1⟩ H9 ⟨hi,hx9,hz9,hlv9,hd9,hs9,hlev,hgo,hdl9,hw9⟩
   dsimp only at hi hlv9 hd9 hs9 hlev hgo hdl9 hw9 ⊢
   by_cases hlt:i<lv.length
   ·obtain⟨path,hpath⟩: ∃ path,lv[i]? =some path:=⟨_,List.getElem?_eq_getElem hlt⟩
    have hL9:RowE (wayX sa1) H9 la lv:=hlv9.to fun _ _ h=>h
    obtain⟨bW,oW,cW,hcW,hclW,hixW⟩:=hL9.fix (wayX_ok sa1).ok (by decide) rfl hpath
    obtain⟨pa,pc,ec,hpc,hpr,hpo⟩:=(id hcW)
    have hc0:hcell H9 ⟨bW,oW,none⟩=some (Value.slice pa path.length pc):=(by have:=hclW 0 _ (by rw[ec];rfl);exact this)
    obtain⟨hpl1,hpk⟩:=hw8 path (List.mem_of_getElem? hpath)
    have hle:=hlev.le
    have hsl1:=nodup_len hlev.nodup hlev.sub
    obtain⟨ks,hks⟩: ∃ ks,nextN R N P path=ks:=⟨_,rfl⟩
    have hkl:=Go.Why.nextN_len hRB.needs (N:=N) (by omega) P path
    rw[Go.Why.goL_at hpath]at hgo
    have hnd:=fun k L hk=>rneedsof_any R ha hRB N P hrow k L hk ra na qa rn rc nn nc qn qc H9 (hR.ext row_ok hx9.2) (hN.ext need_ok hx9.2) (hP.ext pin_ok hx9.2) hrn hnn hqn (by omega) (by omega) hql hnc
    rw[hks]at hkl hgo
    have hask1:=hask path
    rw[hks]at hask1
    have hcase:path.length=0∨ ∃ m k,path.length=m+1∧path[m]? =some k:=by
     rcases hpn:path.length with _|m
     ·exact .inl rfl
     ·exact .inr ⟨m,_,rfl,List.getElem?_eq_getElem (by omega)⟩
    rcases hcase with h0|⟨m,kq,hm,hk⟩
    have hp0:path=[]:=List.eq_nil_of_length_eq_zero h0
    have hkn:namesN N=ks:=by rw[←hks,hp0];rfl
    have hcall:=hnd [] N (.inl ⟨rfl,rfl⟩)
    rw[hkn]at hcall
    ((conv=>whnf);repeat(any_goals((first|(refine hixW _ _ rfl ?_)|(show Go.Vc.CallH _ _ _ _ _;refine hcall.mono ?_;rintro _ H10 ⟨⟨ka,kc,rfl,hko⟩,hx10⟩;have hz10:=hx10.size)|((with_reducible refine Vc.DrawH.held [0,1,2,3,4,5,6,7,8,9,10,11,12,13,14,15,16,17,18,19,20,21] [(19,[3,7,12])] mixed (by decide+kernel) ?_))|refine Vc.stp ?_)<;>(intros;(conv=>whnf)))))
    rotate_left
    have hlast:path.getLast? =some kq:=by rw[List.getLast?_eq_getElem?,hm];exact hk
    have hkn:namesN (needsP R P kq)=ks:=by rw[←hks];unfold Go.Why.nextN;rw[hlast]
    obtain⟨hk0,hkp⟩:=hpk kq hlast
    have hcall:=hnd kq _ (.inr ⟨hk0,hkp,rfl⟩)
    rw[hkn]at hcall
    ((conv=>whnf);repeat(any_goals((first|(refine hixW _ _ rfl ?_)|(refine IdxA.strv hpr.row rfl m kq (by omega) hk ?_;intro _ _ _ _ _)|(show Go.Vc.CallH _ _ _ _ _;refine hcall.mono ?_;rintro _ H10 ⟨⟨ka,kc,rfl,hko⟩,hx10⟩;have hz10:=hx10.size)|((with_reducible refine Vc.DrawH.held [0,1,2,3,4,5,6,7,8,9,10,11,12,13,14,15,16,17,18,19,20,21] [(19,[3,7,12])] mixed (by decide+kernel) ?_))|refine Vc.stp ?_)<;>(intros;(conv=>whnf)))))
    all_goals
     have hksA:wayX sa1 H10 ks [.slice ka ks.length kc]:=⟨ka,kc,rfl,hko.cap_le,hko.rowT,fun p hp=>⟨(hko.block p hp).2,fun q hq=>by have:=(hs9.block q hq).2;have:=(hko.block p hp).1;omega⟩⟩
     have hxA:=And.intro trivial (hx9.2.trans hx10)
     have hlvA:=hlv9.ext (wayX_ok sa1) hx10
     have hdA:=hd9.ext (wayX_ok sa1).ok hx10
     have hsA:=hs9.ext str_ok.ok hx10
     clear hlv9 hd9 hs9 hcall hnd hixW hcW hclW hc0 hL9 hko hpr hpo
     refine LoopH.intro (fun(x:RbS)=>[(18,.int .i64 x.i),(13,.slice x.a x.deep.length x.cap),(12,.slice x.sa x.seen.length x.sc)]) (fun x H'=>x.i≤ks.length∧And True (Ext H H')∧H8.size≤H'.size∧wayX x.sa H' ks [.slice ka ks.length kc]∧RowL (wayX x.sa) 37 H' la lv∧OwnE (wayX x.sa) 1 H' H8.size 37 x.a x.deep x.cap∧OwnE strE 1 H' H.size 9 x.sa x.seen x.sc∧LevI R N seen.length x.seen x.deep∧contL R N P name (lv.drop (i+1)) (goN name path (ks.drop x.i) x.seen x.deep)=G∧x.deep.length≤x.seen.length∧(∀ w∈x.deep,w.length≤x.seen.length∧Askd P w)∧path.length≤x.seen.length) (fun x=>ks.length-x.i) ⟨0,deep,da,dc,seen1,sa1,sc1⟩ ⟨rfl,rfl,rfl,trivial⟩ ⟨Nat.zero_le _,hxA,by omega,hksA,hlvA,hdA,hsA,hlev,hgo,hdl9,hw9,by show path.length≤seen1.length;omega⟩ ?_
     clear hksA hlvA hdA hsA hlev hgo hw9
     rintro⟨j,dp,a2,c2,s2,sa2,sc2⟩ H11 ⟨hj,hx11,hz11,hks11,hlv11,hd11,hs11,hlev2,hgo2,hdl11,hw11,hps⟩
     dsimp only at hj hks11 hlv11 hd11 hs11 hlev2 hgo2 hdl11 hw11 hps ⊢
     by_cases hjlt:j<ks.length
     ·obtain⟨k,hk⟩: ∃ k,ks[j]? =some k:=⟨_,List.getElem?_eq_getElem hjlt⟩
      have hkm:k∈nextN R N P path:=by rw[hks];exact List.mem_of_getElem? hk
      have hkr11:RowT 9 H11 ka (strs ks):=by obtain⟨_,_,e,_,hr,_⟩:=hks11;cases e;exact hr
      have hsl2:=nodup_len hlev2.nodup hlev2.sub
      have hsc2:=hs11.cap_le
      rw[Go.Why.goN_at hk]at hgo2
      by_cases hsn:k∈s2
      ·rw[if_pos hsn]at hgo2
       ((conv=>whnf);repeat(any_goals((first|(refine IdxA.strv hkr11.row rfl j k rfl hk ?_;intro _ _ _ _ _)|(show Go.Vc.CallH _ _ _ _ _;refine(rin_any s2 k sa2 _ sc2 _ hs11.row.strs rfl (by omega)).mono ?_;rintro _ _ ⟨rfl,rfl⟩;rw[decide_eq_true hsn])|((with_reducible refine Vc.DrawH.held [0,1,2,3,4,5,6,7,8,9,10,11,12,13,14,15,16,17,18,19,20,21] [(19,[3,7,12])] mixed (by decide+kernel) ?_))|refine Vc.stp ?_)<;>(intros;(conv=>whnf)))))
       exact⟨⟨j+1,dp,a2,c2,s2,sa2,sc2⟩,⟨rfl,rfl,rfl,trivial⟩,⟨by show j+1≤ks.length;omega,hx11,hz11,hks11,hlv11,hd11,hs11,hlev2,hgo2,hdl11,hw11,hps⟩,by show ks.length-(j+1)<ks.length-j;omega⟩
      ·rw[if_neg hsn]at hgo2
       ((conv=>whnf);repeat(any_goals((first|(refine IdxA.strv hkr11.row rfl j k rfl hk ?_;intro _ _ _ _ _)|(show Go.Vc.CallH _ _ _ _ _;refine(rin_any s2 k sa2 _ sc2 _ hs11.row.strs rfl (by omega)).mono ?_;rintro _ _ ⟨rfl,rfl⟩;rw[decide_eq_false hsn])|((with_reducible refine Vc.DrawH.held [0,1,2,3,4,5,6,7,8,9,10,11,12,13,14,15,16,17,18,19,20,21] [(19,[3,7,12])] mixed (by decide+kernel) ?_))|refine Vc.stp ?_)<;>(intros;(conv=>whnf)))))
       rename_i Hm zm bm xm
       have hsm:=hs11.ext str_ok.ok xm
       have hTm:=hsm.typ
       refine NextH.appE (ws:=[.string (mkS k)]) (l2:=[k]) str_ok rfl ⟨_,rfl,fun _ h=>by cases h⟩ rfl rfl rfl rfl (by decide) id hsm rfl (Blk.row bm) (LstV.one rfl) rfl (by omega) (by have:=hx11.2.size;omega) ?_
       intro sa3 sc3 H13 hs13 hw13 hf13
       have hlv13:=RowL.stepX hw13 hf13 hTm (hlv11.ext (wayX_ok sa2) xm)
       have hd13:=OwnE.stepX hw13 hf13 hTm (hd11.ext (wayX_ok sa2).ok xm)
       have hks13:=wayX_step hw13 hf13 ((wayX_ok sa2).ok.ext xm hks11)
       have hx13:=And.intro trivial (ext_wr2 (n:=Hm.size) (hx11.2.trans xm) (fun p hp=>hsm.block p hp) hw13)
       have hz13:=hw13.size
       have hzm:=xm.size
       have hkr13:RowT 9 H13 ka (strs ks):=by obtain⟨_,_,e,_,hr,_⟩:=hks13;cases e;exact hr
       have hL13:RowE (wayX sa3) H13 la lv:=hlv13.to fun _ _ h=>h
       obtain⟨bY,oY,cY,hcY,hclY,hixY⟩:=hL13.fix (wayX_ok sa3).ok (by decide) rfl hpath
       obtain⟨ya,yc,ey,hyc,hyr,hyo⟩:=(id hcY)
       have hy0:hcell H13 ⟨bY,oY,none⟩=some (Value.slice ya path.length yc):=(by have:=hclY 0 _ (by rw[ey];rfl);exact this)
       clear hlv11 hd11 hks11 hs11 hkr11 hsm bm xm hTm
       ((conv=>whnf);repeat(any_goals((first|(refine hixY _ _ rfl ?_)|(refine IdxA.strv hkr13.row rfl j k rfl hk ?_;intro _ _ _ _ _)|(refine BndH.nat path.length rfl (by omega) ?_)|((with_reducible refine Vc.DrawH.held [0,1,2,3,4,5,6,7,8,9,10,11,12,13,14,15,16,17,18,19,20,21] [(19,[3,7,12])] mixed (by decide+kernel) ?_))|refine Vc.stp ?_)<;>(intros;(conv=>whnf)))))
       rename_i Hq zq bq xq
       have e1:((mkS k).toList==(mkS name).toList)=decide (k=name):=by rw[str_mk]
       have hwl:(path++[k]).length=path.length+1:=by simp
       refine NextH.fullE str_ok.ok rfl ⟨_,rfl,fun _ h=>by cases h⟩ rfl rfl rfl rfl (by decide) ((hyr.ext xq).row.strE) rfl (Blk.row bq) (LstV.one rfl) rfl (by decide) (by omega) ?_
       intro pc5 H15 ho15 hx15
       have hz15:=hx15.size
       have hzq:=xq.size
       have hwr:RowT 9 H15 (some ⟨Hq.size,0,none⟩) (strs (path++[k])):=by
        obtain⟨vs,h1,h2⟩:=ho15.out
        rw[h2.strs_eq]at h1;exact h1.rowT
       have hwc:=ho15.cap_le
       rw[hwl]at hwc
       have hx1315:=And.intro trivial (xq.trans hx15)
       have hx15':=And.intro trivial (hx13.2.trans (xq.trans hx15))
       by_cases hkn:k=name
       ·rw[if_pos hkn]at hgo2
        have hFe:path++[k]=F:=by rw[←hbf,←hgo2];rfl
        rw[decide_eq_true hkn]at e1
        have hkr15:=hkr13.ext hx1315.2
        rw[←hFe,hwl]
        ((conv=>whnf);repeat(any_goals((first|(refine IdxA.strv hkr15.row rfl j k rfl hk ?_;intro _ _ _ _ _)|((with_reducible refine Vc.DrawH.held [0,1,2,3,4,5,6,7,8,9,10,11,12,13,14,15,16,17,18,19,20,21] [(19,[3,7,12])] mixed (by decide+kernel) ?_))|refine Vc.stp ?_)<;>(intros;(conv=>whnf)))))
        exact⟨⟨_,pc5,rfl,hwc,hwr.row⟩,hx15'.2⟩
       ·rw[if_neg hkn]at hgo2
        rw[decide_eq_false hkn]at e1
        have hlev3:=hlev2.new hkm hsn
        have hkr15:=hkr13.ext hx1315.2
        have hs15:=hs13.ext str_ok.ok hx1315.2
        have hlv15:=hlv13.ext (wayX_ok sa3) hx1315.2
        have hd15:=hd13.ext (wayX_ok sa3).ok hx1315.2
        have hks15:=(wayX_ok sa3).ok.ext hx1315.2 hks13
        have hoffq: ∀ p,(some ⟨Hq.size,0,none⟩:Option Addr)=some p→p.block<H15.size∧ ∀ q,sa3=some q→p.block≠q.block:=fun p hp=>by
         cases hp
         refine⟨(ho15.block _ rfl).2,fun q hq=> ?_⟩
         have:=(hs13.block q hq).2
         show Hq.size≠q.block
         omega
        clear hs13 hlv13 hd13 hks13 hkr13
        ((conv=>whnf);repeat(any_goals((first|(refine IdxA.strv hkr15.row rfl j k rfl hk ?_;intro _ _ _ _ _)|((with_reducible refine Vc.DrawH.held [0,1,2,3,4,5,6,7,8,9,10,11,12,13,14,15,16,17,18,19,20,21] [(19,[3,7,12])] mixed (by decide+kernel) ?_))|refine Vc.stp ?_)<;>(intros;(conv=>whnf)))))
        rename_i Hr zr br xr
        have hdr:=hd15.ext (wayX_ok sa3).ok xr
        have hcapd:=hdr.cap_le
        have hzr:=xr.size
        refine NextH.appE (ws:=[.slice (some ⟨Hq.size,0,none⟩) (path.length+1) pc5]) (l2:=[path++[k]]) (wayX_ok sa3) rfl ⟨_,rfl,fun _ h=>by cases h⟩ rfl rfl rfl rfl (by decide) (by decide) hdr rfl (Blk.row br) (LstV.one ⟨_,pc5,by rw[hwl],by rw[hwl];exact hwc,hwr.ext xr,fun p hp=>⟨Nat.lt_of_lt_of_le (hoffq p hp).1 hzr,(hoffq p hp).2⟩⟩) rfl (by omega) (by omega) ?_
        intro da3 dc3 H16 ho16 hw16 hf16
        have hoff: ∀ b c u,(∃ p,a2=some p∧p.block=b)→Blk Hr b c u→ ¬u=9:=fun b c u ⟨p,hp,e⟩ hB hu=>by
         obtain⟨c',hc'⟩:=hdr.typ p hp
         rw[e]at hc'
         have h9:=hB.typ hc'
         rw[hu]at h9;revert h9;decide
        have hx16:=And.intro trivial (ext_wr2 (n:=Hr.size) (hx15'.2.trans xr) (fun p hp=>⟨by have:=(hdr.block p hp).1;omega,(hdr.block p hp).2⟩) hw16)
        have hz16:=hw16.size
        have hs16:=(hs15.ext str_ok.ok xr).keep str_ok hw16 (fun _ _ _ _ _ h=>h) fun q hq ⟨p,hp,e⟩=>by
         obtain⟨c',hc'⟩:=(hs15.ext str_ok.ok xr).typ q hq
         exact hoff _ _ _ ⟨p,hp,e⟩ hc' rfl
        have hlv16:=(hlv15.ext (wayX_ok sa3) xr).off (wayX_ok sa3) hw16 (fun q hq ⟨p,hp,e⟩=>by have:=hlow q hq;have:=(hdr.block p hp).1;omega) hoff
        have hks16:=(wayX_ok sa3).keep hw16 hoff ((wayX_ok sa3).ok.ext xr hks15)
        ((conv=>whnf);repeat(any_goals((first|((with_reducible refine Vc.DrawH.held [0,1,2,3,4,5,6,7,8,9,10,11,12,13,14,15,16,17,18,19,20,21] [(19,[3,7,12])] mixed (by decide+kernel) ?_))|refine Vc.stp ?_)<;>(intros;(conv=>whnf)))))
        exact⟨⟨j+1,dp++[path++[k]],da3,dc3,s2++[k],sa3,sc3⟩,⟨rfl,by show Value.slice _ _ _=Value.slice _ _ _;rw[List.length_append];rfl,by show Value.slice _ _ _=Value.slice _ _ _;rw[List.length_append];rfl,trivial⟩,⟨by show j+1≤ks.length;omega,hx16,by omega,hks16,hlv16,ho16,hs16,hlev3,hgo2,by rw[List.length_append,List.length_append];show dp.length+1≤s2.length+1;omega,fun w hw=>by
         rw[List.length_append]
         rcases List.mem_append.1 hw with h|h
         ·have:=hw11 w h;exact⟨by show w.length≤s2.length+1;omega,this.2⟩
         ·rw[List.mem_singleton]at h;subst h;refine⟨by rw[hwl];show path.length+1≤s2.length+1;omega,fun q hq=> ?_⟩
          rw[List.getLast?_append]at hq
          have hq:k=q:=by simpa using hq
          rw[←hq]
          exact hask1 k (List.mem_of_getElem? hk),by rw[List.length_append];show path.length≤s2.length+1;omega⟩,by show ks.length-(j+1)<ks.length-j;omega⟩
     ·obtain rfl:j=ks.length:=by omega
      rw[Go.Why.goN_end (Nat.le_refl _)]at hgo2
      ((conv=>whnf);repeat(any_goals((first|((with_reducible refine Vc.DrawH.held [0,1,2,3,4,5,6,7,8,9,10,11,12,13,14,15,16,17,18,19,20,21] [(19,[3,7,12])] mixed (by decide+kernel) ?_))|refine Vc.stp ?_)<;>(intros;(conv=>whnf)))))
      exact⟨⟨i+1,dp,a2,c2,s2,sa2,sc2⟩,⟨rfl,rfl,rfl,trivial⟩,⟨by show i+1≤lv.length;omega,hx11,hz11,hlv11,hd11,hs11,hlev2,hgo2,hdl11,hw11⟩,by show lv.length-(i+1)<lv.length-i;omega⟩
   ·obtain rfl:i=lv.length:=by omega
    rw[Go.Why.goL_end (Nat.le_refl _)]at hgo
    subst hgo
    ((conv=>whnf);repeat(any_goals((first|((with_reducible refine Vc.DrawH.held [0,1,2,3,4,5,6,7,8,9,10,11,12,13,14,15,16,17,18,19,20,21] [(19,[3,7,12])] mixed (by decide+kernel) ?_))|refine Vc.stp ?_)<;>(intros;(conv=>whnf)))))
    exact⟨⟨deep,da,dc,seen1,sa1,sc1,g⟩,⟨rfl,rfl,trivial⟩,⟨hx9,hd9.rowL,hd9.cap_le,hs9,hlev.end hfg,hbf,by show deep.length≤seen1.length+1;omega,hw9⟩,by show g<g+1;omega⟩
end Go.Proofs.YtjdieklgoepdjaaGreatDoor
