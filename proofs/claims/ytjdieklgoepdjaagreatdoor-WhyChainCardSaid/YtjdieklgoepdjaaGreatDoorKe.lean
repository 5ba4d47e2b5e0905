import Derived.Test.YtjdieklgoepdjaaGreatDoorKc
import Derived.Lib.ItoaNum
import Derived.Test.YtjdieklgoepdjaaGreatDoorKd
import Derived.Test.YtjdieklgoepdjaaGreatDoorKb
set_option linter.unusedVariables false
set_option linter.unusedSimpArgs false
set_option maxRecDepth 100000
/- The chain and the ring of the laws, by looking. -/
namespace Go.Slv
open Go.Scr Go.Tre
def decT (i:Nat):Txt:=if i<10 then [UInt8.ofNat (48+i)]else [UInt8.ofNat (48+i / 10),UInt8.ofNat (48+i % 10)]
theorem itoa_decT (i:Nat) (h:i<100):Go.Lib.itoa (i:Int)=decT i:=by
 unfold Go.Lib.itoa decT
 rw[if_neg (by omega),Int.toNat_natCast]
 by_cases h1:i<10
 ·rw[if_pos h1,Go.Lib.decDigits,dif_pos h1]
 ·rw[if_neg h1,Go.Lib.decDigits,dif_neg h1,Go.Lib.decDigits,dif_pos (by omega)]
  rfl
def numName (c:UInt8) (i:Nat):Txt:=c::decT i
def v100:VerP:=⟨1,0,0,[]⟩
def spAny:SpnP:=⟨true,[]⟩
def tStar:Txt:=[42]
def z32:Txt:=List.replicate 32 0
end Go.Slv
namespace Go.Why
open Go.Scr Go.Tre Go.Slv
def wcNeed (i:Nat):NeedP:=⟨numName 112 i,spAny,tStar⟩
def wcRow (k i:Nat):RowP:=⟨numName 112 i,v100,z32,0,if i+1<k then [wcNeed (i+1)]else []⟩
def wcR (k:Nat):List RowP:=(List.range k).map (wcRow k)
def wcP (k:Nat):List PinP:=(List.range k).map fun i=>⟨numName 112 i,v100,z32⟩
def wcN (s:Nat):List NeedP:=if s=0 then [wcNeed 0]else [wcNeed 0,wcNeed s]
def wcOk (k s:Nat):Bool:=
 let w:=pathF (wcR k) (wcN s) (wcP k) (numName 112 (k-1))
 apartB (wcR k)&&decide (w.length=k-s)&&decide (w[0]? =some (numName 112 s))&&decide (w[k-s-1]? =some (numName 112 (k-1)))&&
  decide (usersF (wcR k) (wcN s) (wcP k) (numName 112 s)=if s=0 then [[]]else [[],numName 112 (s-1)])
theorem wcOk_all:((List.range 8).all fun n=>(List.range (n+2)).all fun s=>wcOk (n+2) s)=true:=by decide+kernel
structure ChainW (k s:Nat) (w u:List Txt):Prop where
 len:w.length=k-s
 fst:w[0]? =some (numName 112 s)
 lst:w[k-s-1]? =some (numName 112 (k-1))
 usr:u=if s=0 then [[]]else [[],numName 112 (s-1)]
theorem chain_way {k s:Nat} (h1:2≤k) (h2:k≤9) (hs:s<k):Apart (wcR k)∧ChainW k s (pathF (wcR k) (wcN s) (wcP k) (numName 112 (k-1))) (usersF (wcR k) (wcN s) (wcP k) (numName 112 s)):=by
 have h:=List.all_eq_true.1 wcOk_all (k-2) (List.mem_range.2 (by omega))
 rw[show k-2+2=k by omega]at h
 have h:=List.all_eq_true.1 h s (List.mem_range.2 hs)
 unfold wcOk at h
 simp only[Bool.and_eq_true,decide_eq_true_eq]at h
 obtain⟨⟨⟨⟨g0,g1⟩,g2⟩,g3⟩,g4⟩:=h
 exact⟨apartB_apart g0,g1,g2,g3,g4⟩
end Go.Why
namespace Go.Vc
variable {α:Type}
theorem RowE.take {E:Heap→α→List Value→Prop} {s:Nat} (ok:EncOk E s) {H:Heap} {a:Option Addr} {l:List α} (h:RowE E H a l) (k:Nat):RowE E H a (l.take k):=by
 obtain⟨vs,h1,h2⟩:=h.out
 exact⟨_,h1.take (k*s),h2.take ok k⟩
theorem RowE.drop {E:Heap→α→List Value→Prop} {s:Nat} (ok:EncOk E s) {H:Heap} {a:Option Addr} {l:List α} (h:RowE E H a l) (m k:Nat) (hl:m=k→l.length≤k):RowE E H (sliceBase a m k s) (l.drop k):=by
 obtain⟨vs,h1,h2⟩:=h.out
 exact⟨_,h1.drop m k s (fun e=>by rw[h2.len ok];exact Nat.mul_le_mul_right _ (hl e)),h2.drop ok k⟩
theorem NextH.pre1 {P:Program} {E:Heap→α→List Value→Prop} {s:Nat} {Ts:TypeId→Prop} (ok:EncT E s Ts) {H:Heap} {t u e ty:TypeId} {i:TypeInfo} {z:Value} {g:Nat} {a2:Option Addr} {m c2:Nat} {x:α} {c:List Value} {l2:List α} {cb:Array Bool} {K:Value→Heap→Prop}
  (ht:P.underlying t=some (.slice e)) (hu: ∃ d,P.underlying u=some d∧(∀ k,d≠ .int k)) (hi:P.info? e=some i) (hs:i.size=s) (hz:i.zero=some z) (hzs:z.cells.size=i.size) (hby:i.bytes≤100000) (hTs: ¬Ts e)
  (hlit:Blk H g c.toArray e) (hx:E H x c) (hr:RowE E H a2 l2) (hm:l2.length=m) (hnm:m≤100000)
  (hk: ∀ a' cap' H',OwnE E s H' g e a' (x::l2) cap'→But g H H'→K (.slice a' (1+m) cap') H'):NextH P (builtin .append #[t,u] ty cb #[.slice (some ⟨g,0,none⟩) 1 1,.slice a2 m c2]) H K:=by
 obtain⟨ws,h1,h2⟩:=hr.out
 exact NextH.appE (l:=[x]) ok ht hu hi hs hz hzs hby hTs (own_litE ok.ok hlit (LstV.one hx) (Nat.le_refl g) (by simp)) rfl h1 h2 hm (by omega) (Nat.le_of_lt hlit.lt) fun a' c' H' g1 g2 _=>hk a' c' H' g1 g2.toBut
theorem NextH.full1 {P:Program} {E:Heap→α→List Value→Prop} {s:Nat} (ok:EncOk E s) {H:Heap} {t u e ty:TypeId} {i:TypeInfo} {z:Value} {a a2:Option Addr} {m c2:Nat} {l l2:List α} {n:Nat} {cb:Array Bool} {K:Value→Heap→Prop}
  (ht:P.underlying t=some (.slice e)) (hu: ∃ d,P.underlying u=some d∧(∀ k,d≠ .int k)) (hi:P.info? e=some i) (hs:i.size=s) (hz:i.zero=some z) (hzs:z.cells.size=i.size) (hby:i.bytes≤100000)
  (ho:RowE E H a l) (hn:l.length=n) (hr:RowE E H a2 l2) (hm:l2.length=m) (hm0:0<m) (hnm:n+m≤1000000)
  (hk: ∀ cap' H',OwnE E s H' H.size e (some ⟨H.size,0,none⟩) (l++l2) cap'→Ext H H'→K (.slice (some ⟨H.size,0,none⟩) (n+m) cap') H'):
  NextH P (builtin .append #[t,u] ty cb #[.slice a n n,.slice a2 m c2]) H K:=by
 obtain⟨ws,h1,h2⟩:=hr.out
 exact NextH.fullE ok ht hu hi hs hz hzs hby ho hn h1 h2 hm hm0 hnm hk
def strE (_:Heap) (k:Bs) (c:List Value):Prop:=c=[.string (mkS k)]
theorem str_ok:EncT strE 1 (fun _=>False):=⟨fun h=>by rw[h];rfl,fun h u hu=>by rw[h]at hu;simp at hu;rw[hu];rfl,fun _ _ h=>h⟩
theorem lst_strs (H:Heap): ∀ l:List Bs,LstV strE H l (strs l)
 |[]=> .nil
 |k::l=>by have:=LstV.cons (E:=strE) (H:=H) (x:=k) (c:=[.string (mkS k)]) rfl (lst_strs H l);exact this
theorem LstV.strs_eq {H:Heap} {l:List Bs} {vs:List Value} (h:LstV strE H l vs):vs=strs l:=by
 induction h with
 |nil=>rfl
 |cons h _ ih=>rw[h,ih];rfl
theorem OwnE.strs {H:Heap} {base:Nat} {e:TypeId} {a:Option Addr} {l:List Bs} {cap:Nat} (h:OwnE strE 1 H base e a l cap):Own H base e 1 a l.length cap (strs l):=by
 obtain⟨vs,h1,h2⟩:=h.out
 rw[h2.strs_eq]at h1;exact h1
end Go.Vc
namespace Go.Slv
open Go.Scr Go.Tre
theorem insT_at: ∀ (l:List Txt) (k:Txt) (i:Nat),(∀ j x,j<i→l[j]? =some x→Op.bytesLess x k=true)→i≤l.length→(∀ x,l[i]? =some x→Op.bytesLess x k=false)→
  insT l k=if l[i]? =some k then l else l.take i++k::l.drop i
 |[],k,i,_,hi,_=>by
  obtain rfl:i=0:=by simpa using hi
  rfl
 |x::l,k,0,_,_,h=>by
  have:=h x rfl
  unfold insT
  rw[if_neg (by rw[this];simp)]
  by_cases e:x=k
  ·subst e;simp
  ·simp[e]
 |x::l,k,i+1,h1,hi,h=>by
  have hx:=h1 0 x (by omega) rfl
  unfold insT
  rw[if_pos hx,insT_at l k i (fun j y hj hy=>h1 (j+1) y (by omega) (by simpa using hy)) (by simpa using hi) (fun y hy=>h y (by simpa using hy))]
  simp only[List.getElem?_cons_succ,List.take_succ_cons,List.cons_append,List.drop_succ_cons]
  split<;>rfl
theorem insT_len (l:List Txt) (k:Txt):(insT l k).length≤l.length+1:=by
 induction l with
 |nil=>simp[insT]
 |cons j l ih=>
  unfold insT
  split
  ·simp only[List.length_cons];omega
  ·split<;>simp
theorem namesT_len (R:List RowP): ∀ l:List Txt,(R.foldl (fun l r=>insT l r.name) l).length≤l.length+R.length:=by
 induction R with
 |nil=>intro l;simp
 |cons r R ih=>
  intro l
  have:=ih (insT l r.name)
  have h2:=insT_len l r.name
  rw[List.foldl_cons,List.length_cons]
  omega
theorem namesF_len (R:List RowP):(namesF R).length≤R.length:=by
 have:=namesT_len R []
 simpa [namesF]using this
theorem namesF_snoc {R:List RowP} {i:Nat} {r:RowP} (h:R[i]? =some r):namesF (R.take (i+1))=insT (namesF (R.take i)) r.name:=by
 unfold namesF
 rw[List.take_add_one,h,List.foldl_append]
 rfl
end Go.Slv
namespace Go.Proofs.YtjdieklgoepdjaaGreatDoor
open Go Go.Vc Go.Scr Go.Slv
structure NmS where
 i:Nat
 a:Option Addr
 cap:Nat
set_option maxHeartbeats 4000000 in
theorem rnames_any (R:List RowP) (a:Option Addr) (n cap:Nat) (H:Heap) (hr:RowE rowE H a R) (hn:R.length=n) (hnl:n≤10000):CallH Tryz.prog 52 [.slice a n cap] H fun x H'=>(∃ a' c',x= .slice a' (namesF R).length c'∧Own H' H.size 9 1 a' (namesF R).length c' (strs (namesF R)))∧Ext H H':=by
 refine Vc.CallH.body Tryz.func52 Tryz.call52 rfl (by decide+kernel) rfl ?_
 ((conv=>whnf);repeat(any_goals((first|refine Vc.stp ?_)<;>(intros;(conv=>whnf)))))
 refine LoopH.intro (fun(x:NmS)=>[(4,.int .i64 x.i),(3,.slice x.a (namesF (R.take x.i)).length x.cap)]) (fun x H'=>x.i≤n∧OwnE strE 1 H' H.size 9 x.a (namesF (R.take x.i)) x.cap∧Ext H H') (fun x=>n-x.i) ⟨0,none,0⟩ ⟨rfl,by rw[List.take_zero];rfl,trivial⟩ ⟨Nat.zero_le _,by dsimp only;rw[List.take_zero];exact OwnE.nil _ _ _ _ _,Ext.refl _⟩ ?_
 rintro⟨i,oa,oc⟩ H1 ⟨hi,ho1,hx1⟩
 dsimp only at hi ho1 ⊢
 have hz1:=hx1.size
 by_cases hlt:i<n
 ·obtain⟨r,hri⟩: ∃ r,R[i]? =some r:=⟨_,List.getElem?_eq_getElem (by omega)⟩
  have hsn:=namesF_snoc hri
  have hlen:=namesF_len (R.take i)
  rw[List.length_take]at hlen
  obtain⟨l,hl⟩: ∃ l,namesF (R.take i)=l:=⟨_,rfl⟩
  rw[hl]at ho1 hsn hlen ⊢
  have hcl:=ho1.cap_le
  ((conv=>whnf);repeat(any_goals((first|refine Vc.stp ?_)<;>(intros;(conv=>whnf)))))
  refine LoopH.intro (fun(t:Nat)=>[(5,.int .i64 t)]) (fun t H'=>H1=H'∧t≤l.length∧ ∀ j x,j<t→l[j]? =some x→Op.bytesLess x r.name=true) (fun t=>l.length-t) 0 ⟨rfl,trivial⟩ ⟨rfl,Nat.zero_le _,fun j x h=>absurd h (Nat.not_lt_zero _)⟩ ?_
  rintro t _ ⟨rfl,ht,hless⟩
  have htl:(l.take t).length=t:=by rw[List.length_take];omega
  have hdl:(l.drop t).length=l.length-t:=List.length_drop
  by_cases htn:t<l.length
  ·obtain⟨x,hx⟩: ∃ x,l[t]? =some x:=⟨_,List.getElem?_eq_getElem htn⟩
   have e1:Op.bytesLess (mkS x).toList (mkS r.name).toList=Op.bytesLess x r.name:=by rw[toListS,toListS]
   have e2:((mkS x).toList==(mkS r.name).toList)=decide (x=r.name):=str_mk _ _
   by_cases hls:Op.bytesLess x r.name=true
   ·rw[hls]at e1
    ((conv=>whnf);repeat(any_goals((first|(refine IdxA.el row_ok (by decide) (hr.ext row_ok hx1) hn i r rfl hri ?_;intro b o c hcR hcl;obtain⟨pa,pc,na,nc,ec,h32,hpl,hpr,hnl2,hnr⟩:=(id hcR);have hc0:hcell _ ⟨b,o+0,none⟩=some (Value.string (mkS r.name)):=hcl 0 _ (by rw[ec];rfl))|(refine IdxA.strv ho1.strs.row rfl t x rfl hx ?_;intro _ _ _ _ _)|refine Vc.stp ?_)<;>(intros;(conv=>whnf)))))
    exact⟨t+1,⟨rfl,trivial⟩,⟨rfl,by omega,fun j y hj hy=>by
     by_cases hjt:j=t
     ·subst hjt;rw[hx]at hy;cases hy;exact hls
     ·exact hless j y (by omega) hy⟩,by omega⟩
   ·have hls:Op.bytesLess x r.name=false:=by simpa using hls
    rw[hls]at e1
    have hins:=insT_at l r.name t hless (by omega) (fun y hy=>by rw[hx]at hy;cases hy;exact hls)
    rw[hx]at hins
    by_cases hxe:x=r.name
    ·rw[decide_eq_true hxe]at e2
     rw[if_pos (by rw[hxe])]at hins
     rw[hins]at hsn
     ((conv=>whnf);repeat(any_goals((first|(refine IdxA.el row_ok (by decide) (hr.ext row_ok hx1) hn i r rfl hri ?_;intro b o c hcR hcl;obtain⟨pa,pc,na,nc,ec,h32,hpl,hpr,hnl2,hnr⟩:=(id hcR);have hc0:hcell _ ⟨b,o+0,none⟩=some (Value.string (mkS r.name)):=hcl 0 _ (by rw[ec];rfl))|(refine IdxA.strv ho1.strs.row rfl t x rfl hx ?_;intro _ _ _ _ _)|refine Vc.stp ?_)<;>(intros;(conv=>whnf)))))
     exact⟨⟨i+1,oa,oc⟩,⟨rfl,by dsimp only;rw[hsn];rfl,trivial⟩,⟨by show i+1≤n;omega,by dsimp only;rw[hsn];exact ho1,hx1⟩,by show n-(i+1)<n-i;omega⟩
    ·rw[decide_eq_false hxe]at e2
     rw[if_neg (fun e=>hxe (Option.some.inj e))]at hins
     rw[hins]at hsn
     ((conv=>whnf);repeat(any_goals((first|(refine IdxA.el row_ok (by decide) (hr.ext row_ok hx1) hn i r rfl hri ?_;intro b o c hcR hcl;obtain⟨pa,pc,na,nc,ec,h32,hpl,hpr,hnl2,hnr⟩:=(id hcR);have hc0:hcell _ ⟨b,o+0,none⟩=some (Value.string (mkS r.name)):=hcl 0 _ (by rw[ec];rfl))|(refine IdxA.strv ho1.strs.row rfl t x rfl hx ?_;intro _ _ _ _ _)|(refine BndH.nat t rfl (by omega) ?_)|(refine NextH.full1 str_ok.ok rfl ⟨_,rfl,fun _ h=>by cases h⟩ rfl rfl rfl rfl (by decide) ((ho1.row.ext str_ok.ok hx5).take str_ok.ok t) (by rw[List.length_take];omega) ho5.row (by rw[List.length_cons,List.length_drop];omega) (by omega) (by omega) ?_;intro c6 H6 ho6 hx6;have hz6:=hx6.size)|(rename_i Hl zl bl xl;refine NextH.pre1 str_ok (c:=[.string (mkS r.name)]) rfl ⟨_,rfl,fun _ h=>by cases h⟩ rfl rfl rfl rfl (by decide) id bl rfl ((ho1.row.ext str_ok.ok xl).drop str_ok.ok oc t (fun e=>by omega)) List.length_drop (by omega) ?_;intro a5 c5 H5 ho5 hw5;have hx5:Ext H1 H5:=xl.but hw5 (by omega);have hz5:=hx5.size)|refine Vc.stp ?_)<;>(intros;(conv=>whnf)))))
     have hlen2:(l.take t++r.name::l.drop t).length=t+(1+(l.length-t)):=(by rw[List.length_append,List.length_take,List.length_cons,List.length_drop];omega);exact⟨⟨i+1,some ⟨H5.size,0,none⟩,c6⟩,⟨rfl,by(show Value.slice _ _ _=Value.slice _ _ _;rw[hsn,hlen2]),trivial⟩,⟨by(show i+1≤n;omega),by(dsimp only;rw[hsn];exact ho6.base (by omega)),hx1.trans (hx5.trans hx6)⟩,by(show n-(i+1)<n-i;omega)⟩
  ·obtain rfl:t=l.length:=by omega
   have hins:=insT_at l r.name l.length hless (Nat.le_refl _) (fun y hy=>by simp at hy)
   rw[List.getElem?_eq_none (Nat.le_refl _),if_neg (by simp)]at hins
   rw[hins]at hsn
   obtain⟨t,ht0⟩: ∃ t,t=l.length:=⟨_,rfl⟩
   rw[←ht0]at hsn htl hdl
   ((conv=>whnf);repeat(any_goals((first|(refine IdxA.el row_ok (by decide) (hr.ext row_ok hx1) hn i r rfl hri ?_;intro b o c hcR hcl;obtain⟨pa,pc,na,nc,ec,h32,hpl,hpr,hnl2,hnr⟩:=(id hcR);have hc0:hcell _ ⟨b,o+0,none⟩=some (Value.string (mkS r.name)):=hcl 0 _ (by rw[ec];rfl))|(refine IdxA.strv ho1.strs.row rfl t x rfl hx ?_;intro _ _ _ _ _)|(refine BndH.nat t (by rw[ht0]) (by omega) ?_)|(refine NextH.full1 str_ok.ok rfl ⟨_,rfl,fun _ h=>by cases h⟩ rfl rfl rfl rfl (by decide) ((ho1.row.ext str_ok.ok hx5).take str_ok.ok t) (by rw[List.length_take];omega) ho5.row (by rw[List.length_cons,List.length_drop];omega) (by omega) (by omega) ?_;intro c6 H6 ho6 hx6;have hz6:=hx6.size)|(rename_i Hl zl bl xl;refine NextH.pre1 str_ok (c:=[.string (mkS r.name)]) rfl ⟨_,rfl,fun _ h=>by cases h⟩ rfl rfl rfl rfl (by decide) id bl rfl ((ho1.row.ext str_ok.ok xl).drop str_ok.ok oc t (fun e=>by omega)) List.length_drop (by omega) ?_;intro a5 c5 H5 ho5 hw5;have hx5:Ext H1 H5:=xl.but hw5 (by omega);have hz5:=hx5.size)|refine Vc.stp ?_)<;>(intros;(conv=>whnf)))))
   have hlen2:(l.take t++r.name::l.drop t).length=t+(1+(l.length-t)):=(by rw[List.length_append,List.length_take,List.length_cons,List.length_drop];omega);exact⟨⟨i+1,some ⟨H5.size,0,none⟩,c6⟩,⟨rfl,by(show Value.slice _ _ _=Value.slice _ _ _;rw[hsn,hlen2]),trivial⟩,⟨by(show i+1≤n;omega),by(dsimp only;rw[hsn];exact ho6.base (by omega)),hx1.trans (hx5.trans hx6)⟩,by(show n-(i+1)<n-i;omega)⟩
 ·obtain rfl:i=n:=by omega
  rw[List.take_of_length_le (by omega)]at ho1 ⊢
  ((conv=>whnf);repeat(any_goals((first|refine Vc.stp ?_)<;>(intros;(conv=>whnf)))))
  exact⟨⟨oa,oc,rfl,ho1.strs⟩,hx1⟩
end Go.Proofs.YtjdieklgoepdjaaGreatDoor
namespace Go.Vc
variable {α:Type}
def constE (E:Heap→α→List Value→Prop) (H:Heap):Heap→α→List Value→Prop:=fun _ x c=>E H x c
theorem const_ok {E:Heap→α→List Value→Prop} {s:Nat} (ok:EncOk E s) (H:Heap):EncT (constE E H) s (fun _=>False):=⟨ok.len,ok.plain,fun _ _ h=>h⟩
theorem LstV.unconst {E:Heap→α→List Value→Prop} {s:Nat} (ok:EncOk E s) {H0 H H':Heap} (k:Ext H0 H') {l:List α} {vs:List Value} (h:LstV (constE E H0) H l vs):LstV E H' l vs:=by
 induction h with
 |nil=>exact .nil
 |cons h _ ih=>exact .cons (ok.ext k h) ih
theorem RowE.unconst {E:Heap→α→List Value→Prop} {s:Nat} (ok:EncOk E s) {H0 H:Heap} (k:Ext H0 H) {a:Option Addr} {l:List α} (h:RowE (constE E H0) H a l):RowE E H a l:=by
 obtain⟨vs,h1,h2⟩:=h.out
 exact⟨vs,h1,h2.unconst ok k⟩
theorem OwnE.unconst {E:Heap→α→List Value→Prop} {s:Nat} (ok:EncOk E s) {H0 H:Heap} (k:Ext H0 H) {base:Nat} {e:TypeId} {a:Option Addr} {l:List α} {cap:Nat} (h:OwnE (constE E H0) s H base e a l cap):OwnE E s H base e a l cap:=by
 obtain⟨vs,h1,h2⟩:=h.out
 exact⟨vs,h1,h2.unconst ok k⟩
end Go.Vc
namespace Go.Slv
open Go.Scr Go.Tre
def verAt (R:List RowP) (j:Nat):VerP:=match R[j]? with
 |some r=>r.v
 |none=>⟨0,0,0,[]⟩
def versF (R:List RowP) (k:Txt) (n:Nat):List VerP:=(candsF R k n).map (verAt R)
def insV:List VerP→VerP→List VerP
 |[],v=>[v]
 |w::l,v=>if 0≤cmpV w v then w::insV l v else v::w::l
theorem insI_map (R:List RowP) {i:Nat} {r:RowP} (hr:R[i]? =some r): ∀ {l:List Nat},(∀ j∈l,∃ s,R[j]? =some s)→(insI R l i).map (verAt R)=insV (l.map (verAt R)) r.v
 |[],_=>by simp[insI,insV,verAt,hr]
 |j::l,h=>by
  obtain⟨s,hs⟩:=h j List.mem_cons_self
  have ih:=insI_map R hr fun x hx=>h x (List.mem_cons_of_mem _ hx)
  have e:verAt R j=s.v:=by unfold verAt;rw[hs]
  have e2:verAt R i=r.v:=by unfold verAt;rw[hr]
  unfold insI
  rw[hs,hr]
  dsimp only
  rw[List.map_cons,insV,e]
  split
  ·rw[List.map_cons,ih,e]
  ·rw[List.map_cons,List.map_cons,e,e2]
theorem cands_valid (R:List RowP) (k:Txt) (n:Nat): ∀ j∈candsF R k n,∃ s,R[j]? =some s:=fun j hj=>by
 obtain⟨_,s,h,_⟩:=(cands_mem R k n j).1 hj
 exact⟨s,h⟩
theorem versF_sort {R:List RowP} (ha:Apart R) (k:Txt) (n:Nat):(versF R k n).Pairwise fun v w=>cmpV v w=1:=by
 unfold versF
 rw[List.pairwise_map]
 refine(cands_ord ha k n).imp_of_mem fun{i j} hi hj h=> ?_
 obtain⟨r,s,h1,h2,h3⟩:=h
 unfold verAt
 rw[h1,h2]
 exact h3
theorem insV_at {v:VerP}: ∀ (V:List VerP) (t:Nat),V.Pairwise (fun v w=>cmpV v w=1)→t≤V.length→(∀ x,t≠0→V[t-1]? =some x→0≤cmpV x v)→(∀ x∈V.drop t,cmpV x v<0)→insV V v=V.take t++v::V.drop t
 |[],t,_,ht,_,_=>by
  obtain rfl:t=0:=by simpa using ht
  rfl
 |w::V,0,_,_,_,h=>by
  have:=h w (by simp)
  unfold insV
  rw[if_neg (by omega)]
  rfl
 |w::V,t+1,hp,ht,h1,h2=>by
  rw[List.pairwise_cons]at hp
  have hw:0≤cmpV w v:=by
   cases t with
   |zero=>exact h1 w (by omega) rfl
   |succ t=>
    have htl:t<V.length:=by simp only[List.length_cons]at ht;omega
    have hx:(w::V)[t+1+1-1]? =some V[t]:=by simp[htl]
    have h3:=h1 _ (by omega) hx
    have h4:=hp.1 V[t] (List.getElem_mem htl)
    have h5:=lin_ver.neg w v
    have h6:=lin_ver.neg V[t] v
    rcases lin_ver.rng w v with g|g|g
    ·exfalso
     have h7:=lin_ver.trg (a:=v) (b:=w) (c:=V[t]) (by omega) h4
     omega
    ·omega
    ·omega
  unfold insV
  rw[if_pos hw,insV_at V t hp.2 (by simpa using ht) (fun x hne hx=>h1 x (by omega) (by
   cases t with
   |zero=>exact absurd rfl hne
   |succ t=>simpa using hx)) (by simpa using h2)]
  rfl
theorem versF_len (R:List RowP) (k:Txt): ∀ n,(versF R k n).length≤n
 |0=>by simp[versF,candsF]
 |n+1=>by
  have ih:=versF_len R k n
  unfold versF at ih ⊢
  rw[List.length_map]at ih ⊢
  unfold candsF
  split
  ·split
   ·have: ∀ l:List Nat,(insI R l n).length≤l.length+1:=fun l=>by
     induction l with
     |nil=>simp[insI]
     |cons j l ih=>
      unfold insI
      split
      ·split
       ·simp only[List.length_cons];omega
       ·simp
      ·simp
    have:=this (candsF R k n)
    omega
   ·omega
  ·omega
theorem versF_step {R:List RowP} {k:Txt} {i:Nat} {r:RowP} (hr:R[i]? =some r):versF R k (i+1)=if r.name=k then insV (versF R k i) r.v else versF R k i:=by
 unfold versF
 rw[candsF,hr]
 dsimp only
 split
 ·exact insI_map R hr (cands_valid R k i)
 ·rfl
theorem versF_mem {R:List RowP} {k:Txt} {n:Nat} {v:VerP} (h:v∈versF R k n): ∃ i r,i<n∧R[i]? =some r∧r.name=k∧r.v=v:=by
 unfold versF at h
 obtain⟨i,hi,rfl⟩:=List.mem_map.1 h
 obtain⟨h1,r,h2,h3⟩:=(cands_mem R k n i).1 hi
 exact⟨i,r,h1,h2,h3,by unfold verAt;rw[h2]⟩
end Go.Slv
namespace Go.Proofs.YtjdieklgoepdjaaGreatDoor
open Go Go.Vc Go.Scr Go.Slv
set_option maxHeartbeats 4000000 in
theorem rversions_any (R:List RowP) (ha:Apart R) (k:Bs) (hR: ∀ r∈R,VerB r.v) (a:Option Addr) (n cap:Nat) (H:Heap) (hr:RowE rowE H a R) (hn:R.length=n) (hnl:n≤10000):CallH Tryz.prog 43 [.slice a n cap,.string (mkS k)] H fun x H'=>(∃ a' c',x= .slice a' (versF R k n).length c'∧OwnE verE 4 H' H.size 48 a' (versF R k n) c')∧Ext H H':=by
 refine Vc.CallH.body Tryz.func43 Tryz.call43 rfl (by decide+kernel) rfl ?_
 have ok:=const_ok ver_ok H
 ((conv=>whnf);repeat(any_goals((first|refine Vc.stp ?_)<;>(intros;(conv=>whnf)))))
 refine LoopH.intro (fun(x:NmS)=>[(6,.int .i64 x.i),(5,.slice x.a (versF R k x.i).length x.cap)]) (fun x H'=>x.i≤n∧OwnE (constE verE H) 4 H' H.size 48 x.a (versF R k x.i) x.cap∧Ext H H') (fun x=>n-x.i) ⟨0,none,0⟩ ⟨rfl,rfl,trivial⟩ ⟨Nat.zero_le _,OwnE.nil _ _ _ _ _,Ext.refl _⟩ ?_
 rintro⟨i,oa,oc⟩ H1 ⟨hi,ho1,hx1⟩
 dsimp only at hi ho1 ⊢
 have hz1:=hx1.size
 by_cases hlt:i<n
 ·obtain⟨r,hri⟩: ∃ r,R[i]? =some r:=⟨_,List.getElem?_eq_getElem (by omega)⟩
  have hst:=versF_step (k:=k) hri
  have hlen:=versF_len R k i
  have hsort:=versF_sort ha k i
  have hmem:=fun v (h:v∈versF R k i)=>versF_mem h
  have e1:((mkS r.name).toList==(mkS k).toList)=decide (r.name=k):=str_mk _ _
  by_cases hk:r.name=k
  case neg=>
   rw[decide_eq_false hk]at e1
   rw[if_neg hk]at hst
   ((conv=>whnf);repeat(any_goals((first|(refine IdxA.el row_ok (by decide) hr hn i r rfl hri ?_;intro b o c hcR hcl;obtain⟨pa,pc,na,nc,ec,h32,hpl,hpr,hnl2,hnr⟩:=(id hcR);have hcv:=(fun k u hu=>(by rw[Nat.add_assoc,Nat.add_comm 1 k];exact hcl (k+1) u (row_ver ec k u hu)): ∀ (k:Nat) (u:Value),([.int .i64 r.v.ma,.int .i64 r.v.mi,.int .i64 r.v.pa,.slice pa r.v.pre.length pc]:List Value)[k]? =some u→hcell _ ⟨b,o+1+k,none⟩=some u);have hc0:hcell _ ⟨b,o+0,none⟩=some (Value.string (mkS r.name)):=hcl 0 _ (by rw[ec];rfl))|((with_reducible apply SemH.load_ver);(exact hcv);(exact hx02.trans (by exact Vc.xt));(conv=>whnf))|refine Vc.stp ?_)<;>(intros;(conv=>whnf)))))
   exact⟨⟨i+1,oa,oc⟩,⟨rfl,by dsimp only;rw[hst];rfl,trivial⟩,⟨by show i+1≤n;omega,by dsimp only;rw[hst];exact ho1,hx1⟩,by show n-(i+1)<n-i;omega⟩
  rw[decide_eq_true hk]at e1
  rw[if_pos hk]at hst
  have hrb:=hR r (List.mem_of_getElem? hri)
  obtain⟨l,hl⟩: ∃ l,versF R k i=l:=⟨_,rfl⟩
  rw[hl]at ho1 hst hlen hsort hmem ⊢
  have hcl1:=ho1.cap_le
  ((conv=>whnf);repeat(any_goals((first|(refine IdxA.el row_ok (by decide) hr hn i r rfl hri ?_;intro b o c hcR hcl;obtain⟨pa,pc,na,nc,ec,h32,hpl,hpr,hnl2,hnr⟩:=(id hcR);have hcv:=(fun k u hu=>(by rw[Nat.add_assoc,Nat.add_comm 1 k];exact hcl (k+1) u (row_ver ec k u hu)): ∀ (k:Nat) (u:Value),([.int .i64 r.v.ma,.int .i64 r.v.mi,.int .i64 r.v.pa,.slice pa r.v.pre.length pc]:List Value)[k]? =some u→hcell _ ⟨b,o+1+k,none⟩=some u);have hc0:hcell _ ⟨b,o+0,none⟩=some (Value.string (mkS r.name)):=hcl 0 _ (by rw[ec];rfl))|((with_reducible apply SemH.load_ver);(exact hcv);(exact hx02.trans (by exact Vc.xt));(conv=>whnf))|refine Vc.stp ?_)<;>(intros;(conv=>whnf)))))
  refine LoopH.intro (fun(t:Nat)=>[(7,.int .i64 t)]) (fun t H'=>t≤l.length∧(∀ x∈l.drop t,cmpV x r.v<0)∧Ext H1 H') (fun t=>t) l.length ⟨rfl,trivial⟩ ⟨Nat.le_refl _,((fun x hx=>absurd hx (by rw[List.drop_length];simp)): ∀ x∈l.drop l.length,cmpV x r.v<0),Ext.refl _⟩ ?_
  rintro t H2 ⟨ht,hgt,hx2⟩
  have hz2:=hx2.size
  have hx02:=hx1.trans hx2
  have hrl:=(ho1.unconst ver_ok hx1).row
  by_cases ht0:t=0
  ·have hins:=insV_at l t hsort ht (fun x h=>absurd ht0 h) hgt
   rw[hins]at hst
   ((conv=>whnf);repeat(any_goals((first|(refine IdxA.el row_ok (by decide) hr hn i r rfl hri ?_;intro b o c hcR hcl;obtain⟨pa,pc,na,nc,ec,h32,hpl,hpr,hnl2,hnr⟩:=(id hcR);have hcv:=(fun k u hu=>(by rw[Nat.add_assoc,Nat.add_comm 1 k];exact hcl (k+1) u (row_ver ec k u hu)): ∀ (k:Nat) (u:Value),([.int .i64 r.v.ma,.int .i64 r.v.mi,.int .i64 r.v.pa,.slice pa r.v.pre.length pc]:List Value)[k]? =some u→hcell _ ⟨b,o+1+k,none⟩=some u);have hc0:hcell _ ⟨b,o+0,none⟩=some (Value.string (mkS r.name)):=hcl 0 _ (by rw[ec];rfl))|((with_reducible apply SemH.load_ver);(exact hcv);(exact hx02.trans (by exact Vc.xt));(conv=>whnf))|(refine BndH.nat t rfl (by omega) ?_)|(refine NextH.full1 ok.ok rfl ⟨_,rfl,fun _ h=>by cases h⟩ rfl rfl rfl rfl (by decide) ((ho1.row.ext ok.ok (hx2.trans hx5)).take ok.ok t) (by rw[List.length_take];omega) ho5.row (by rw[List.length_cons,List.length_drop];omega) (by omega) (by omega) ?_;intro c6 H6 ho6 hx6;have hz6:=hx6.size)|(rename_i Hl zl bl xl;refine NextH.pre1 ok (c:=[.int .i64 r.v.ma,.int .i64 r.v.mi,.int .i64 r.v.pa,.slice pa r.v.pre.length pc]) rfl ⟨_,rfl,fun _ h=>by cases h⟩ rfl rfl rfl rfl (by decide) id bl ⟨pa,pc,rfl,hpl,hpr⟩ ((ho1.row.ext ok.ok (hx2.trans (by exact Vc.xt))).drop ok.ok oc t (fun e=>by omega)) List.length_drop (by omega) ?_;intro a5 c5 H5 ho5 hw5;have hx5:Ext H2 H5:=(show Ext H2 Hl by exact Vc.xt).but hw5 (by omega);have hz5:=hx5.size)|refine Vc.stp ?_)<;>(intros;(conv=>whnf)))))
   have hlen2:(l.take t++r.v::l.drop t).length=t+(1+(l.length-t)):=(by rw[List.length_append,List.length_take,List.length_cons,List.length_drop];omega);exact⟨⟨i+1,some ⟨H5.size,0,none⟩,c6⟩,⟨rfl,by(show Value.slice _ _ _=Value.slice _ _ _;rw[hst,hlen2]),trivial⟩,⟨by(show i+1≤n;omega),by(dsimp only;rw[hst];exact ho6.base (by omega)),hx02.trans (hx5.trans hx6)⟩,by(show n-(i+1)<n-i;omega)⟩
  ·obtain⟨x,hx⟩: ∃ x,l[t-1]? =some x:=⟨_,List.getElem?_eq_getElem (by omega)⟩
   have hxb:VerB x:=by
    obtain⟨j,s,_,h1,_,rfl⟩:=hmem x (List.mem_of_getElem? hx)
    exact hR s (List.mem_of_getElem? h1)
   by_cases hc:cmpV x r.v<0
   ·((conv=>whnf);repeat(any_goals((first|(refine IdxA.el ver_ok (by decide) hrl rfl (t-1) x (by omega) hx ?_;intro b o c hcX hcx;obtain⟨xa,xc,ex,hxl,hxr⟩:=(id hcX);have hxv: ∀ (k:Nat) (u:Value),([.int .i64 x.ma,.int .i64 x.mi,.int .i64 x.pa,.slice xa x.pre.length xc]:List Value)[k]? =some u→hcell H1 ⟨b,o+k,none⟩=some u:=fun k u hu=>hcx k u (by rw[ex];exact hu))|((with_reducible apply SemH.load_ver);(exact hxv);(exact hx2.trans (by exact Vc.xt));(conv=>whnf))|(refine(rcmpv_any x r.v hxb hrb _ _ _ (verO_of hxl (hxr.ext (hx2.trans (by exact Vc.xt)))) (verO_of hpl (hpr.ext (hx02.trans (by exact Vc.xt))))).mono ?_;rintro _ H4 ⟨rfl,hx4⟩;have hz4:=hx4.size)|(refine IdxA.el row_ok (by decide) hr hn i r rfl hri ?_;intro b o c hcR hcl;obtain⟨pa,pc,na,nc,ec,h32,hpl,hpr,hnl2,hnr⟩:=(id hcR);have hcv:=(fun k u hu=>(by rw[Nat.add_assoc,Nat.add_comm 1 k];exact hcl (k+1) u (row_ver ec k u hu)): ∀ (k:Nat) (u:Value),([.int .i64 r.v.ma,.int .i64 r.v.mi,.int .i64 r.v.pa,.slice pa r.v.pre.length pc]:List Value)[k]? =some u→hcell _ ⟨b,o+1+k,none⟩=some u);have hc0:hcell _ ⟨b,o+0,none⟩=some (Value.string (mkS r.name)):=hcl 0 _ (by rw[ec];rfl))|((with_reducible apply SemH.load_ver);(exact hcv);(exact hx02.trans (by exact Vc.xt));(conv=>whnf))|refine Vc.stp ?_)<;>(intros;(conv=>whnf)))))
    refine⟨t-1,⟨by show Value.int .i64 _=Value.int .i64 _;congr 1;omega,trivial⟩,⟨by omega,fun y hy=> ?_,hx2.trans (by exact Vc.xt)⟩,by omega⟩
    have:l.drop (t-1)=x::l.drop t:=by
     rw[List.drop_eq_getElem_cons (by omega),show t-1+1=t by omega]
     rw[List.getElem?_eq_getElem (by omega)]at hx
     rw[Option.some.inj hx]
    rw[this]at hy
    rcases List.mem_cons.1 hy with rfl|hy
    ·exact hc
    ·exact hgt y hy
   ·have hins:=insV_at l t hsort ht (fun y h hy=>by rw[hx]at hy;cases hy;omega) hgt
    rw[hins]at hst
    ((conv=>whnf);repeat(any_goals((first|(refine IdxA.el ver_ok (by decide) hrl rfl (t-1) x (by omega) hx ?_;intro b o c hcX hcx;obtain⟨xa,xc,ex,hxl,hxr⟩:=(id hcX);have hxv: ∀ (k:Nat) (u:Value),([.int .i64 x.ma,.int .i64 x.mi,.int .i64 x.pa,.slice xa x.pre.length xc]:List Value)[k]? =some u→hcell H1 ⟨b,o+k,none⟩=some u:=fun k u hu=>hcx k u (by rw[ex];exact hu))|((with_reducible apply SemH.load_ver);(exact hxv);(exact hx2.trans (by exact Vc.xt));(conv=>whnf))|(refine(rcmpv_any x r.v hxb hrb _ _ _ (verO_of hxl (hxr.ext (hx2.trans (by exact Vc.xt)))) (verO_of hpl (hpr.ext (hx02.trans (by exact Vc.xt))))).mono ?_;rintro _ H4 ⟨rfl,hx4⟩;have hz4:=hx4.size)|(refine IdxA.el row_ok (by decide) hr hn i r rfl hri ?_;intro b o c hcR hcl;obtain⟨pa,pc,na,nc,ec,h32,hpl,hpr,hnl2,hnr⟩:=(id hcR);have hcv:=(fun k u hu=>(by rw[Nat.add_assoc,Nat.add_comm 1 k];exact hcl (k+1) u (row_ver ec k u hu)): ∀ (k:Nat) (u:Value),([.int .i64 r.v.ma,.int .i64 r.v.mi,.int .i64 r.v.pa,.slice pa r.v.pre.length pc]:List Value)[k]? =some u→hcell _ ⟨b,o+1+k,none⟩=some u);have hc0:hcell _ ⟨b,o+0,none⟩=some (Value.string (mkS r.name)):=hcl 0 _ (by rw[ec];rfl))|((with_reducible apply SemH.load_ver);(exact hcv);(exact hx02.trans (by exact Vc.xt));(conv=>whnf))|(refine BndH.nat t rfl (by omega) ?_)|(refine NextH.full1 ok.ok rfl ⟨_,rfl,fun _ h=>by cases h⟩ rfl rfl rfl rfl (by decide) ((ho1.row.ext ok.ok (hx2.trans hx5)).take ok.ok t) (by rw[List.length_take];omega) ho5.row (by rw[List.length_cons,List.length_drop];omega) (by omega) (by omega) ?_;intro c6 H6 ho6 hx6;have hz6:=hx6.size)|(rename_i Hl zl bl xl;refine NextH.pre1 ok (c:=[.int .i64 r.v.ma,.int .i64 r.v.mi,.int .i64 r.v.pa,.slice pa r.v.pre.length pc]) rfl ⟨_,rfl,fun _ h=>by cases h⟩ rfl rfl rfl rfl (by decide) id bl ⟨pa,pc,rfl,hpl,hpr⟩ ((ho1.row.ext ok.ok (hx2.trans (by exact Vc.xt))).drop ok.ok oc t (fun e=>by omega)) List.length_drop (by omega) ?_;intro a5 c5 H5 ho5 hw5;have hx5:Ext H2 H5:=(show Ext H2 Hl by exact Vc.xt).but hw5 (by omega);have hz5:=hx5.size)|refine Vc.stp ?_)<;>(intros;(conv=>whnf)))))
    have hlen2:(l.take t++r.v::l.drop t).length=t+(1+(l.length-t)):=(by rw[List.length_append,List.length_take,List.length_cons,List.length_drop];omega);exact⟨⟨i+1,some ⟨H5.size,0,none⟩,c6⟩,⟨rfl,by(show Value.slice _ _ _=Value.slice _ _ _;rw[hst,hlen2]),trivial⟩,⟨by(show i+1≤n;omega),by(dsimp only;rw[hst];exact ho6.base (by omega)),hx02.trans (hx5.trans hx6)⟩,by(show n-(i+1)<n-i;omega)⟩
 ·obtain rfl:i=n:=by omega
  ((conv=>whnf);repeat(any_goals((first|refine Vc.stp ?_)<;>(intros;(conv=>whnf)))))
  exact⟨⟨oa,oc,rfl,ho1.unconst ver_ok hx1⟩,hx1⟩
end Go.Proofs.YtjdieklgoepdjaaGreatDoor
namespace Go.Slv
open Go.Scr
def orB (v:VerP) (l:List BndP):Bool:=l.all (fun b=>holdsP b v)&&(decide (v.pre=[]) || l.any fun b=>nearP b v)
theorem hasP_or {s:SpnP} {v:VerP} (h:s.any=false):hasP s v=s.or_.any (orB v):=by unfold hasP;rw[h];rfl
theorem nearP_t {b:BndP} {v:VerP} (h0:0<b.v.pre.length) (h1:b.v.ma=v.ma) (h2:b.v.mi=v.mi) (h3:b.v.pa=v.pa):nearP b v=true:=by
 have:b.v.pre≠ []:=fun e=>by rw[e]at h0;simp at h0
 simp[nearP,this,h1,h2,h3]
theorem nearP_f {b:BndP} {v:VerP} (h: ¬(0<b.v.pre.length∧b.v.ma=v.ma∧b.v.mi=v.mi∧b.v.pa=v.pa)):nearP b v=false:=by
 cases e:nearP b v with
 |false=>rfl
 |true=>
  unfold nearP at e
  simp only[Bool.and_eq_true,decide_eq_true_eq]at e
  exact absurd ⟨List.length_pos_iff.2 e.1.1.1,e.1.1.2,e.1.2,e.2⟩ h
end Go.Slv
namespace Go.Proofs.YtjdieklgoepdjaaGreatDoor
open Go Go.Vc Go.Scr Go.Slv
structure SpnB (s:SpnP):Prop where
 len:s.or_.length≤1000000
 lens: ∀ l∈s.or_,l.length≤1000000
 ver: ∀ l∈s.or_,∀ b∈l,VerB b.v
structure HsS where
 k:Nat
 ok:Bool
 nm:Bool
theorem SemH.load_bnd {H H0:Heap} {g o:Nat} {b:BndP} {a:Option Addr} {cap:Nat} {K:Value→Heap→Prop} (hc: ∀ k u,([.string (mkS b.sign),.int .i64 b.v.ma,.int .i64 b.v.mi,.int .i64 b.v.pa,.slice a b.v.pre.length cap]:List Value)[k]? =some u→hcell H0 ⟨g,o+k,none⟩=some u) (he:Ext H0 H) (hk:K (.agg #[.string (mkS b.sign),.int .i64 b.v.ma,.int .i64 b.v.mi,.int .i64 b.v.pa,.slice a b.v.pre.length cap]) H):SemH Tryz.prog (Instr.loadAt 171 (.pointer (some ⟨g,o,none⟩))) H K:=by
 have:=Go.Vc.SemH.load_agg (P:=Tryz.prog) (t:=171) (H:=H) (b:=g) (o:=o) (vs:=[.string (mkS b.sign),.int .i64 b.v.ma,.int .i64 b.v.mi,.int .i64 b.v.pa,.slice a b.v.pre.length cap]) (K:=K) rfl rfl rfl (fun j u hu=>hcell_keep (hc j u hu) he id) hk
 exact this
set_option maxHeartbeats 4000000 in
theorem rhas_any (s:SpnP) (v:VerP) (hs:SpnB s) (hv:VerB v) (a:Option Addr) (n cap:Nat) (y:Value) (H:Heap) (hr:RowE bndsE H a s.or_) (hn:s.or_.length=n) (hy:VerO H v y):
  CallH Tryz.prog 133 [.agg #[.bool s.any,.slice a n cap],y] H fun x H'=>x= .bool (hasP s v)∧Ext H H':=by
 obtain⟨ya,yc,ey,hyl,hyr⟩:=hy.out
 subst ey
 have hsl:=hs.len
 refine Vc.CallH.body Tryz.func133 Tryz.call133 rfl (by decide+kernel) rfl ?_
 unfold verC
 have hpre: ∀ b:Bool,(decide (v.pre.length=0)=b)→decide (v.pre=[])=b:=fun b h=>by
  rw[←h]
  cases hp:v.pre with
  |nil=>rfl
  |cons m t=>simp
 cases hany:s.any with
 |true=>
  have e:hasP s v=decide (v.pre=[]):=by unfold hasP;rw[hany];rfl
  rw[e]
  ((conv=>whnf);repeat(any_goals((first|refine Vc.stp ?_)<;>(intros;(conv=>whnf)))))
  exact⟨by show Value.bool (((v.pre.length:Nat):Int)==0)=_;rw[hpre _ rfl];congr 1;rw[Bool.eq_iff_iff,beq_iff_eq,decide_eq_true_eq];omega,by exact Vc.xt⟩
 |false=>
  rw[hasP_or hany]
  obtain⟨Z,hZ⟩: ∃ Z,s.or_.any (orB v)=Z:=⟨_,rfl⟩
  rw[hZ]
  ((conv=>whnf);repeat(any_goals((first|refine Vc.stp ?_)<;>(intros;(conv=>whnf)))))
  rename_i H1 z1 g1 x1 H2 z2 g2 x2
  have hx02:=And.intro trivial (x1.trans x2)
  refine LoopH.intro (fun(i:Nat)=>[(5,.int .i64 i)]) (fun i H'=>i≤n∧Z=(s.or_.drop i).any (orB v)∧Ext H2 H') (fun i=>n-i) 0 ⟨rfl,trivial⟩ ⟨Nat.zero_le _,hZ.symm,Ext.refl _⟩ ?_
  rintro i H3 ⟨hi,hinv,hx3⟩
  have hz3:=hx3.size
  have hx03:=And.intro trivial (hx02.2.trans hx3)
  by_cases hlt:i<n
  ·obtain⟨l,hli⟩: ∃ l,s.or_[i]? =some l:=⟨_,List.getElem?_eq_getElem (by omega)⟩
   have hdi:s.or_.drop i=l::s.or_.drop (i+1):=by rw[List.drop_eq_getElem_cons (by omega)];rw[List.getElem?_eq_getElem (by omega)]at hli;injection hli with hli;rw[hli]
   have hlb:=hs.ver l (List.mem_of_getElem? hli)
   have hll:=hs.lens l (List.mem_of_getElem? hli)
   rw[hdi,List.any_cons]at hinv
   ((conv=>whnf);repeat(any_goals((first|(refine IdxA.el bnds_ok (by decide) hr hn i l rfl hli ?_;intro g1 o1 c1 hcL hcl1;obtain⟨la,lc,ec1,hlc,hlr⟩:=(id hcL);have hc1:hcell H ⟨g1,o1,none⟩=some (Value.slice la l.length lc):=(by have:=hcl1 0 _ (by rw[ec1];rfl);exact this))|refine Vc.stp ?_)<;>(intros;(conv=>whnf)))))
   refine LoopH.intro (fun(x:HsS)=>[(8,.int .i64 x.k),(6,.bool x.ok),(7,.bool x.nm)]) (fun x H'=>x.k≤l.length∧l.all (fun b=>holdsP b v)=(x.ok&&(l.drop x.k).all fun b=>holdsP b v)∧(decide (v.pre=[]) || l.any fun b=>nearP b v)=(x.nm || (l.drop x.k).any fun b=>nearP b v)∧Ext H2 H') (fun x=>l.length-x.k) ⟨0,true,((v.pre.length:Nat):Int)==0⟩ ⟨rfl,rfl,rfl,trivial⟩ ⟨Nat.zero_le _,by simp,by dsimp only;rw[List.drop_zero,hpre _ rfl];congr 1;rw[Bool.eq_iff_iff,beq_iff_eq,decide_eq_true_eq];omega,hx3⟩ ?_
   rintro⟨k,ok,nm⟩ H5 ⟨hk,hall,hnear,hx5⟩
   dsimp only at hk hall hnear ⊢
   have hz5:=hx5.size
   have hx05:=And.intro trivial (hx02.2.trans hx5)
   by_cases hkl:k<l.length
   ·obtain⟨b,hbk⟩: ∃ b,l[k]? =some b:=⟨_,List.getElem?_eq_getElem hkl⟩
    have hdk:l.drop k=b::l.drop (k+1):=by rw[List.drop_eq_getElem_cons hkl];rw[List.getElem?_eq_getElem hkl]at hbk;injection hbk with hbk;rw[hbk]
    have hbb:=hlb b (List.mem_of_getElem? hbk)
    rw[hdk,List.all_cons]at hall
    rw[hdk,List.any_cons]at hnear
    have nt:=fun h0 h1 h2 h3=>nearP_t (b:=b) (v:=v) h0 h1 h2 h3
    have nf:=fun h=>nearP_f (b:=b) (v:=v) h
    have hpi:nearP b v=true→(((b.v.pa:Nat):Int)==(v.pa:Int))=true:=fun h=>by
     unfold nearP at h
     simp only[Bool.and_eq_true,decide_eq_true_eq]at h
     rw[beq_iff_eq];omega
    cases nm with
    |true=>
     cases ok
     ·((conv=>whnf);repeat(any_goals((first|(refine IdxA.el bnds_ok (by decide) hr hn i l rfl hli ?_;intro g1 o1 c1 hcL hcl1;obtain⟨la,lc,ec1,hlc,hlr⟩:=(id hcL);have hc1:hcell H ⟨g1,o1,none⟩=some (Value.slice la l.length lc):=(by have:=hcl1 0 _ (by rw[ec1];rfl);exact this))|(refine IdxA.el bnd_ok (by decide) hlr rfl k b rfl hbk ?_;intro g2 o2 c2 hcB hcl2;obtain⟨xa,xc,ec2,hxl,hxr⟩:=(id hcB);have hb2:=(fun k u hu=>hcl2 k u (by rw[ec2];exact hu): ∀ (k:Nat) (u:Value),([.string (mkS b.sign),.int .i64 b.v.ma,.int .i64 b.v.mi,.int .i64 b.v.pa,.slice xa b.v.pre.length xc]:List Value)[k]? =some u→hcell H ⟨g2,o2+k,none⟩=some u))|((with_reducible apply SemH.load_bnd);(exact hb2);(exact hx05.2);(conv=>whnf))|(refine(rholds_any b v hbb hv xa xc _ _ hxl (hxr.ext (hx05.2.trans (by exact Vc.xt))) (hy.ext (hx05.2.trans (by exact Vc.xt)))).mono ?_;rintro _ H8 ⟨rfl,hx8⟩;have hz8:=hx8.size)|refine Vc.stp ?_)<;>(intros;(conv=>whnf)))))
      exact⟨⟨k+1,false,true⟩,⟨rfl,rfl,rfl,trivial⟩,⟨hkl,by rw[hall];rfl,by rw[hnear];rfl,hx5.trans (by exact Vc.xt)⟩,by show l.length-(k+1)<l.length-k;omega⟩
     ·((conv=>whnf);repeat(any_goals((first|(refine IdxA.el bnds_ok (by decide) hr hn i l rfl hli ?_;intro g1 o1 c1 hcL hcl1;obtain⟨la,lc,ec1,hlc,hlr⟩:=(id hcL);have hc1:hcell H ⟨g1,o1,none⟩=some (Value.slice la l.length lc):=(by have:=hcl1 0 _ (by rw[ec1];rfl);exact this))|(refine IdxA.el bnd_ok (by decide) hlr rfl k b rfl hbk ?_;intro g2 o2 c2 hcB hcl2;obtain⟨xa,xc,ec2,hxl,hxr⟩:=(id hcB);have hb2:=(fun k u hu=>hcl2 k u (by rw[ec2];exact hu): ∀ (k:Nat) (u:Value),([.string (mkS b.sign),.int .i64 b.v.ma,.int .i64 b.v.mi,.int .i64 b.v.pa,.slice xa b.v.pre.length xc]:List Value)[k]? =some u→hcell H ⟨g2,o2+k,none⟩=some u))|((with_reducible apply SemH.load_bnd);(exact hb2);(exact hx05.2);(conv=>whnf))|(refine(rholds_any b v hbb hv xa xc _ _ hxl (hxr.ext (hx05.2.trans (by exact Vc.xt))) (hy.ext (hx05.2.trans (by exact Vc.xt)))).mono ?_;rintro _ H8 ⟨rfl,hx8⟩;have hz8:=hx8.size)|refine Vc.stp ?_)<;>(intros;(conv=>whnf)))))
      exact⟨⟨k+1,holdsP b v,true⟩,⟨rfl,rfl,rfl,trivial⟩,⟨hkl,hall,by rw[hnear];rfl,hx5.trans (by exact Vc.xt)⟩,by show l.length-(k+1)<l.length-k;omega⟩
    |false=>
     by_cases h0:0<b.v.pre.length∧b.v.ma=v.ma∧b.v.mi=v.mi
     ·obtain⟨h0,h1,h2⟩:=h0
      have hnp:nearP b v=(((b.v.pa:Nat):Int)==(v.pa:Int)):=by
       by_cases h3:b.v.pa=v.pa
       ·rw[nearP_t h0 h1 h2 h3,h3,beq_self_eq_true]
       ·rw[nearP_f (fun h=>h3 h.2.2.2)];symm;rw[beq_eq_false_iff_ne];omega
      rw[hnp]at hnear
      cases ok
      ·((conv=>whnf);repeat(any_goals((first|(refine IdxA.el bnds_ok (by decide) hr hn i l rfl hli ?_;intro g1 o1 c1 hcL hcl1;obtain⟨la,lc,ec1,hlc,hlr⟩:=(id hcL);have hc1:hcell H ⟨g1,o1,none⟩=some (Value.slice la l.length lc):=(by have:=hcl1 0 _ (by rw[ec1];rfl);exact this))|(refine IdxA.el bnd_ok (by decide) hlr rfl k b rfl hbk ?_;intro g2 o2 c2 hcB hcl2;obtain⟨xa,xc,ec2,hxl,hxr⟩:=(id hcB);have hb2:=(fun k u hu=>hcl2 k u (by rw[ec2];exact hu): ∀ (k:Nat) (u:Value),([.string (mkS b.sign),.int .i64 b.v.ma,.int .i64 b.v.mi,.int .i64 b.v.pa,.slice xa b.v.pre.length xc]:List Value)[k]? =some u→hcell H ⟨g2,o2+k,none⟩=some u))|((with_reducible apply SemH.load_bnd);(exact hb2);(exact hx05.2);(conv=>whnf))|(refine(rholds_any b v hbb hv xa xc _ _ hxl (hxr.ext (hx05.2.trans (by exact Vc.xt))) (hy.ext (hx05.2.trans (by exact Vc.xt)))).mono ?_;rintro _ H8 ⟨rfl,hx8⟩;have hz8:=hx8.size)|refine Vc.stp ?_)<;>(intros;(conv=>whnf)))))
       exact⟨⟨k+1,false,_⟩,⟨rfl,rfl,rfl,trivial⟩,⟨hkl,by rw[hall];rfl,hnear,hx5.trans (by exact Vc.xt)⟩,by show l.length-(k+1)<l.length-k;omega⟩
      ·((conv=>whnf);repeat(any_goals((first|(refine IdxA.el bnds_ok (by decide) hr hn i l rfl hli ?_;intro g1 o1 c1 hcL hcl1;obtain⟨la,lc,ec1,hlc,hlr⟩:=(id hcL);have hc1:hcell H ⟨g1,o1,none⟩=some (Value.slice la l.length lc):=(by have:=hcl1 0 _ (by rw[ec1];rfl);exact this))|(refine IdxA.el bnd_ok (by decide) hlr rfl k b rfl hbk ?_;intro g2 o2 c2 hcB hcl2;obtain⟨xa,xc,ec2,hxl,hxr⟩:=(id hcB);have hb2:=(fun k u hu=>hcl2 k u (by rw[ec2];exact hu): ∀ (k:Nat) (u:Value),([.string (mkS b.sign),.int .i64 b.v.ma,.int .i64 b.v.mi,.int .i64 b.v.pa,.slice xa b.v.pre.length xc]:List Value)[k]? =some u→hcell H ⟨g2,o2+k,none⟩=some u))|((with_reducible apply SemH.load_bnd);(exact hb2);(exact hx05.2);(conv=>whnf))|(refine(rholds_any b v hbb hv xa xc _ _ hxl (hxr.ext (hx05.2.trans (by exact Vc.xt))) (hy.ext (hx05.2.trans (by exact Vc.xt)))).mono ?_;rintro _ H8 ⟨rfl,hx8⟩;have hz8:=hx8.size)|refine Vc.stp ?_)<;>(intros;(conv=>whnf)))))
       exact⟨⟨k+1,holdsP b v,_⟩,⟨rfl,rfl,rfl,trivial⟩,⟨hkl,hall,hnear,hx5.trans (by exact Vc.xt)⟩,by show l.length-(k+1)<l.length-k;omega⟩
     ·rw[nearP_f (fun h=>h0 ⟨h.1,h.2.1,h.2.2.1⟩),Bool.false_or]at hnear
      by_cases g0:0<b.v.pre.length
      case' pos=>by_cases g1:b.v.ma=v.ma
      all_goals try(have g2: ¬b.v.mi=v.mi:=fun e=>h0 ⟨g0,g1,e⟩)
      all_goals cases ok
      all_goals((conv=>whnf);repeat(any_goals((first|(refine IdxA.el bnds_ok (by decide) hr hn i l rfl hli ?_;intro g1 o1 c1 hcL hcl1;obtain⟨la,lc,ec1,hlc,hlr⟩:=(id hcL);have hc1:hcell H ⟨g1,o1,none⟩=some (Value.slice la l.length lc):=(by have:=hcl1 0 _ (by rw[ec1];rfl);exact this))|(refine IdxA.el bnd_ok (by decide) hlr rfl k b rfl hbk ?_;intro g2 o2 c2 hcB hcl2;obtain⟨xa,xc,ec2,hxl,hxr⟩:=(id hcB);have hb2:=(fun k u hu=>hcl2 k u (by rw[ec2];exact hu): ∀ (k:Nat) (u:Value),([.string (mkS b.sign),.int .i64 b.v.ma,.int .i64 b.v.mi,.int .i64 b.v.pa,.slice xa b.v.pre.length xc]:List Value)[k]? =some u→hcell H ⟨g2,o2+k,none⟩=some u))|((with_reducible apply SemH.load_bnd);(exact hb2);(exact hx05.2);(conv=>whnf))|(refine(rholds_any b v hbb hv xa xc _ _ hxl (hxr.ext (hx05.2.trans (by exact Vc.xt))) (hy.ext (hx05.2.trans (by exact Vc.xt)))).mono ?_;rintro _ H8 ⟨rfl,hx8⟩;have hz8:=hx8.size)|refine Vc.stp ?_)<;>(intros;(conv=>whnf)))))
      all_goals first|exact⟨⟨k+1,false,false⟩,⟨rfl,rfl,rfl,trivial⟩,⟨hkl,by rw[hall];rfl,hnear,hx5.trans (by exact Vc.xt)⟩,by show l.length-(k+1)<l.length-k;omega⟩|exact⟨⟨k+1,holdsP b v,false⟩,⟨rfl,rfl,rfl,trivial⟩,⟨hkl,hall,hnear,hx5.trans (by exact Vc.xt)⟩,by show l.length-(k+1)<l.length-k;omega⟩
   ·rw[List.drop_of_length_le (by omega),List.all_nil,Bool.and_true]at hall
    rw[List.drop_of_length_le (by omega),List.any_nil,Bool.or_false]at hnear
    have hor:orB v l=(ok&&nm):=by unfold orB;rw[hall,hnear]
    rw[hor]at hinv
    cases ok<;>cases nm
    all_goals((conv=>whnf);repeat(any_goals((first|(refine IdxA.el bnds_ok (by decide) hr hn i l rfl hli ?_;intro g1 o1 c1 hcL hcl1;obtain⟨la,lc,ec1,hlc,hlr⟩:=(id hcL);have hc1:hcell H ⟨g1,o1,none⟩=some (Value.slice la l.length lc):=(by have:=hcl1 0 _ (by rw[ec1];rfl);exact this))|refine Vc.stp ?_)<;>(intros;(conv=>whnf)))))
    all_goals first|exact⟨i+1,⟨rfl,trivial⟩,⟨by omega,hinv,hx5⟩,by omega⟩|exact⟨by rw[hinv];rfl,hx05.2⟩
  ·obtain rfl:i=n:=by omega
   rw[List.drop_of_length_le (by omega),List.any_nil]at hinv
   subst hinv
   ((conv=>whnf);repeat(any_goals((first|refine Vc.stp ?_)<;>(intros;(conv=>whnf)))))
   exact⟨rfl,hx03.2⟩
theorem pin_ver {c:List Value} {n x1 x2 x3 x4:Value} {X:List Value} (e:c=[n,x1,x2,x3,x4]++X): ∀ k u,([x1,x2,x3,x4]:List Value)[k]? =some u→c[k+1]? =some u:=by
 subst e
 intro k u hu
 match k,hu with
 |0,hu=>exact hu
 |1,hu=>exact hu
 |2,hu=>exact hu
 |3,hu=>exact hu
theorem SemH.load_pin {H H0:Heap} {b o:Nat} {c:List Value} {K:Value→Heap→Prop} (hl:c.length=37) (hc: ∀ k u,c[k]? =some u→hcell H0 ⟨b,o+k,none⟩=some u) (he:Ext H0 H) (hk:K (.agg c.toArray) H):SemH Tryz.prog (Instr.loadAt 52 (.pointer (some ⟨b,o,none⟩))) H K:=by
 have:=Go.Vc.SemH.load_agg (P:=Tryz.prog) (t:=52) (H:=H) (b:=b) (o:=o) (vs:=c) (K:=K) rfl rfl (by rw[hl];rfl) (fun j u hu=>hcell_keep (hc j u hu) he id) hk
 exact this
def pinZ:Array Value:= #[.string ⟨#[]⟩,.int .i64 0,.int .i64 0,.int .i64 0,.slice none 0 0]++Array.replicate 32 (.int .u8 0)
def PinR (H:Heap) (x:Value):Option PinP→Prop
 |some p=>∃ c,x= .tuple #[.agg c.toArray,.bool true]∧pinE H p c
 |none=>x= .tuple #[.agg pinZ,.bool false]
abbrev findP (P:List PinP) (k:Txt):Option PinP:=P.find? fun p=>p.name==k
theorem findP_at {P:List PinP} {k:Txt} {i:Nat} {p:PinP} (hp:P[i]? =some p) (h:p.name=k) (hno: ∀ j q,j<i→P[j]? =some q→q.name≠k):findP P k=some p:=by
 obtain⟨hi,e⟩:=List.getElem?_eq_some_iff.1 hp
 refine List.find?_eq_some_iff_getElem.2 ⟨by simpa using h,i,hi,e,fun j hj=> ?_⟩
 have:=hno j P[j] hj (List.getElem?_eq_getElem (by omega))
 simpa using this
theorem findP_no {P:List PinP} {k:Txt} (hno: ∀ j q,j<P.length→P[j]? =some q→q.name≠k):findP P k=none:=by
 unfold findP
 rw[List.find?_eq_none]
 intro q hq
 obtain⟨j,hj⟩:=List.getElem?_of_mem hq
 have:=hno j q (List.getElem?_eq_some_iff.1 hj).1 hj
 simpa using this
set_option maxHeartbeats 4000000 in
theorem rpin_any (P:List PinP) (k:Bs) (a:Option Addr) (n cap:Nat) (H0 H:Heap) (k0:Ext H0 H) (hr:RowE pinE H0 a P) (hn:P.length=n) (hnl:n≤1000000):CallH Tryz.prog 59 [.slice a n cap,.string (mkS k)] H fun x H'=>PinR H0 x (findP P k)∧Ext H H':=by
 obtain⟨I,hI⟩: ∃ I,findP P k=I:=⟨_,rfl⟩
 rw[hI]
 refine Vc.CallH.body Tryz.func59 Tryz.call59 rfl (by decide+kernel) rfl ?_
 ((conv=>whnf);repeat(any_goals((first|refine Vc.stp ?_)<;>(intros;(conv=>whnf)))))
 rename_i H1 z1 g1 x1
 refine LoopH.intro (fun(i:Nat)=>[(6,.int .i64 i)]) (fun i H'=>H1=H'∧i≤n∧ ∀ j q,j<i→P[j]? =some q→q.name≠k) (fun i=>n-i) 0 ⟨rfl,trivial⟩ ⟨rfl,Nat.zero_le _,fun j q h=>absurd h (Nat.not_lt_zero _)⟩ ?_
 rintro i _ ⟨rfl,hi,hno⟩
 by_cases hlt:i<n
 ·obtain⟨p,hpi⟩: ∃ p,P[i]? =some p:=⟨_,List.getElem?_eq_getElem (by omega)⟩
  have e1:((mkS p.name).toList==(mkS k).toList)=decide (p.name=k):=str_mk _ _
  by_cases hk:p.name=k
  ·rw[decide_eq_true hk]at e1
   rw[←hI,findP_at hpi hk hno]
   ((conv=>whnf);repeat(any_goals((first|(refine IdxA.el pin_ok (by decide) hr hn i p rfl hpi ?_;intro b o c hcP hcl;obtain⟨pa,pc,ec,h32,hpl,hpr⟩:=(id hcP);have hc0:hcell _ ⟨b,o+0,none⟩=some (Value.string (mkS p.name)):=hcl 0 _ (by rw[ec];rfl))|((with_reducible apply SemH.load_pin);(exact pin_ok.len hcP);(exact hcl);(exact k0.trans x1);(conv=>whnf))|((with_reducible apply SemH.load_pin);(exact pin_ok.len hcP);(exact hb5);(exact Ext.refl _);(conv=>whnf))|(refine DoH.store_all g1 rfl (by(show(List.toArray _).size=37;rw[List.size_toArray,pin_ok.len hcP])) (by(show 37=(List.toArray _).size;rw[List.size_toArray,pin_ok.len hcP])) (fun u hu=>pin_ok.plain hcP u (by simpa using hu)) ?_;intro H5 z5 b5 k5;have hb5: ∀ (k:Nat) (u:Value),c[k]? =some u→hcell H5 ⟨H.size,0+k,none⟩=some u:=fun k u hu=>(by rw[b5.cell,Nat.zero_add];simpa using hu))|refine Vc.stp ?_)<;>(intros;(conv=>whnf)))))
   exact⟨⟨c,rfl,hcP⟩,x1.but k5 (Nat.le_refl _)⟩
  ·rw[decide_eq_false hk]at e1
   ((conv=>whnf);repeat(any_goals((first|(refine IdxA.el pin_ok (by decide) hr hn i p rfl hpi ?_;intro b o c hcP hcl;obtain⟨pa,pc,ec,h32,hpl,hpr⟩:=(id hcP);have hc0:hcell _ ⟨b,o+0,none⟩=some (Value.string (mkS p.name)):=hcl 0 _ (by rw[ec];rfl))|((with_reducible apply SemH.load_pin);(exact pin_ok.len hcP);(exact hcl);(exact k0.trans x1);(conv=>whnf))|((with_reducible apply SemH.load_pin);(exact pin_ok.len hcP);(exact hb5);(exact Ext.refl _);(conv=>whnf))|(refine DoH.store_all g1 rfl (by(show(List.toArray _).size=37;rw[List.size_toArray,pin_ok.len hcP])) (by(show 37=(List.toArray _).size;rw[List.size_toArray,pin_ok.len hcP])) (fun u hu=>pin_ok.plain hcP u (by simpa using hu)) ?_;intro H5 z5 b5 k5;have hb5: ∀ (k:Nat) (u:Value),c[k]? =some u→hcell H5 ⟨H.size,0+k,none⟩=some u:=fun k u hu=>(by rw[b5.cell,Nat.zero_add];simpa using hu))|refine Vc.stp ?_)<;>(intros;(conv=>whnf)))))
   exact⟨i+1,⟨rfl,trivial⟩,⟨rfl,by omega,fun j q hj hq=>by
    by_cases e:j=i
    ·subst e;rw[hpi]at hq;cases hq;exact hk
    ·exact hno j q (by omega) hq⟩,by omega⟩
 ·obtain rfl:i=n:=by omega
  rw[←hI,findP_no fun j q hj hq=>hno j q (by omega) hq]
  ((conv=>whnf);repeat(any_goals((first|(refine PureH.build0 pinZ (by kernel_rfl) ?_)|refine Vc.stp ?_)<;>(intros;(conv=>whnf)))))
  rename_i H5 z5 b5 k5
  exact⟨rfl,x1.but k5 (Nat.le_refl _)⟩
end Go.Proofs.YtjdieklgoepdjaaGreatDoor
namespace Go.Vc
theorem DoH.store_list {P:Program} {H:Heap} {t e:TypeId} {i:TypeInfo} {b:Nat} {c0:Array Value} {c:List Value} {K:Heap→Prop} (hb:Blk H b c0 e) (hi:P.info? t=some i) (hn:c.length=i.size) (hc:c0.size=c.length) (hp: ∀ u∈c,plainV u=true)
  (hk: ∀ H',H'.size=H.size→Blk H' b c.toArray e→But b H H'→K H'):DoH P (Instr.storeAt t (.pointer (some ⟨b,0,none⟩)) (.agg c.toArray)) H K:=
 DoH.store_all hb hi (by simpa using hn) (by simpa using hc) (by simpa using hp) hk
theorem blk_list {H:Heap} {b:Nat} {c:List Value} {T:TypeId} (h:Blk H b c.toArray T) (o:Nat): ∀ (k:Nat) (u:Value),c[o+k]? =some u→hcell H ⟨b,o+k,none⟩=some u:=fun k u hu=>by
 rw[h.cell];simpa using hu
end Go.Vc
namespace Go.Proofs.YtjdieklgoepdjaaGreatDoor
open Go Go.Vc Go.Scr Go.Slv
theorem pin_ver1 {c:List Value} {n x1 x2 x3 x4:Value} {X:List Value} (e:c=[n,x1,x2,x3,x4]++X): ∀ k u,([x1,x2,x3,x4]:List Value)[k]? =some u→c[1+k]? =some u:=fun k u hu=>by
 rw[Nat.add_comm];exact pin_ver e k u hu
def metB (P:List PinP) (n:NeedP):Bool:=match findP P n.name with
 |some p=>hasP n.span p.v
 |none=>false
def NedO (H:Heap) (n:NeedP) (x:Value):Prop:=∃ c,x= .agg c.toArray∧needE H n c
theorem SemH.load_need {H H0:Heap} {b o:Nat} {c:List Value} {K:Value→Heap→Prop} (hl:c.length=4) (hc: ∀ k u,c[k]? =some u→hcell H0 ⟨b,o+k,none⟩=some u) (he:Ext H0 H) (hk:K (.agg c.toArray) H):SemH Tryz.prog (Instr.loadAt 45 (.pointer (some ⟨b,o,none⟩))) H K:=by
 have:=Go.Vc.SemH.load_agg (P:=Tryz.prog) (t:=45) (H:=H) (b:=b) (o:=o) (vs:=c) (K:=K) rfl rfl (by rw[hl];rfl) (fun j u hu=>hcell_keep (hc j u hu) he id) hk
 exact this
theorem SemH.load_spn {H H0:Heap} {b o:Nat} {u v:Value} {K:Value→Heap→Prop} (hc: ∀ k w,([u,v]:List Value)[k]? =some w→hcell H0 ⟨b,o+k,none⟩=some w) (he:Ext H0 H) (hk:K (.agg #[u,v]) H):SemH Tryz.prog (Instr.loadAt 43 (.pointer (some ⟨b,o,none⟩))) H K:=by
 have:=Go.Vc.SemH.load_agg (P:=Tryz.prog) (t:=43) (H:=H) (b:=b) (o:=o) (vs:=[u,v]) (K:=K) rfl rfl rfl (fun j u hu=>hcell_keep (hc j u hu) he id) hk
 exact this
theorem need_cells {H:Heap} {g:Nat} {s t x y:Value} {T:TypeId} (h:Blk H g #[s,x,y,t] T): ∀ (k:Nat) (u:Value),([x,y]:List Value)[k]? =some u→hcell H ⟨g,1+k,none⟩=some u:=fun k u hu=>by
 rw[h.cell]
 match k,hu with
 |0,hu=>exact hu
 |1,hu=>exact hu
set_option maxHeartbeats 4000000 in
theorem rmet_any (n:NeedP) (P:List PinP) (hnb:SpnB n.span) (hP: ∀ p∈P,VerB p.v) (x:Value) (a:Option Addr) (m cap:Nat) (H:Heap) (hx:NedO H n x) (hr:RowE pinE H a P) (hm:P.length=m) (hml:m≤1000000):CallH Tryz.prog 90 [x,.slice a m cap] H fun v H'=>v= .bool (metB P n)∧Ext H H':=by
 obtain⟨c,rfl,hc⟩:=hx
 obtain⟨na,nc,ec,hnl,hnr⟩:=(id hc)
 subst ec
 have hpin:=fun H hr=>rpin_any P n.name a m cap H H (Ext.refl _) hr hm hml
 unfold metB
 refine Vc.CallH.body Tryz.func90 Tryz.call90 rfl (by decide+kernel) rfl ?_
 cases hf:findP P n.name with
 |none=>
  rw[hf]at hpin
  ((conv=>whnf);repeat(any_goals((first|(refine(hpin _ (hr.ext pin_ok (by exact Vc.xt))).mono ?_;rintro _ H2 ⟨rfl,hx2⟩;have hz2:=hx2.size)|(rename_i Hl zl bl xl;refine DoH.store_all bl rfl (by kernel_rfl) (by kernel_rfl) (by decide) ?_;intro H3 z3 b3 k3)|refine Vc.stp ?_)<;>(intros;(conv=>whnf)))))
  exact⟨rfl,by exact Vc.xt⟩
 |some p=>
  rw[hf]at hpin
  have hpv:=hP p (List.mem_of_find?_eq_some hf)
  ((conv=>whnf);repeat(any_goals((first|(refine(hpin _ (hr.ext pin_ok (by exact Vc.xt))).mono ?_;rintro _ H2 ⟨⟨cp,rfl,hcp⟩,hx2⟩;have hz2:=hx2.size)|(rename_i Hl zl bl xl;refine DoH.store_list bl rfl (by rw[pin_ok.len hcp];rfl) (by rw[pin_ok.len hcp];rfl) (pin_ok.plain hcp) ?_;intro H3 z3 b3 k3;obtain⟨pa,pc,ecp,h32,hpl,hpr⟩:=(id hcp);have hcv:=fun k u hu=>blk_list b3 1 k u (pin_ver1 ecp k u hu))|((with_reducible apply SemH.load_spn);(exact need_cells (by assumption));(exact hx2.trans (by exact Vc.xt));(conv=>whnf))|((with_reducible apply SemH.load_ver);(exact hcv);(exact Ext.refl _);(conv=>whnf))|(refine(rhas_any n.span p.v hnb hpv na _ nc _ _ (hnr.ext bnds_ok (by exact Vc.xt)) rfl (verO_of hpl (hpr.ext (by exact Vc.xt)))).mono ?_;rintro _ H4 ⟨rfl,hx4⟩;have hz4:=hx4.size)|refine Vc.stp ?_)<;>(intros;(conv=>whnf)))))
  exact⟨rfl,by exact Vc.xt⟩
theorem SemH.load_key2 {H H0:Heap} {b o:Nat} {l:List UInt8} {K:Value→Heap→Prop} (hl:l.length=32) (hc: ∀ k u,(strV l)[k]? =some u→hcell H0 ⟨b,o+k,none⟩=some u) (he:Ext H0 H) (hk:K (.agg (strV l).toArray) H):SemH Tryz.prog (Instr.loadAt 50 (.pointer (some ⟨b,o,none⟩))) H K:=by
 have:=Go.Vc.SemH.load_agg (P:=Tryz.prog) (t:=50) (H:=H) (b:=b) (o:=o) (vs:=strV l) (K:=K) rfl rfl (by rw[strV_length,hl];rfl) (fun j u hu=>hcell_keep (hc j u hu) he id) hk
 exact this
theorem row_sum {c:List Value} {n x1 x2 x3 x4:Value} {X Y:List Value} (e:c=[n,x1,x2,x3,x4]++X++Y): ∀ k u,X[k]? =some u→c[5+k]? =some u:=fun k u hu=>by
 subst e
 rw[List.append_assoc,List.getElem?_append_right (by show 5≤5+k;omega),show 5+k- [n,x1,x2,x3,x4].length=k by show 5+k-5=k;omega,List.getElem?_append_left (List.getElem?_eq_some_iff.1 hu).1]
 exact hu
theorem pin_sum {c:List Value} {n x1 x2 x3 x4:Value} {X:List Value} (e:c=[n,x1,x2,x3,x4]++X): ∀ k u,X[k]? =some u→c[5+k]? =some u:=fun k u hu=>row_sum (Y:=[]) (by rw[List.append_nil];exact e) k u hu
theorem row_last {c:List Value} {n x1 x2 x3 x4 z w:Value} {X:List Value} (e:c=[n,x1,x2,x3,x4]++X++[z,w]) (h:X.length=32):c[37]? =some z∧c[38]? =some w:=by
 subst e
 constructor
 ·rw[List.getElem?_append_right (by rw[List.length_append,h];show 37≤37;omega),List.length_append,h];rfl
 ·rw[List.getElem?_append_right (by rw[List.length_append,h];show 37≤38;omega),List.length_append,h];rfl
def RowR (H:Heap) (R:List RowP) (p:PinP) (x:Value):Option Nat→Prop
 |some i=>∃ r c,R[i]? =some r∧x= .tuple #[.agg c.toArray,.bool (decide (r.sum=p.sum))]∧rowE H r c
 |none=>x= .tuple #[.agg rowZ,.bool false]
set_option maxHeartbeats 4000000 in
theorem rrow_any (R:List RowP) (p:PinP) (hp:VerB p.v) (hR: ∀ r∈R,VerB r.v) (a:Option Addr) (n cap:Nat) (c:List Value) (H0 H:Heap) (k0:Ext H0 H) (hr:RowE rowE H0 a R) (hn:R.length=n) (hnl:n≤1000000) (hc:pinE H0 p c):
  CallH Tryz.prog 88 [.slice a n cap,.agg c.toArray] H fun x H'=>RowR H0 R p x (idxR R p.name p.v)∧Ext H H':=by
 obtain⟨pa,pc,ec,h32,hpl,hpr⟩:=(id hc)
 obtain⟨I,hI⟩: ∃ I,idxR R p.name p.v=I:=⟨_,rfl⟩
 have hfind:=fun H k y hy=>rfind_any R p.name p.v hp hR a n cap y H0 H k hr hn hnl hy
 rw[hI]at hfind ⊢
 refine Vc.CallH.body Tryz.func88 Tryz.call88 rfl (by decide+kernel) rfl ?_
 ((conv=>whnf);repeat(any_goals((first|refine Vc.stq ?_|refine Vc.spl ?_ ?_)<;>(intros;(conv=>whnf)))))
 rename_i H1 z1 b1 x1 H2 z2 b2 x2
 have b1:Blk H1 H.size c.toArray 52:=b1
 have hp0:hcell H1 ⟨H.size,0+0,none⟩=some (Value.string (mkS p.name)):=blk_list b1 0 0 _ (by rw[ec];rfl)
 have hpv:=fun k u hu=>blk_list b1 1 k u (pin_ver1 ec k u hu)
 have hps:=fun k u hu=>blk_list b1 5 k u (pin_sum ec k u hu)
 cases I with
 |none=>
  ((conv=>whnf);repeat(any_goals((first|((with_reducible apply SemH.load_ver);(exact hpv);(exact x2);(conv=>whnf))|(refine(hfind _ (k0.trans (x1.trans x2)) _ (verO_of hpl (hpr.ext (k0.trans (x1.trans x2))))).mono ?_;rintro _ H3 ⟨⟨rfl⟩,hx3⟩;have hz3:=hx3.size)|(rename_i Hl zl bl xl;refine DoH.store_all bl rfl (by kernel_rfl) (by kernel_rfl) (by decide) ?_;intro H4 z4 b4 k4)|(refine DoH.store_all (((b2.ext hx3).ext xl).but k4 (by omega)) rfl (by kernel_rfl) (by kernel_rfl) (by decide) ?_;intro H5 z5 b5 k5)|((with_reducible refine Vc.DrawH.held [0,1,2,3,4,5,6,7,8,9,10] [(9,[4,6])] mixed (by decide+kernel) ?_))|refine Vc.stp ?_)<;>(intros;(conv=>whnf)))))
  exact⟨rfl,x1.trans ((x2.trans (hx3.trans (xl.but k4 (by omega)))).but k5 (Nat.le_refl _))⟩
 |some i=>
  ((conv=>whnf);repeat(any_goals((first|((with_reducible apply SemH.load_ver);(exact hpv);(exact x2);(conv=>whnf))|(refine(hfind _ (k0.trans (x1.trans x2)) _ (verO_of hpl (hpr.ext (k0.trans (x1.trans x2))))).mono ?_;rintro _ H3 ⟨⟨r,cr,hri,rfl,hcr⟩,hx3⟩;have hz3:=hx3.size;obtain⟨ra,rc,na,nc,er,r32,hrl,hrr,hnl2,hnr⟩:=(id hcr))|(rename_i Hl zl bl xl;refine DoH.store_list bl rfl (by rw[row_ok.len hcr];rfl) (by rw[row_ok.len hcr];rfl) (row_ok.plain hcr) ?_;intro H4 z4 b4 k4;have hrs:=fun k u hu=>blk_list b4 5 k u (row_sum er k u hu);have hrw:=fun k u hu=>blk_list b4 0 k u (by rw[Nat.zero_add];exact hu))|((with_reducible apply SemH.load_irow);(exact row_ok.len hcr);(exact hrw);(exact Ext.refl _);(conv=>whnf))|((with_reducible apply SemH.load_key2);(exact r32);(exact hrs);(exact Ext.refl _);(conv=>whnf))|((with_reducible apply SemH.load_key2);(exact h32);(exact hps);(exact x2.trans (by exact Vc.xt));(conv=>whnf))|((with_reducible apply PureH.eql_bytes);rfl;rfl;rfl;rfl;(focus(kernel_rfl));(exact r32);(exact h32);(conv=>whnf))|(refine DoH.store_list (((b2.ext hx3).ext xl).but k4 (by omega)) rfl (by rw[row_ok.len hcr];rfl) (by rw[row_ok.len hcr];rfl) (row_ok.plain hcr) ?_;intro H5 z5 b5 k5;have hrw5:=fun k u hu=>blk_list b5 0 k u (by rw[Nat.zero_add];exact hu);have b45:=b4.but k5 (by omega);have hrs5:=fun k u hu=>blk_list b45 5 k u (row_sum er k u hu);have b15:=(((b1.ext x2).ext hx3).ext (xl.but k4 (by omega))).but k5 (by have:=b1.lt;omega);have hps5:=fun k u hu=>blk_list b15 5 k u (pin_sum ec k u hu))|((with_reducible apply Vc.StillsH.load);rfl;rfl;rfl;rfl;rfl;rfl;(focus((first|exact SemH.load_key2 r32 hrs5 (Ext.refl _) rfl|exact SemH.load_key2 h32 hps5 (Ext.refl _) rfl)));(conv=>whnf))|((with_reducible apply SemH.load_irow);(exact row_ok.len hcr);(exact hrw5);(exact Ext.refl _);(conv=>whnf))|((with_reducible refine Vc.DrawH.held [0,1,2,3,4,5,6,7,8,9,10] [(9,[4,6])] mixed (by decide+kernel) ?_))|refine Vc.stp ?_)<;>(intros;(conv=>whnf)))))
  exact⟨⟨r,cr,hri,by rw[show decide (r.sum=p.sum)=(r.sum==p.sum)by rw[Bool.eq_iff_iff,decide_eq_true_eq,beq_iff_eq]];rfl,hcr⟩,x1.trans ((x2.trans (hx3.trans (xl.but k4 (by omega)))).but k5 (Nat.le_refl _))⟩
theorem rin_any (l:List Bs) (k:Bs) (a:Option Addr) (n cap:Nat) (H:Heap) (hr:Row H a (strs l)) (hn:l.length=n) (hnl:n≤1000000000):CallH Tryz.prog 61 [.slice a n cap,.string (mkS k)] H fun x H'=>x= .bool (decide (k∈l))∧H=H':=by
 refine Vc.CallH.body Tryz.func61 Tryz.call61 rfl (by decide+kernel) rfl ?_
 ((conv=>whnf);repeat(any_goals((first|refine Vc.stp ?_)<;>(intros;(conv=>whnf)))))
 refine LoopH.intro (fun(i:Nat)=>[(5,.int .i64 i)]) (fun i H'=>H=H'∧i≤n∧k∉l.take i) (fun i=>n-i) 0 ⟨rfl,trivial⟩ ⟨rfl,Nat.zero_le _,by simp⟩ ?_
 rintro i _ ⟨rfl,hi,hno⟩
 by_cases hlt:i<n
 ·obtain⟨w,hw⟩: ∃ w,l[i]? =some w:=⟨_,List.getElem?_eq_getElem (by omega)⟩
  have e1:((mkS w).toList==(mkS k).toList)=decide (w=k):=str_mk _ _
  by_cases hk:w=k
  ·rw[decide_eq_true hk]at e1
   rw[decide_eq_true (by rw[←hk];exact List.mem_of_getElem? hw)]
   ((conv=>whnf);repeat(any_goals((first|(refine IdxA.strv hr hn i w rfl hw ?_;intro _ _ _ _ _)|refine Vc.stp ?_)<;>(intros;(conv=>whnf)))))
   exact⟨rfl,rfl⟩
  ·rw[decide_eq_false hk]at e1
   ((conv=>whnf);repeat(any_goals((first|(refine IdxA.strv hr hn i w rfl hw ?_;intro _ _ _ _ _)|refine Vc.stp ?_)<;>(intros;(conv=>whnf)))))
   exact⟨i+1,⟨rfl,trivial⟩,⟨rfl,by omega,by rw[List.take_add_one,hw];simp[hno];exact fun e=>hk e.symm⟩,by omega⟩
 ·rw[List.take_of_length_le (by omega)]at hno
  rw[decide_eq_false hno]
  ((conv=>whnf);repeat(any_goals((first|refine Vc.stp ?_)<;>(intros;(conv=>whnf)))))
  exact⟨rfl,rfl⟩
end Go.Proofs.YtjdieklgoepdjaaGreatDoor
namespace Go.Vc
theorem NextH.app0 {P:Program} {H:Heap} {t u e ty:TypeId} {i:TypeInfo} {a a2:Option Addr} {n cap c:Nat} {cb:Array Bool} {K:Value→Heap→Prop}
  (ht:P.underlying t=some (.slice e)) (hu: ∃ d,P.underlying u=some d∧(∀ k,d≠ .int k)) (hi:P.info? e=some i) (hn:n≤cap) (hk:K (.slice a n cap) H):
  NextH P (builtin .append #[t,u] ty cb #[.slice a n cap,.slice a2 0 c]) H K:=by
 refine⟨fun w hw=> ?_⟩
 obtain⟨d,hu,hd⟩:=hu
 have hzero:(match d with| .int _=>true|_=>false)=false:=by cases d<;>first|rfl|exact absurd rfl (hd _)
 have hsrc:Src P H (.slice a2 0 c) i.size 0 []:=Src.row (Row.nil _ _) (by simp) (by simp)
 have hr:(Builtin.append_ #[t,u] ty #[.slice a n cap,.slice a2 0 c]).run P w= .ok (.slice a n cap) w:=by
  cases a<;>simp[Builtin.append_,underlying_of ht,underlying_of hu,sizeOf_of hi,hzero,hsrc.lenOf,hsrc.first w hw,hn,storeCells]
 simp only[builtin,Sem.run_bind,hr,Result.andThen_ok]
 exact⟨Same.refl w,by rw[hw];exact hk⟩
theorem RowE.const {α:Type} {E:Heap→α→List Value→Prop} {H:Heap} {a:Option Addr} {l:List α} (h:RowE E H a l):RowE (constE E H) H a l:=by
 obtain⟨vs,h1,h2⟩:=h.out
 refine⟨vs,h1,?_⟩
 clear h1 h
 induction h2 with
 |nil=>exact .nil
 |cons h _ ih=>exact .cons h ih
end Go.Vc
namespace Go.Slv
open Go.Scr Go.Tre
structure Gath (R:List RowP) (N:List NeedP) (P:List PinP) (W:List NeedP) (i:Nat) (out:List Txt):Prop where
 le:i≤W.length
 root: ∀ n∈N,n∈W
 reach: ∀ n∈W,ReachP R N P n.name
 nodup:out.Nodup
 told: ∀ k∈out,ReachP R N P k∧ ∃ p∈P,p.name=k
 done: ∀ n∈W.take i,n.name∈out∨ ∀ p∈P,p.name≠n.name
 step: ∀ r∈R,pinR r∈P→r.name∈out→ ∀ n∈r.needs,n∈W
theorem gath_nil (R:List RowP) (N:List NeedP) (P:List PinP):Gath R N P N 0 []:=⟨Nat.zero_le _,fun n h=>h,fun n h=> .root h,List.nodup_nil,fun k h=>(by cases h),fun n h=>(by rw[List.take_zero]at h;cases h),fun r _ _ h=>(by cases h)⟩
theorem Gath.skip {R:List RowP} {N:List NeedP} {P:List PinP} {W:List NeedP} {i:Nat} {out:List Txt} (h:Gath R N P W i out) {n:NeedP} (hn:W[i]? =some n) (hd:n.name∈out∨ ∀ p∈P,p.name≠n.name):Gath R N P W (i+1) out:=
 ⟨(List.getElem?_eq_some_iff.1 hn).1,h.root,h.reach,h.nodup,h.told,fun m hm=>by
  rw[List.take_add_one,hn]at hm
  rcases List.mem_append.1 hm with hm|hm
  ·exact h.done m hm
  ·simp at hm;subst hm;exact hd,h.step⟩
theorem Gath.push {R:List RowP} (ha:Apart R) {N:List NeedP} {P:List PinP} (hs:SortP P) {W:List NeedP} {i:Nat} {out:List Txt} (h:Gath R N P W i out) {n:NeedP} (hn:W[i]? =some n) (hno:n.name∉out) {r:RowP} (hr:r∈R) (hp:pinR r∈P) (he:r.name=n.name):Gath R N P (W++r.needs) (i+1) (out++[n.name]):=by
 have hi:=(List.getElem?_eq_some_iff.1 hn).1
 have hrn:=h.reach n (List.mem_of_getElem? hn)
 refine⟨by rw[List.length_append];omega,fun m hm=>List.mem_append_left _ (h.root m hm),fun m hm=> ?_,?_,fun k hk=> ?_,fun m hm=> ?_,fun s hs' hsp hso m hm=> ?_⟩
 ·rcases List.mem_append.1 hm with hm|hm
  ·exact h.reach m hm
  ·exact .step (by rw[he];exact hrn) hr hp hm
 ·rw[List.nodup_append]
  exact⟨h.nodup,by simp,fun a ha' b hb e=>by rw[List.mem_singleton]at hb;subst hb;subst e;exact hno ha'⟩
 ·rcases List.mem_append.1 hk with hk|hk
  ·exact h.told k hk
  ·rw[List.mem_singleton]at hk;subst hk;exact⟨hrn,pinR r,hp,he⟩
 ·rw[List.take_append_of_le_length (by omega),List.take_add_one,hn]at hm
  rcases List.mem_append.1 hm with hm|hm
  ·rcases h.done m hm with g|g
   ·exact .inl (List.mem_append_left _ g)
   ·exact .inr g
  ·simp at hm;subst hm;exact .inl (by simp)
 ·rcases List.mem_append.1 hso with g|g
  ·exact List.mem_append_left _ (h.step s hs' hsp g m hm)
  ·rw[List.mem_singleton]at g
   have e1:(pinR s).name=(pinR r).name:=g.trans he.symm
   have h1:=find_sorted hs hsp
   have h2:=find_sorted hs hp
   rw[e1,h2]at h1
   have e2:pinR r=pinR s:=Option.some.inj h1
   have:s=r:=row_one ha hs' hr (congrArg PinP.name e2).symm (congrArg PinP.v e2).symm
   subst this
   exact List.mem_append_right _ hm
theorem Gath.all {R:List RowP} {N:List NeedP} {P:List PinP} (hs:SortP P) (hrow: ∀ p∈P,∃ r∈R,pinR r=p) {W:List NeedP} {out:List Txt} (h:Gath R N P W W.length out):out.length=P.length↔ ∀ p∈P,ReachP R N P p.name:=by
 have hnd:(P.map (·.name)).Nodup:=by
  rw[List.Nodup,List.pairwise_map]
  exact hs.imp fun h e=>lt_ne h e
 have hsub: ∀ k∈out,k∈P.map (·.name):=fun k hk=>by
  obtain⟨_,p,hp,rfl⟩:=h.told k hk
  exact List.mem_map.2 ⟨p,hp,rfl⟩
 have hle:out.length≤P.length:=by
  have:=Go.Vc.nodup_len h.nodup hsub
  rwa[List.length_map]at this
 have hdone: ∀ n∈W,n.name∈out∨ ∀ p∈P,p.name≠n.name:=fun n hn=>h.done n (by rw[List.take_length];exact hn)
 have hre: ∀ k,ReachP R N P k→ ∃ n∈W,n.name=k:=fun k hk=>by
  induction hk with
  |root hn=>exact⟨_,h.root _ hn,rfl⟩
  |step _ h1 h2 h3 ih=>
   obtain⟨n,hn,e⟩:=ih
   rcases hdone n hn with g|g
   ·rw[e]at g
    exact⟨_,h.step _ h1 h2 g _ h3,rfl⟩
   ·exact absurd e.symm (g _ h2)
 constructor
 ·intro e p hp
  apply Classical.byContradiction
  intro hno
  have hne:p.name∉out:=fun hm=>hno (h.told _ hm).1
  have:=Go.Vc.nodup_len (vis:=p.name::out) (l:=P.map (·.name)) (List.nodup_cons.2 ⟨hne,h.nodup⟩) (fun k hk=>by
   rcases List.mem_cons.1 hk with rfl|hk
   ·exact List.mem_map.2 ⟨p,hp,rfl⟩
   ·exact hsub k hk)
  rw[List.length_map,List.length_cons]at this
  omega
 ·intro hall
  have:(P.map (·.name)).length≤out.length:=Go.Vc.nodup_len hnd fun k hk=>by
   obtain⟨p,hp,rfl⟩:=List.mem_map.1 hk
   obtain⟨n,hn,e⟩:=hre _ (hall p hp)
   rcases hdone n hn with g|g
   ·rw[←e];exact g
   ·exact absurd e.symm (g p hp)
  rw[List.length_map]at this
  omega
theorem Gath.len {R:List RowP} {N:List NeedP} {P:List PinP} {W:List NeedP} {i:Nat} {out:List Txt} (h:Gath R N P W i out):out.length≤P.length:=by
 have:=Go.Vc.nodup_len h.nodup (l:=P.map (·.name)) fun k hk=>by
  obtain⟨_,p,hp,rfl⟩:=h.told k hk
  exact List.mem_map.2 ⟨p,hp,rfl⟩
 rwa[List.length_map]at this
end Go.Slv
namespace Go.Vc
variable {P:Program} {H H':Heap}
theorem NextH.push1b {P:Program} {H:Heap} {base:Nat} {t u e ty:TypeId} {i:TypeInfo} {z v:Value} {a:Option Addr} {n cap g:Nat} {xs:List Value} {cb:Array Bool} {K:Value→Heap→Prop}
  (hlit:Blk H g #[v] e) (hown:Own H base e 1 a n cap xs) (hx:base≤H.size) (hn:n≤4000000000000) (ht:P.underlying t=some (.slice e)) (hu: ∃ d,P.underlying u=some d∧(∀ k,d≠ .int k)) (hi:P.info? e=some i) (hz:i.zero=some z) (hzs:z.cells.size=i.size) (h1:i.size=1)
  (hby:Nat.ble i.bytes 16=true) (h0:Nat.ble 1 i.bytes=true) (hp:plainV v=true)
  (hk: ∀ a' cap' H',Own H' base e 1 a' (n+1) cap' (xs++[v])→H.size≤H'.size→Wr a H H'→K (.slice a' (n+1) cap') H'):
  NextH P (builtin .append #[t,u] ty cb #[.slice a n cap,.slice (some ⟨g,0,none⟩) 1 1]) H K:=by
 have hby:=Nat.le_of_ble_eq_true hby
 have h0:=Nat.le_of_ble_eq_true h0
 have hown:Own H base e i.size a n cap xs:=by rw[h1];exact hown
 have hk: ∀ a' cap' H',Own H' base e i.size a' (n+1) cap' (xs++[v])→H.size≤H'.size→Wr a H H'→K (.slice a' (n+1) cap') H':=fun a' c' H' h=>hk a' c' H' (by rw[h1]at h;exact h)
 refine NextH.append (m:=1) (news:=[v]) ht hu hi hz hzs hown (Src.row (Blk.row (c:=[v]) hlit) (by rw[h1];rfl) (by simpa using hp)) (by unfold maxLen;omega) ?_ hx fun a' cap' H' h1 h2 _=>hk a' cap' H' h1 h2.size h2
 calc (n+1)*i.bytes≤(n+1)*16:=Nat.mul_le_mul_left _ hby
  _≤_:=by omega
theorem Own.low {H:Heap} {base:Nat} {e:TypeId} {size:Nat} {a:Option Addr} {n cap:Nat} {xs:List Value} (h:Own H base e size a n cap xs) {b:Nat} (hb:b<base): ¬ ∃ p,a=some p∧p.block=b:=fun⟨p,hp,e⟩=>by have:=(h.block p hp).1;omega
end Go.Vc
namespace Go.Proofs.YtjdieklgoepdjaaGreatDoor
open Go Go.Vc Go.Scr Go.Pth Go.Tre
end Go.Proofs.YtjdieklgoepdjaaGreatDoor
