import Derived.Test.YtjdieklgoepdjaaGreatDoorKh
import Derived.Test.YtjdieklgoepdjaaGreatDoorKg
import Derived.Test.YtjdieklgoepdjaaGreatDoorKc
import Derived.Test.YtjdieklgoepdjaaGreatDoorKp
set_option linter.unusedVariables false
set_option linter.unusedSimpArgs false
set_option maxRecDepth 100000
/- The code's search: it goes on till all that is needed is chosen. -/
namespace Go.Proofs.YtjdieklgoepdjaaGreatDoor
open Go Go.Vc Go.Scr Go.Slv
theorem choI_del {st:Stk} (h:(st.map (·.1)).Nodup) {k:Bs} (hk:k∉st.map (·.1)) (y:Nat):(fun j=>if j=k then none else choI (choS (st++[(k,y)])) j)=choI (choS st):=by
 funext j
 by_cases e:j=k
 ·have h2:choS st k=none:=choS_none.2 hk
  have h3:choI (choS st) k=none:=by unfold choI;rw[h2];rfl
  rw[if_pos e,e,h3]
 ·rw[if_neg e]
  unfold choI
  rw[choS_push h hk,if_neg e]
def GoR (x:SrC) (H0:Heap) (base:Nat) (f:Fix) (st:Stk) (H':Heap) (v:Value):Prop:=∃ left':Int,-1≤left'∧left'≤4194304∧
 ((v= .nilIface∧0≤left'∧ ∃ c',Sol x.R x.N c'∧Obey f c'∧SrO x H0 base H' f c' (asks (askedL x.R x.N st)) left')∨
  (ConfV v∧0≤left'∧NoSol x.R x.N f st∧SrO x H0 base H' f (choS st) (asks (askedL x.R x.N st)) left')∨
  (SpntV v∧x.free=false∧SrO x H0 base H' f (choS st) (asks (askedL x.R x.N st)) left'))
theorem RowL.fr {x:SrC} {H0 H H':Heap} {base:Nat} {f:Fix} {c:Cho} {g:Txt→List SpnP} {left:Int} (h:SrO x H0 base H f c g left) {a:Option Addr} {l:List Nat} (hr:RowL natE 3 H a l) (k:Fr (SrW x) base H H'):RowL natE 3 H' a l:=
 hr.keep nat_okT k fun b cc u hf hb hu=>by
  rcases hu with hu|hu
  ·rcases hf with hf|⟨_,c',hc'⟩
   ·have:=h.writes (hf.imp_right fun e=>e.imp_right .inl) hb
    rw[this]at hu;exact absurd hu (by decide)
   ·rw[hb.typ hc']at hu;exact absurd hu (by decide)
  ·exact hu
theorem Fr.ask {x:SrC} {base:Nat} {H H':Heap} (h:Fr (fun b=>b=x.A) base H H'):Fr (SrW x) base H H':=h.mono fun b e=> .inr (.inr e)
structure GoS where
 i:Nat
 why:Value
 left:Int
set_option maxHeartbeats 8000000 in
theorem go1_any (x:SrC) (hB:SrB x) (hfew:x.R.length≤80) {H0:Heap} {base:Nat} {f:Fix}: ∀ (m:Nat) (st:Stk) (H:Heap) (left:Int),(namesF x.R).length<st.length+m→Go.Slv.Good x.R x.N f st→SrO x H0 base H f (choS st) (asks (askedL x.R x.N st)) left→0≤left→left≤4194304→
  CallH Tryz.prog 116 [.pointer (some ⟨x.S,0,none⟩)] H fun v H'=>GoR x H0 base f st H' v∧Fr (SrW x) base H H':=by
 intro m
 induction m with
 |zero=>
  intro st H left hm hg
  have:=push_len hg
  omega
 |succ m ih=>
 intro st H left hm hg hS hl0 hl1
 have hstl:=push_len hg
 have hnl:=namesF_len x.R
 have hst:st.length≤80:=by omega
 refine Vc.CallH.body Tryz.func116 Tryz.call116 rfl (by decide+kernel) rfl ?_
 cases hfr:x.free
 case' true=>
  have hblk:Blk H x.S #[.slice x.ra x.R.length x.rc,.slice x.na x.N.length x.nc,.map (some x.B),.map (some x.F),.map (some x.C),.map (some x.A),.int .i64 left,.bool true] 157:=by
   have:=hS.blk;unfold srchC at this;rw[hfr]at this;exact this
  ((conv=>whnf);repeat(any_goals((first|refine Vc.stp ?_)<;>(intros;(conv=>whnf)))))
  have hf1:Fr (SrW x) base H H:=Fr.refl _ _ _
  have hS1:=hS
  have hl0':=hl0
  have hl1':=hl1
 case' false=>
  have hblk:Blk H x.S #[.slice x.ra x.R.length x.rc,.slice x.na x.N.length x.nc,.map (some x.B),.map (some x.F),.map (some x.C),.map (some x.A),.int .i64 left,.bool false] 157:=by
   have:=hS.blk;unfold srchC at this;rw[hfr]at this;exact this
  by_cases hle:left=0
  case' pos=>
   subst hle
   ((conv=>whnf);repeat(any_goals((first|(refine PureH.build0 #[] (by kernel_rfl) ?_)|refine Vc.stp ?_)<;>(intros;(conv=>whnf)))))
   rename_i H1 z1 b1 k1 H2 z2 b2 x2
   have hS1:SrO x H0 base H1 f (choS st) (asks (askedL x.R x.N st)) (-1):=hS.setLeft k1 (by
    unfold srchC;rw[hfr];exact b1)
   exact⟨⟨-1,by omega,by omega,.inr (.inr ⟨⟨_,rfl⟩,hfr,hS1.ext x2⟩)⟩,(Fr.but k1 (.inl rfl)).trans (Fr.of x2)⟩
  case' neg=>
   ((conv=>whnf);repeat(any_goals((first|refine Vc.stp ?_)<;>(intros;(conv=>whnf)))))
   rename_i H1 z1 b1 k1
   have hS1:SrO x H0 base H1 f (choS st) (asks (askedL x.R x.N st)) (left-1):=hS.setLeft k1 (by
    unfold srchC;rw[hfr];exact b1)
   have hf1:Fr (SrW x) base H H1:=Fr.but k1 (.inl rfl)
   have hl0':0≤left-1:=by omega
   have hl1':left-1≤4194304:=by omega
   clear hblk hS hl0 hl1 hle b1 k1
   obtain⟨left,hleft⟩: ∃ l,l=left-1:=⟨_,rfl⟩
   rw[←hleft]at hS1 hl0' hl1'
   clear hleft
 case' true=>clear hblk hS hl0 hl1
 all_goals
  refine(far_any x hB hS1 hg hst).mono ?_
  rintro _ H2 ⟨⟨nm,bb,rfl,hbt,hbf⟩,hx2⟩
  have hS2:=hS1.ext hx2
  have hf2:=hf1.trans (Fr.of (W:=SrW x) (base:=base) hx2)
  cases bb
  case' true=>
   obtain⟨i,hi,hnf⟩:=hbt rfl
   ((conv=>whnf);repeat(any_goals((first|(refine PureH.build1 #[.string (mkS nm),.nilIface] (by kernel_rfl) ?_)|refine Vc.stp ?_)<;>(intros;(conv=>whnf)))))
   rename_i H3 z3 b3 x3
   exact⟨⟨_,by omega,hl1',.inr (.inl ⟨⟨_,rfl⟩,hl0',fun d hd ho hf=>far_none hi hnf hd ho hf,hS2.ext x3⟩)⟩,hf2.trans (Fr.of x3)⟩
  have hbf:=hbf rfl
  clear hbt
  ((conv=>whnf);repeat(any_goals((first|refine Vc.stp ?_)<;>(intros;(conv=>whnf)))))
  refine(next_any x hB hS2).mono ?_
  rintro _ H3 ⟨⟨nm,rows,ra,rc,found,rfl,hrw,hrc,hft,hff⟩,hx3⟩
  have hS3:=hS2.ext hx3
  have hf3:=hf2.trans (Fr.of (W:=SrW x) (base:=base) hx3)
  cases found
  case' false=>
   have hff:=hff rfl
   have hall: ∀ n∈askedL x.R x.N st,n.name∈st.map (·.1):=fun n hn=>Classical.byContradiction fun h=>hff n.name (asks_ne.2 ⟨n,hn,rfl⟩) (choS_none.2 h)
   ((conv=>whnf);repeat(any_goals((first|refine Vc.stp ?_)<;>(intros;(conv=>whnf)))))
   exact⟨⟨_,by omega,hl1',.inl ⟨rfl,hl0',_,hg.sol hall,hg.obey hall hbf,hS3⟩⟩,hf3⟩
  obtain⟨hcn,hgn,hrows⟩:=hft rfl
  have hrwl:rows.length≤80:=by
   have h1:=List.length_filter_le (fitsB x.R f (asks (askedL x.R x.N st))) (candsF x.R nm x.R.length)
   have h2:=candsF_len x.R nm x.R.length
   rw[hrows];omega
  clear hff hbf hft
  have hnm:nm∉st.map (·.1):=choS_none.1 hcn
  have hask:=asks_ne.1 hgn
  have hmay:=fun y (h:y∈rows)=>row_may hB.apart (st:=st) (k:=nm) (i:=y) (by rw[hrows]at h;exact h)
  ((conv=>whnf);repeat(any_goals((first|(refine PureH.build1 #[.string (mkS nm),.nilIface] (by kernel_rfl) ?_)|refine Vc.stp ?_)<;>(intros;(conv=>whnf)))))
  rename_i H4 z4 b4 x4
  have hS4:=hS3.ext x4
  have hf4:=hf3.trans (Fr.of (W:=SrW x) (base:=base) x4)
  have hrw4:=RowL.ext nat_okT hrw x4
  refine LoopH.intro (fun(s:GoS)=>[(59,.int .i64 s.i),(8,s.why)]) (fun s H'=>s.i≤rows.length∧ConfV s.why∧0≤s.left∧s.left≤4194304∧SrO x H0 base H' f (choS st) (asks (askedL x.R x.N st)) s.left∧(∀ j∈rows.take s.i,NoSol x.R x.N f (st++[(nm,j)]))∧RowL natE 3 H' ra rows∧Fr (SrW x) base H H') (fun s=>rows.length-s.i) ⟨0,_,left⟩ ⟨rfl,rfl,trivial⟩ ⟨Nat.zero_le _,⟨_,rfl⟩,hl0',hl1',hS4,fun j h=>(by rw[List.take_zero]at h;cases h),hrw4,hf4⟩ ?_
  clear hS4 hf4 hrw4 hS3 hf3 hS2 hf2 hS1 hf1 hrw hl0' hl1' b4
  rintro⟨i,why,left5⟩ H5 ⟨hi,hwhy,hl0,hl1,hS5,hnos,hrw5,hf5⟩
  dsimp only at hi hwhy hl0 hl1 hS5 hnos ⊢
  by_cases hlt:i<rows.length
  ·obtain⟨y,hy⟩: ∃ y,rows[i]? =some y:=⟨_,List.getElem?_eq_getElem hlt⟩
   have hmy:=hmay y (List.mem_of_getElem? hy)
   obtain⟨r,hr,hrn,_⟩:=hmy.row
   have hblk5:searchB H5 x left5:=hS5.blk
   obtain⟨lc,hmc,hlc⟩:=hS5.cho
   have hrE5:=hrw5.to (fun _ _ h=>h)
   have hS:=hS5
   have hyl:y<x.R.length:=(List.getElem?_eq_some_iff.1 hr).1
   ((conv=>whnf);repeat(any_goals((first|(refine IdxA.el nat_okT.ok (by decide) hrE5 rfl i y rfl hy ?_;intro b o cc hcc hcl2;have hc0:hcell H5 ⟨b,o,none⟩=some (Value.int .i64 (y:Int)):=(by have:=hcl2 0 _ (by rw[hcc];rfl);exact this))|((fail_if_success (have:=hm6));refine DoH.mapPut hmc rfl rfl ?_;intro H6 z6 hm6 k6;have hblk6:searchB H6 x left5:=hblk5.but k6 (by have:=hS5.noS.1;exact this))|refine Vc.stp ?_)<;>(intros;(conv=>whnf)))))
   have hS6:SrO x H0 base H6 f (choS (st++[(nm,y)])) (asks (askedL x.R x.N st)) left5:=hS5.setCho k6 (by
    have h:=IntO.put hlc hm6
    have e:(fun j=>if j=nm then some (y:Int)else choI (choS st) j)=choI (choS (st++[(nm,y)])):=by
     funext j
     unfold choI
     rw[choS_push hg.nodup hnm]
     by_cases e:j=nm<;>simp[e]
    rw[e]at h;exact h)
   have hf6:Fr (SrW x) base H H6:=hf5.trans (Fr.but k6 (.inr (.inl rfl)))
   have hrw6:=RowL.fr hS5 hrw5 (Fr.but k6 (.inr (.inl rfl)))
   have hk6:Ext H0 H6:=hS6.h0
   have hrm:=List.mem_of_getElem? hr
   have hrnl:=hB.rows.needs r hrm
   have hny:=needsR_at hr
   have hcr: ∀ k j,choS (st++[(nm,y)]) k=some j→ ∃ r,x.R[j]? =some r:=fun k j h=>by
    have h:=choS_mem h
    rcases List.mem_append.1 h with h|h
    ·obtain⟨r',h1,_⟩:=hg.row _ h;exact⟨r',h1⟩
    ·rw[List.mem_singleton]at h;cases h;exact⟨r,hr⟩
   have haL: ∀ nd∈askedL x.R x.N st,SpnB nd.span:=fun nd h=>by
    rcases List.mem_append.1 h with h|h
    ·exact hB.span nd h
    ·obtain⟨q,_,h⟩:=List.mem_flatMap.1 h
     unfold needsR at h
     split at h
     ·rename_i r' hr'
      exact hB.rows.span r' (List.mem_of_getElem? hr') nd h
     ·cases h
   have hal:=asked_len hB.rows.needs hB.nlen hst
   have hlK: ∀ nd∈r.needs,nd.name∈allU x.R x.N:=fun nd h=>needsR_all (i:=y) (by rw[hny];exact h)
   clear hS hS5 hf5 hrw5 hrE5 hblk5
   have hS:=hS6
   ((conv=>whnf);repeat(any_goals((first|(refine IdxA.el row_ok (by decide) hS.rows rfl y r rfl hr ?_;intro b o c hcR hcl;obtain⟨pa,pc,na,nc,ec,h32,hpl,hpr,hnl2,hnr⟩:=(id hcR);have hcn:hcell H0 ⟨b,o+0,none⟩=some (Value.string (mkS r.name)):=hcl 0 _ (by rw[ec];rfl);have hcv:=(fun k u hu=>(by rw[Nat.add_assoc,Nat.add_comm 1 k];exact hcl (k+1) u (row_ver ec k u hu)): ∀ (k:Nat) (u:Value),([.int .i64 r.v.ma,.int .i64 r.v.mi,.int .i64 r.v.pa,.slice pa r.v.pre.length pc]:List Value)[k]? =some u→hcell H0 ⟨b,o+1+k,none⟩=some u);have hcnd:hcell H0 ⟨b,o+38,none⟩=some (Value.slice na r.needs.length nc):=hcl 38 _ (row_last ec (by rw[strV_length];exact h32)).2)|refine Vc.stp ?_)<;>(intros;(conv=>whnf)))))
   refine(ask_any x hB hS6 r.needs na _ nc hnr rfl hrnl (hB.rows.span r hrm) haL (by omega) hcr hlK).mono ?_
   rintro _ H7 ⟨⟨m7,b7,rfl,hm7l,hb7t,hb7f,hS7⟩,hf67⟩
   have hf7:=hf6.trans hf67.ask
   have hrw7:=RowL.fr hS6 hrw6 hf67.ask
   have hblk7:searchB H7 x left5:=hS7.blk
   have hk7:Ext H0 H7:=hS7.h0
   have hst':=push_nodup hg.nodup hnm y
   obtain⟨wp,rfl⟩:=hwhy
   have hdel:=choI_del hg.nodup hnm y
   have hntl:(r.needs.take m7).length=m7:=by rw[List.length_take];omega
   have hlKt: ∀ nd∈r.needs.take m7,nd.name∈allU x.R x.N:=fun nd h=>hlK nd (List.mem_of_mem_take h)
   cases b7
   case' true=>
    obtain⟨hm7e,hall⟩:=hb7t rfl
    have hsn:askedL x.R x.N (st++[(nm,y)])=askedL x.R x.N st++r.needs.take m7:=by rw[asked_snoc,hny,hm7e,List.take_length]
    have hS7':SrO x H0 base H7 f (choS (st++[(nm,y)])) (asks (askedL x.R x.N (st++[(nm,y)]))) left5:=by rw[hsn];exact hS7
    have hg7:Go.Slv.Good x.R x.N f (st++[(nm,y)]):=push_good hg hnm hmy hask fun nd h=>hall nd (by rw[←hny];exact h)
    ((conv=>whnf);repeat(any_goals((first|(refine PureH.build2 #[.string (mkS nm),.iface 165 (.pointer (some wp))] (by kernel_rfl) ?_)|refine Vc.stp ?_)<;>(intros;(conv=>whnf)))))
    rename_i H8 z8 b8 x8
    refine(ih (st++[(nm,y)]) H8 left5 (by rw[List.length_append];simp;omega) hg7 (hS7'.ext x8) hl0 hl1).mono ?_
    rintro v9 H9 ⟨⟨left9,hl9a,hl9b,hres⟩,hf89⟩
    have hf9:=(hf7.trans (Fr.of (W:=SrW x) (base:=base) x8)).trans hf89
    have hrw9:=RowL.fr (hS7'.ext x8) (RowL.ext nat_okT hrw7 x8) hf89
    rw[hsn]at hres
    clear hb7t hb7f hrw7 hf7 hf67 hblk7 hk7 hS7 hS7' hS6 hf6 hrw6 hk6 hblk6 hm6 k6 hS
    rcases hres with ⟨rfl,hl9,c',hs',ho',hS9⟩|⟨⟨p9,rfl⟩,hl9,hno9,hS9⟩|⟨⟨p9,rfl⟩,hfree,hS9⟩
    case' inl=>
     have hblk9:searchB H9 x left9:=hS9.blk
     have hk9:Ext H0 H9:=hS9.h0
     have hS:=hS9
     ((conv=>whnf);repeat(any_goals((first|(refine IdxA.el row_ok (by decide) hS.rows rfl y r rfl hr ?_;intro b o c hcR hcl;obtain⟨pa,pc,na,nc,ec,h32,hpl,hpr,hnl2,hnr⟩:=(id hcR);have hcn:hcell H0 ⟨b,o+0,none⟩=some (Value.string (mkS r.name)):=hcl 0 _ (by rw[ec];rfl);have hcv:=(fun k u hu=>(by rw[Nat.add_assoc,Nat.add_comm 1 k];exact hcl (k+1) u (row_ver ec k u hu)): ∀ (k:Nat) (u:Value),([.int .i64 r.v.ma,.int .i64 r.v.mi,.int .i64 r.v.pa,.slice pa r.v.pre.length pc]:List Value)[k]? =some u→hcell H0 ⟨b,o+1+k,none⟩=some u);have hcnd:hcell H0 ⟨b,o+38,none⟩=some (Value.slice na r.needs.length nc):=hcl 38 _ (row_last ec (by rw[strV_length];exact h32)).2)|(refine BndH.nat m7 rfl (by omega) ?_)|refine Vc.stp ?_)<;>(intros;(conv=>whnf)))))
     refine(back_any x (r.needs.take m7) hS9 na _ nc (hnr.take need_ok m7) hntl (by omega) hlKt).mono ?_
     rintro _ H10 ⟨hS10,hf910⟩
     ((conv=>whnf);repeat(any_goals((first|refine Vc.stp ?_)<;>(intros;(conv=>whnf)))))
     exact⟨⟨left9,hl9a,hl9b,.inl ⟨rfl,hl9,c',hs',ho',hS10⟩⟩,hf9.trans hf910.ask⟩
    case' inr.inr=>
     have hblk9:searchB H9 x left9:=hS9.blk
     have hk9:Ext H0 H9:=hS9.h0
     have hS:=hS9
     ((conv=>whnf);repeat(any_goals((first|(refine IdxA.el row_ok (by decide) hS.rows rfl y r rfl hr ?_;intro b o c hcR hcl;obtain⟨pa,pc,na,nc,ec,h32,hpl,hpr,hnl2,hnr⟩:=(id hcR);have hcn:hcell H0 ⟨b,o+0,none⟩=some (Value.string (mkS r.name)):=hcl 0 _ (by rw[ec];rfl);have hcv:=(fun k u hu=>(by rw[Nat.add_assoc,Nat.add_comm 1 k];exact hcl (k+1) u (row_ver ec k u hu)): ∀ (k:Nat) (u:Value),([.int .i64 r.v.ma,.int .i64 r.v.mi,.int .i64 r.v.pa,.slice pa r.v.pre.length pc]:List Value)[k]? =some u→hcell H0 ⟨b,o+1+k,none⟩=some u);have hcnd:hcell H0 ⟨b,o+38,none⟩=some (Value.slice na r.needs.length nc):=hcl 38 _ (row_last ec (by rw[strV_length];exact h32)).2)|(refine BndH.nat m7 rfl (by omega) ?_)|refine Vc.stp ?_)<;>(intros;(conv=>whnf)))))
     refine(back_any x (r.needs.take m7) hS9 na _ nc (hnr.take need_ok m7) hntl (by omega) hlKt).mono ?_
     rintro _ H10 ⟨hS10,hf910⟩
     obtain⟨lc10,hmc10,hlc10⟩:=hS10.cho
     have hblk10:searchB H10 x left9:=hS10.blk
     ((conv=>whnf);repeat(any_goals((first|((fail_if_success (have:=hm11));refine NextH.mapDelete hmc10 rfl rfl ?_;intro H11 z11 hm11 k11)|refine Vc.stp ?_)<;>(intros;(conv=>whnf)))))
     rename_i H12 z12 b12 x12
     have hS11:SrO x H0 base H11 f (choS st) (asks (askedL x.R x.N st)) left9:=hS10.setCho k11 (by
      have h:=IntO.del hmc10.nodup hlc10 hm11
      rw[hdel]at h;exact h)
     have hx1112:=x12
     refine(easc_any false (hS10.glb.ext (hS11.ext x12).h0) (.inl ⟨p9,rfl⟩) b12).mono ?_
     rintro _ H13 ⟨rfl,k13,_⟩
     have hx13:Ext H11 H13:=x12.but k13 (Nat.le_refl _)
     have hfe:Fr (SrW x) base H H13:=((hf9.trans hf910.ask).trans (Fr.but k11 (.inr (.inl rfl)))).trans (Fr.of hx13)
     have hS13:=hS11.ext hx13
     ((conv=>whnf);repeat(any_goals((first|refine Vc.stp ?_)<;>(intros;(conv=>whnf)))))
     exact⟨⟨left9,hl9a,hl9b,.inr (.inr ⟨⟨p9,rfl⟩,hfree,hS13⟩)⟩,hfe⟩
   case' false=>
    obtain⟨nd7,hnd7,hmt7⟩:=hb7f rfl
    have hno9:NoSol x.R x.N f (st++[(nm,y)]):=push_none (by rw[hny];exact List.mem_of_mem_take hnd7) hmt7
    ((conv=>whnf);repeat(any_goals((first|(refine PureH.build2 #[.string (mkS nm),.iface 165 (.pointer (some wp))] (by kernel_rfl) ?_)|refine Vc.stp ?_)<;>(intros;(conv=>whnf)))))
    rename_i H9 z9 b9 x9
    have hS9:=hS7.ext x9
    have hf9:=hf7.trans (Fr.of (W:=SrW x) (base:=base) x9)
    have hrw9:=RowL.ext nat_okT hrw7 x9
    obtain⟨left9,hl9e⟩: ∃ l:Int,l=left5:=⟨_,rfl⟩
    have hl9:0≤left9:=by omega
    have hl9a: -1≤left9:=by omega
    have hl9b:left9≤4194304:=by omega
    rw[←hl9e]at hS9
    clear hb7t hb7f hrw7 hf7 hf67 hblk7 hk7 hS7 hS6 hf6 hrw6 hk6 hblk6 hm6 k6 hS hl9e
   all_goals
    have hblk9:searchB H9 x left9:=hS9.blk
    have hk9:Ext H0 H9:=hS9.h0
    have hS:=hS9
    ((conv=>whnf);repeat(any_goals((first|(refine IdxA.el row_ok (by decide) hS.rows rfl y r rfl hr ?_;intro b o c hcR hcl;obtain⟨pa,pc,na,nc,ec,h32,hpl,hpr,hnl2,hnr⟩:=(id hcR);have hcn:hcell H0 ⟨b,o+0,none⟩=some (Value.string (mkS r.name)):=hcl 0 _ (by rw[ec];rfl);have hcv:=(fun k u hu=>(by rw[Nat.add_assoc,Nat.add_comm 1 k];exact hcl (k+1) u (row_ver ec k u hu)): ∀ (k:Nat) (u:Value),([.int .i64 r.v.ma,.int .i64 r.v.mi,.int .i64 r.v.pa,.slice pa r.v.pre.length pc]:List Value)[k]? =some u→hcell H0 ⟨b,o+1+k,none⟩=some u);have hcnd:hcell H0 ⟨b,o+38,none⟩=some (Value.slice na r.needs.length nc):=hcl 38 _ (row_last ec (by rw[strV_length];exact h32)).2)|(refine BndH.nat m7 rfl (by omega) ?_)|refine Vc.stp ?_)<;>(intros;(conv=>whnf)))))
    refine(back_any x (r.needs.take m7) hS9 na _ nc (hnr.take need_ok m7) hntl (by omega) hlKt).mono ?_
    rintro _ H10 ⟨hS10,hf910⟩
    obtain⟨lc10,hmc10,hlc10⟩:=hS10.cho
    have hblk10:searchB H10 x left9:=hS10.blk
    ((conv=>whnf);repeat(any_goals((first|((fail_if_success (have:=hm11));refine NextH.mapDelete hmc10 rfl rfl ?_;intro H11 z11 hm11 k11)|refine Vc.stp ?_)<;>(intros;(conv=>whnf)))))
    rename_i H12 z12 b12 x12
    have hS11:SrO x H0 base H11 f (choS st) (asks (askedL x.R x.N st)) left9:=hS10.setCho k11 (by
     have h:=IntO.del hmc10.nodup hlc10 hm11
     rw[hdel]at h;exact h)
    refine(easc_any true (hS10.glb.ext (hS11.ext x12).h0) (.inl ⟨_,rfl⟩) b12).mono ?_
    rintro _ H13 ⟨rfl,k13,hb13⟩
    obtain⟨p13,b13⟩:=hb13 rfl
    have hx13:Ext H11 H13:=x12.but k13 (Nat.le_refl _)
    have hfa:Fr (SrW x) base H9 H13:=((hf910.ask).trans (Fr.but k11 (.inr (.inl rfl)))).trans (Fr.of hx13)
    have hS13:=hS11.ext hx13
    have hrw13:=RowL.fr hS9 hrw9 hfa
    have hnos13: ∀ j∈rows.take (i+1),NoSol x.R x.N f (st++[(nm,j)]):=fun j hj=>by
     rw[List.take_add_one,hy]at hj
     rcases List.mem_append.1 hj with h|h
     ·exact hnos j h
     ·have:j=y:=by simpa using h
      rw[this];exact hno9
    have hfe:=hf9.trans hfa
    ((conv=>whnf);repeat(any_goals((first|refine Vc.stp ?_)<;>(intros;(conv=>whnf)))))
    have hcv:ConfV (.iface 165 (.pointer (some p13))):=⟨p13,rfl⟩
    have hdec:rows.length-(i+1)<rows.length-i:=by omega
    refine⟨⟨i+1,.iface 165 (.pointer (some p13)),left9⟩,⟨rfl,rfl,trivial⟩,?_,hdec⟩
    exact⟨hlt,hcv,hl9,hl9b,hS13,hnos13,hrw13,hfe⟩
  ·obtain rfl:i=rows.length:=by omega
   rw[List.take_length]at hnos
   obtain⟨wp,rfl⟩:=hwhy
   ((conv=>whnf);repeat(any_goals((first|refine Vc.stp ?_)<;>(intros;(conv=>whnf)))))
   exact⟨⟨left5,by omega,hl1,.inr (.inl ⟨⟨wp,rfl⟩,hl0,rows_none hB.apart hask (fun j hj=>hnos j (by rw[hrows];exact hj)),hS5⟩)⟩,hf5⟩
end Go.Proofs.YtjdieklgoepdjaaGreatDoor
namespace Go.Vc
theorem eq_map_some {P:Program} {xt kt et:TypeId} {ox oy:Operand} {p:Nat} {K:Value→Prop} (ht:P.underlying xt=some (.map kt et)) (hk:K (.bool false)):PureH P (do eqGuard .eql xt ox oy (.map (some p)) (.map none);binOp .eql xt (.map (some p)) (.map none)) K:=eq_map_nil ht hk
theorem run_typeAssert_own {P:Program} {t it:TypeId} {v:Value} {K:Value→Prop} (h: ∀ w,(Instr.typeAssert (.iface t v) it t false).run P w= .ok v w) (hk:K v):PureH P (Instr.typeAssert (.iface t v) it t false) K:=⟨⟨_,h,hk⟩⟩
end Go.Vc
namespace Go.Proofs.YtjdieklgoepdjaaGreatDoor
open Go Go.Vc Go.Scr Go.Slv
theorem ta_c_n {p:Option Addr} {K:Value→Prop} (hk:K (.tuple #[.int .i64 0,.bool false])):PureH Tryz.prog (Instr.typeAssert (.iface 165 (.pointer p)) 118 63 true) K:=⟨⟨_,fun w=>by kernel_rfl,hk⟩⟩
theorem ta_s_n {p:Option Addr} {K:Value→Prop} (hk:K (.tuple #[.int .i64 0,.bool false])):PureH Tryz.prog (Instr.typeAssert (.iface 199 (.pointer p)) 118 63 true) K:=⟨⟨_,fun w=>by kernel_rfl,hk⟩⟩
theorem none_c (p:Addr) (H:Heap):CallH Tryz.prog 160 [.iface 165 (.pointer (some p))] H fun u H'=>u= .bool false∧H=H':=by
 refine Vc.CallH.body Tryz.func160 Tryz.call160 rfl (by decide+kernel) rfl ?_
 ((conv=>whnf);repeat(any_goals((first|(with_reducible apply ta_c_n)|refine Vc.stp ?_|refine Vc.spl ?_ ?_)<;>(intros;(conv=>whnf)))))
 exact⟨rfl,rfl⟩
theorem none_s (p:Addr) (H:Heap):CallH Tryz.prog 160 [.iface 199 (.pointer (some p))] H fun u H'=>u= .bool false∧H=H':=by
 refine Vc.CallH.body Tryz.func160 Tryz.call160 rfl (by decide+kernel) rfl ?_
 ((conv=>whnf);repeat(any_goals((first|(with_reducible apply ta_s_n)|refine Vc.stp ?_|refine Vc.spl ?_ ?_)<;>(intros;(conv=>whnf)))))
 exact⟨rfl,rfl⟩
theorem wrap_any (b:Bool) (op nm:ByteArray) {H:Heap} {v:Value} (h:ErrB b v):CallH Tryz.prog 117 [.string op,.string nm,v] H fun u H'=>ErrW H' b u∧Ext H H':=by
 cases b with
 |true=>
  obtain⟨p,rfl⟩:=(h:ConfV v)
  refine Vc.CallH.body Tryz.func117 Tryz.call117 rfl (by decide+kernel) rfl ?_
  ((conv=>whnf);repeat(any_goals((first|(refine(none_c p H).mono ?_;rintro _ _ ⟨rfl,rfl⟩)|(refine PureH.build3 #[.string op,.string nm,.iface 165 (.pointer (some p))] (by kernel_rfl) ?_)|refine Vc.stp ?_|refine Vc.spl ?_ ?_)<;>(intros;(conv=>whnf)))))
  rename_i H1 z1 b1 x1
  exact⟨⟨_,op,nm,_,rfl,b1,⟨p,rfl⟩⟩,x1⟩
 |false=>
  obtain⟨p,rfl⟩:=(h:SpntV v)
  refine Vc.CallH.body Tryz.func117 Tryz.call117 rfl (by decide+kernel) rfl ?_
  ((conv=>whnf);repeat(any_goals((first|(refine(none_s p H).mono ?_;rintro _ _ ⟨rfl,rfl⟩)|(refine PureH.build3 #[.string op,.string nm,.iface 199 (.pointer (some p))] (by kernel_rfl) ?_)|refine Vc.stp ?_|refine Vc.spl ?_ ?_)<;>(intros;(conv=>whnf)))))
  rename_i H1 z1 b1 x1
  exact⟨⟨_,op,nm,_,rfl,b1,⟨p,rfl⟩⟩,x1⟩
theorem clone_map {H:Heap} {b:Nat} {l:List (Bs×Value)} (hm:MapO H b l):CallH Tryz.prog 161 [.iface 94 (.map (some b))] H fun v H'=>v= .iface 94 (.map (some H.size))∧MapO H' H.size l∧Ext H H'∧H'.size=H.size+1:=by
 obtain⟨es,c,h1,h2,h3,h4⟩:=id hm.out
 refine CallH.extern Tryz.func161 (by kernel_rfl) (by kernel_rfl) (by kernel_rfl) (by kernel_rfl) (e:=Go.Extern.MapsClone.clone) ⟨fun w hw=> ?_⟩
 subst hw
 exact⟨_,_,run_clone _ h1,⟨rfl,rfl,rfl⟩,rfl,hm.clone h1,Only.push _ _ _,Array.size_push _⟩
theorem mclone_any {H:Heap} {b:Nat} {l:List (Bs×Value)} (hm:MapO H b l):CallH Tryz.prog 118 [.map (some b)] H fun v H'=>v= .map (some H.size)∧MapO H' H.size l∧Ext H H'∧H'.size=H.size+1:=by
 refine Vc.CallH.body Tryz.func118 Tryz.call118 rfl (by decide+kernel) rfl ?_
 ((conv=>whnf);repeat(any_goals((first|((with_reducible apply eq_map_some);rfl;(conv=>whnf))|(refine(clone_map hm).mono ?_;rintro _ H1 ⟨rfl,m1,x1,z1⟩)|(refine run_typeAssert_own (fun w=>by kernel_rfl) ?_)|refine Vc.stp ?_|refine Vc.spl ?_ ?_)<;>(intros;(conv=>whnf)))))
 exact⟨rfl,m1,x1,z1⟩
def FindR (x:SrC) (H0:Heap) (base:Nat) (f:Fix) (z:Nat) (H':Heap) (v:Value):Prop:=∃ (m e:Value) (left':Int) (c':Cho) (g':Txt→List SpnP),v= .tuple #[m,e]∧ -1≤left'∧left'≤4194304∧SrO x H0 base H' f c' g' left'∧
 ((e= .nilIface∧0≤left'∧ ∃ d b,Sol x.R x.N d∧Obey f d∧m= .map (some b)∧z≤b∧IntO H' b (choI d))∨
  (ErrW H' true e∧0≤left'∧NoF x.R x.N f)∨(ErrW H' false e∧x.free=false))
set_option maxHeartbeats 2000000 in
theorem sfind_any (x:SrC) (hB:SrB x) (hfew:x.R.length≤80) {H0 H:Heap} {base:Nat} {f:Fix} {c:Cho} {g:Txt→List SpnP} {left:Int} (hS:SrO x H0 base H f c g left) (hl0:0≤left) (hl1:left≤4194304):
  CallH Tryz.prog 77 [.pointer (some ⟨x.S,0,none⟩)] H fun v H'=>FindR x H0 base f H.size H' v∧Fr (SrW x) base H H':=by
 refine Vc.CallH.body Tryz.func77 Tryz.call77 rfl (by decide+kernel) rfl ?_
 have hblk:searchB H x left:=hS.blk
 obtain⟨lc,hmc,hlc⟩:=hS.cho
 obtain⟨la,hA,hKa⟩:=hS.ask
 have hma:=hA.map
 ((conv=>whnf);repeat(any_goals((first|((fail_if_success (have:=k1));refine NextH.mapClear hmc rfl ?_;intro H1 z1 m1 k1;have hblk1:searchB H1 x left:=hblk.but k1 (by have:=hS.noS.1;exact this);have hma1:=hma.but k1 (Ne.symm hS.ne.2.2.2.2.1))|((fail_if_success (have:=k2));refine NextH.mapClear hma1 rfl ?_;intro H2 z2 m2 k2)|refine Vc.stp ?_)<;>(intros;(conv=>whnf)))))
 have hS1:SrO x H0 base H1 f (choS []) g left:=hS.setCho k1 (IntO.nil m1)
 have hS2:SrO x H0 base H2 f (choS []) (asks []) left:=hS1.setAsk (Fr.but k2 rfl) ⟨_,SlcL.nil m2,fun k h=>(by cases h)⟩ (fun k s h=>(by cases h)) (fun k=>Nat.zero_le _)
 have hf2:Fr (SrW x) base H H2:=(Fr.but k1 (.inr (.inl rfl))).trans (Fr.but k2 (.inr (.inr rfl)))
 have hblk2:searchB H2 x left:=hS2.blk
 clear hS1 m1 m2 hblk1 hma1 hma hA hKa hmc hlc k1 k2 hblk
 ((conv=>whnf);repeat(any_goals((first|refine Vc.stp ?_)<;>(intros;(conv=>whnf)))))
 refine(ask_any x hB hS2 x.N x.na _ x.nc hS2.needs rfl hB.nlen hB.span (fun nd h=>(by cases h)) (Nat.zero_le _) (fun k i h=>(by cases h)) (fun nd h=>asked_all (st:=[]) (by unfold askedL;exact List.mem_append_left _ h))).mono ?_
 rintro _ H3 ⟨⟨m3,b3,rfl,hm3,hb3t,hb3f,hS3⟩,hf3⟩
 have hb3:b3=true:=by
  cases b3 with
  |true=>rfl
  |false=>obtain⟨nd,_,h⟩:=hb3f rfl;exact absurd h (by show ¬(true=false);decide)
 obtain⟨rfl,_⟩:=hb3t hb3
 have hN:([]++x.N.take x.N.length:List NeedP)=askedL x.R x.N []:=by unfold askedL;simp
 rw[hN]at hS3
 have hf3':=hf2.trans hf3.ask
 clear hb3t hb3f hm3
 ((conv=>whnf);repeat(any_goals((first|refine Vc.stp ?_)<;>(intros;(conv=>whnf)))))
 refine(go1_any x hB hfew ((namesF x.R).length+1) [] H3 left (by simp) (Good.nil _ _ _) hS3 hl0 hl1).mono ?_
 rintro v4 H4 ⟨⟨left4,hl4a,hl4b,hres⟩,hf4⟩
 have hf4':=hf3'.trans hf4
 have hz4:H.size≤H4.size:=hf4'.size
 rcases hres with ⟨rfl,hl4,d,hs,ho,hS4⟩|⟨hc,hl4,hno,hS4⟩|⟨hc,hfree,hS4⟩
 ·have hblk4:searchB H4 x left4:=hS4.blk
  obtain⟨ld,hmd,hld⟩:=hS4.cho
  ((conv=>whnf);repeat(any_goals((first|(refine(mclone_any hmd).mono ?_;rintro _ H5 ⟨rfl,m5,x5,z5⟩)|refine Vc.stp ?_)<;>(intros;(conv=>whnf)))))
  have hr:FindR x H0 base f H.size H5 (.tuple #[.map (some H4.size),.nilIface]):=⟨_,_,left4,_,_,rfl,hl4a,hl4b,hS4.ext x5,.inl ⟨rfl,hl4,d,_,hs,ho,rfl,hz4,_,m5,hld⟩⟩
  exact⟨hr,hf4'.trans (Fr.of x5)⟩
 ·obtain⟨p,rfl⟩:=id hc
  ((conv=>whnf);repeat(any_goals((first|(refine(wrap_any true _ _ hc).mono ?_;rintro v5 H5 ⟨hw5,x5⟩)|refine Vc.stp ?_)<;>(intros;(conv=>whnf)))))
  have hr:FindR x H0 base f H.size H5 (.tuple #[.map none,v5]):=⟨_,_,left4,_,_,rfl,hl4a,hl4b,hS4.ext x5,.inr (.inl ⟨hw5,hl4,nosol_nof hno⟩)⟩
  exact⟨hr,hf4'.trans (Fr.of x5)⟩
 ·obtain⟨p,rfl⟩:=id hc
  ((conv=>whnf);repeat(any_goals((first|(refine(wrap_any false _ _ hc).mono ?_;rintro v5 H5 ⟨hw5,x5⟩)|refine Vc.stp ?_)<;>(intros;(conv=>whnf)))))
  have hr:FindR x H0 base f H.size H5 (.tuple #[.map none,v5]):=⟨_,_,left4,_,_,rfl,hl4a,hl4b,hS4.ext x5,.inr (.inr ⟨hw5,hfree⟩)⟩
  exact⟨hr,hf4'.trans (Fr.of x5)⟩
end Go.Proofs.YtjdieklgoepdjaaGreatDoor
namespace Go.Vc
variable {P:Program} {H:Heap}
theorem zeroCells_one (z:Value) (n:Nat):(Builtin.zeroCells #[z] n).toList=List.replicate n z:=by
 unfold Builtin.zeroCells
 apply List.ext_getElem?
 intro i
 simp only[Array.toList_map,Array.toList_range,List.getElem?_map,List.getElem?_replicate]
 by_cases h:i<n
 ·rw[List.getElem?_range (by simpa using h),if_pos h]
  simp[Nat.mod_one]
 ·rw[List.getElem?_eq_none (by simpa using h),if_neg h]
  rfl
theorem over_low (c:Array Value): ∀ (vs:List Value) (o k:Nat),k<o→(over c o vs)[k]? =c[k]?
 |[],o,k,_=>rfl
 |v::vs,o,k,h=>by
  show(over (c.setIfInBounds o v) (o+1) vs)[k]? =_
  rw[over_low _ vs (o+1) k (by omega),Array.getElem?_setIfInBounds,if_neg (by omega)]
theorem NextH.clearOwn {t et ty e:TypeId} {i:TypeInfo} {z:Value} {cb:Array Bool} {base g n cap m q r:Nat} {xs:List Value} {K:Value→Heap→Prop} (ho:Own H base e 1 (some ⟨g,0,none⟩) n cap xs) (ht:P.underlying t=some (.slice et)) (hi:P.info? et=some i) (hz:i.zero=some z) (hzc:z.cells= #[z]) (hzp:plainV z=true) (hm:m<n) (hq:q=n-m)
  (h: ∀ H',H'.size=H.size→Own H' base e 1 (some ⟨g,0,none⟩) m cap (xs.take m)→But g H H'→K (.tuple #[]) H'):NextH P (builtin .clear #[t] ty cb #[.slice (some ⟨g,m,none⟩) q r]) H K:=by
 rcases ho.out with ⟨ha,_⟩|⟨g',cur,ha,hb,hg,hnc,hmc,hcs,htake⟩
 ·cases ha
 cases ha
 refine⟨fun w hw=> ?_⟩
 subst hw
 obtain⟨fr,hg1,hg2⟩:=id hg.out
 obtain⟨q',rfl⟩: ∃ q',q=q'+1:=⟨q-1,by omega⟩
 obtain⟨w',hr,hs,_,hw'⟩:=run_storeCells (P:=P) g e fr (List.replicate (q'+1) z) m 0 w cur hg1 hg2 (fun u hu=>by rw[List.eq_of_mem_replicate hu];exact hzp) (by rw[List.length_replicate];omega)
 have hc:(Builtin.clear_ #[t] ty #[.slice (some ⟨g,m,none⟩) (q'+1) r]).run P w= .ok (.tuple #[]) w':=by
  simp[Builtin.clear_,Sem.run_bind,underlying_of ht,zeroValue,typeInfo_of hi,hz,Result.andThen_ok,hzc,zeroCells_one,hr]
 show Nexts P w K ((do pure (.value (←Builtin.clear_ #[t] ty #[.slice (some ⟨g,m,none⟩) (q'+1) r])):Sem Next).run P w)
 rw[Sem.run_bind,hc]
 have hz':w'.heap.size=w.heap.size:=by rw[hw'];simp
 have hb':Blk w'.heap g (over cur (m+0) (List.replicate (q'+1) z)) e:=⟨fr,by rw[hw',Array.getElem?_setIfInBounds_self_of_lt hg.lt],by rw[over_size];exact hg2⟩
 refine⟨hs,h _ hz' ⟨?_,.inr ⟨_,_,rfl,hb,hb',by omega,hmc,by rw[over_size];exact hcs,?_⟩⟩ (by rw[hw'];exact Only.set _ _ _)⟩
 ·rw[List.length_take,ho.len];omega
 ·rw[←htake,List.take_take]
  apply List.ext_getElem?
  intro k
  rw[List.getElem?_take,List.getElem?_take]
  by_cases hk:k<m*1
  ·rw[if_pos hk,if_pos (by omega),Array.getElem?_toList,Array.getElem?_toList,over_low _ _ _ _ (by omega)]
  ·rw[if_neg hk,if_neg (by omega)]
end Go.Vc
namespace Go.Proofs.YtjdieklgoepdjaaGreatDoor
open Go Go.Vc Go.Scr Go.Slv
set_option maxHeartbeats 2000000 in
theorem compact_any (l:List Bs) (g n cap base:Nat) (H:Heap) (ho:Own H base 9 1 (some ⟨g,0,none⟩) n cap (strs l)) (hn:l.length=n) (hm:n≤100000):
  CallH Tryz.prog 162 [.slice (some ⟨g,0,none⟩) n cap] H fun v H'=>v= .slice (some ⟨g,0,none⟩) (dd l).length cap∧Own H' base 9 1 (some ⟨g,0,none⟩) (dd l).length cap (strs (dd l))∧But g H H':=by
 subst hn
 have hgs: ∀ k (h:k<l.length),(strs l)[k]? =some (.string (mkS l[k])):=fun k h=>by unfold strs;rw[List.getElem?_map,List.getElem?_eq_getElem h];rfl
 refine Vc.CallH.body Tryz.func162 Tryz.call162 rfl (by decide+kernel) rfl ?_
 by_cases h2:l.length<2
 ·have hd:=dd_one (l:=l) (by omega)
  ((conv=>whnf);repeat(any_goals((first|refine Vc.stp ?_)<;>(intros;(conv=>whnf)))))
  rw[hd]
  exact⟨rfl,ho,Only.refl _ _⟩
 ((conv=>whnf);repeat(any_goals((first|refine Vc.stp ?_)<;>(intros;(conv=>whnf)))))
 refine LoopH.intro (fun(k:Nat)=>[(3,.int .i64 k)]) (fun k H'=>1≤k∧k≤l.length∧H=H'∧dd (l.take k)=l.take k) (fun k=>l.length-k) 1 ⟨rfl,trivial⟩ ⟨Nat.le_refl _,by omega,rfl,dd_one (by rw[List.length_take];omega)⟩ ?_
 rintro k _ ⟨hk1,hkl,rfl,hdk⟩
 by_cases hlt:k<l.length
 ·obtain⟨k,rfl⟩: ∃ j,k=j+1:=⟨k-1,by omega⟩
  have hx:=hgs (k+1) hlt
  have hy:=hgs k (by omega)
  have hx':=List.getElem?_eq_getElem hlt
  have hy':=List.getElem?_eq_getElem (show k<l.length by omega)
  obtain⟨x,hxe⟩: ∃ x,x=l[k+1]:=⟨_,rfl⟩
  obtain⟨y,hye⟩: ∃ y,y=l[k]:=⟨_,rfl⟩
  rw[←hxe]at hx hx'
  rw[←hye]at hy hy'
  have hcx:=ho.hcell hx
  have hcy:=ho.hcell hy
  by_cases hxy:x=y
  ·subst hxy
   ((conv=>whnf);repeat(any_goals((first|(refine IdxA.at1 (k+1) rfl hlt ?_)|(refine IdxA.at1 k (by omega) (by omega) ?_)|(refine CondH.pos (by rw[str_mk];simp) ?_)|(refine BndH.nat (k+1) rfl (by omega) ?_)|refine Vc.stp ?_)<;>(intros;(conv=>whnf)))))
   have hdo:=dd_old hy' hx'
   have hsb:sliceBase (some ⟨g,0,none⟩) cap (k+1) 1=some ⟨g,0+(k+1)*1,none⟩:=by
    have:=ho.cap_le
    unfold sliceBase
    rw[if_neg (by omega)]
    rfl
   refine LoopH.intro (fun(s:Nat×Nat)=>[(3,.int .i64 s.1),(5,.int .i64 s.2)]) (fun s H'=>1≤s.1∧1≤s.2∧s.2≤l.length-(k+1)∧s.1+1≤k+1+s.2∧H'.size=H.size∧(∃ cur:List Bs,cur.length=l.length∧Own H' base 9 1 (some ⟨g,0,none⟩) l.length cap (strs cur)∧cur.take s.1=dd (l.take (k+1+s.2))∧cur.drop (k+s.2)=l.drop (k+s.2))∧But g H H') (fun s=>l.length-s.2) (k+1,1) ⟨rfl,rfl,trivial⟩ ⟨hk1,Nat.le_refl _,by show 1≤_;omega,Nat.le_refl _,rfl,⟨l,rfl,ho,(by show l.take (k+1)=dd (l.take (k+2));rw[hdo];exact hdk.symm),rfl⟩,Only.refl _ _⟩ ?_
   rintro⟨i,j⟩ H1 ⟨hi1,hj1,hjl,hij,hz1,⟨cur,hcl,ho1,hct,hcd⟩,hb1⟩
   dsimp only at hi1 hj1 hjl hij hct hcd ⊢
   by_cases hjt:j<l.length-(k+1)
   ·have hgc: ∀ q,k+j≤q→cur[q]? =l[q]? :=fun q hq=>by
     have:=congrArg (fun t=>t[q-(k+j)]?) hcd
     simp only[List.getElem?_drop]at this
     rwa[show k+j+(q-(k+j))=q by omega]at this
    obtain⟨u,hu⟩: ∃ u,l[k+j]? =some u:=⟨_,List.getElem?_eq_getElem (by omega)⟩
    obtain⟨w,hw⟩: ∃ w,l[k+j+1]? =some w:=⟨_,List.getElem?_eq_getElem (by omega)⟩
    have hcu:=hgc (k+j) (Nat.le_refl _)
    have hcw:=hgc (k+j+1) (by omega)
    rw[hu]at hcu
    rw[hw]at hcw
    have hcu':hcell H1 ⟨g,0+(k+1)*1+(j-1),none⟩=some (.string (mkS u)):=by
     have:=ho1.hcell (i:=k+j) (v:= .string (mkS u)) (by unfold strs;rw[List.getElem?_map,hcu];rfl)
     rwa[show 0+(k+1)*1+(j-1)=0+(k+j)by omega]
    have hcw':hcell H1 ⟨g,0+(k+1)*1+j,none⟩=some (.string (mkS w)):=by
     have:=ho1.hcell (i:=k+j+1) (v:= .string (mkS w)) (by unfold strs;rw[List.getElem?_map,hcw];rfl)
     rwa[show 0+(k+1)*1+j=0+(k+j+1)by omega]
    by_cases huw:w=u
    ·subst huw
     ((conv=>whnf);repeat(any_goals((first|(rw[hsb];refine IdxA.at1 j rfl hjt ?_)|(refine IdxA.at1 (j-1) (by omega) (by omega) ?_)|(refine CondH.neg (by rw[str_mk];simp) ?_)|refine Vc.stp ?_)<;>(intros;(conv=>whnf)))))
     have hdr:cur.drop (k+(j+1))=l.drop (k+(j+1)):=by
      apply List.ext_getElem?
      intro q
      rw[List.getElem?_drop,List.getElem?_drop,hgc _ (by omega)]
     have htk:cur.take i=dd (l.take (k+1+(j+1))):=by
      rw[hct,show k+1+(j+1)=k+j+2 by omega,dd_old hu hw,show k+j+1=k+1+j by omega]
     exact⟨(i,j+1),⟨rfl,rfl,trivial⟩,⟨hi1,(by show 1≤j+1;omega),(by show j+1≤_;omega),(by show i+1≤k+1+(j+1);omega),hz1,⟨cur,hcl,ho1,htk,hdr⟩,hb1⟩,(by show l.length-(j+1)<l.length-j;omega)⟩
    ·((conv=>whnf);repeat(any_goals((first|(rw[hsb];refine IdxA.at1 j rfl hjt ?_)|(refine IdxA.at1 (j-1) (by omega) (by omega) ?_)|(refine CondH.pos (by rw[str_mk];simp[huw]) ?_)|(refine IdxA.at1 j rfl hjt ?_)|(refine IdxA.at1 i rfl (by omega) ?_)|(refine DoH.store_own ho1 rfl rfl rfl (by omega) ?_;intro H2 hz2 ho2 hk2)|refine Vc.stp ?_)<;>(intros;(conv=>whnf)))))
     have hsx:(strs cur).set (0+i) (.string (mkS w))=strs (cur.set i w):=by
      rw[Nat.zero_add];unfold strs;rw[List.map_set]
     rw[hsx]at ho2
     have hdr:(cur.set i w).drop (k+(j+1))=l.drop (k+(j+1)):=by
      apply List.ext_getElem?
      intro q
      rw[List.getElem?_drop,List.getElem?_drop,List.getElem?_set,if_neg (by omega),hgc _ (by omega)]
     have htk:(cur.set i w).take (i+1)=dd (l.take (k+1+(j+1))):=by
      rw[show k+1+(j+1)=k+j+2 by omega,dd_new hu hw huw,show k+j+1=k+1+j by omega,←hct,List.take_add_one,List.getElem?_set,if_pos rfl,if_pos (by omega),List.take_set_of_le (Nat.le_refl _)]
      rfl
     exact⟨(i+1,j+1),⟨rfl,rfl,trivial⟩,⟨(by show 1≤i+1;omega),(by show 1≤j+1;omega),(by show j+1≤_;omega),(by show i+1+1≤k+1+(j+1);omega),(by rw[hz2,hz1]),⟨_,(by rw[List.length_set];exact hcl),ho2,htk,hdr⟩,Only.trans hb1 hk2 fun _ _ h=>h⟩,(by show l.length-(j+1)<l.length-j;omega)⟩
   ·obtain rfl:j=l.length-(k+1):=by omega
    have hcap:=ho.cap_le
    have hsi:sliceBase (some ⟨g,0,none⟩) cap i 1=some ⟨g,i,none⟩:=by
     have:=ho.cap_le
     unfold sliceBase
     rw[if_neg (by omega),Option.map_some,addk,Nat.zero_add,Nat.mul_one]
    ((conv=>whnf);repeat(any_goals((first|(refine BndH.nat i rfl (by omega) ?_)|(rw[hsi];refine NextH.clearOwn ho1 rfl rfl rfl rfl rfl (show i<_ by omega) rfl ?_;intro H2 hz2 ho2 hk2)|refine Vc.stp ?_)<;>(intros;(conv=>whnf)))))
    have htk:cur.take i=dd l:=by rw[hct,show k+1+(l.length-(k+1))=l.length by omega,List.take_length]
    have hil:(dd l).length=i:=by rw[←htk,List.length_take];omega
    rw[hil,←htk]
    have hst:strs (cur.take i)=(strs cur).take i:=by unfold strs;rw[List.map_take]
    rw[hst]
    exact⟨rfl,ho2,Only.trans hb1 hk2 fun _ _ h=>h⟩
  ·((conv=>whnf);repeat(any_goals((first|(refine IdxA.at1 (k+1) rfl hlt ?_)|(refine IdxA.at1 k (by omega) (by omega) ?_)|(refine CondH.neg (by rw[str_mk];exact decide_eq_false hxy) ?_)|refine Vc.stp ?_)<;>(intros;(conv=>whnf)))))
   exact⟨k+2,⟨rfl,trivial⟩,⟨by omega,hlt,rfl,(by rw[dd_new hy' hx' hxy,hdk];exact(by rw[List.take_add_one (i:=k+1),hx'];rfl))⟩,by omega⟩
 ·obtain rfl:k=l.length:=by omega
  ((conv=>whnf);repeat(any_goals((first|refine Vc.stp ?_)<;>(intros;(conv=>whnf)))))
  rw[List.take_length]at hdk
  rw[hdk]
  exact⟨rfl,ho,Only.refl _ _⟩
structure InS where
 i:Nat
 a:Option Addr
 cap:Nat
theorem compact0_any (a:Option Addr) (cap:Nat) (H:Heap):CallH Tryz.prog 162 [.slice a 0 cap] H fun v H'=>v= .slice a 0 cap∧H=H':=by
 refine Vc.CallH.body Tryz.func162 Tryz.call162 rfl (by decide+kernel) rfl ?_
 ((conv=>whnf);repeat(any_goals((first|refine Vc.stp ?_|refine Vc.spl ?_ ?_)<;>(intros;(conv=>whnf)))))
 exact⟨rfl,rfl⟩
set_option maxHeartbeats 2000000 in
theorem inames_any (R:List RowP) (a:Option Addr) (n cap:Nat) (H:Heap) (hr:RowE rowE H a R) (hn:R.length=n) (hnl:n≤10000):CallH Tryz.prog 119 [.slice a n cap] H fun x H'=>(∃ a' c',x= .slice a' (namesF R).length c'∧Own H' H.size 9 1 a' (namesF R).length c' (strs (namesF R)))∧Ext H H':=by
 refine Vc.CallH.body Tryz.func119 Tryz.call119 rfl (by decide+kernel) rfl ?_
 ((conv=>whnf);repeat(any_goals((first|refine Vc.stp ?_)<;>(intros;(conv=>whnf)))))
 refine LoopH.intro (fun(x:InS)=>[(8,.int .i64 x.i),(3,.slice x.a x.i x.cap)]) (fun x H'=>x.i≤n∧Own H' H.size 9 1 x.a x.i x.cap (strs ((R.take x.i).map (·.name)))∧Ext H H') (fun x=>n-x.i) ⟨0,none,0⟩ ⟨rfl,rfl,trivial⟩ ⟨Nat.zero_le _,by dsimp only;rw[List.take_zero];exact Vc.Own.nil _ _ _ _,Ext.refl _⟩ ?_
 rintro⟨i,oa,oc⟩ H1 ⟨hi,ho1,hx1⟩
 dsimp only at hi ho1 ⊢
 have hz1:=hx1.size
 by_cases hlt:i<n
 ·obtain⟨r,hri⟩: ∃ r,R[i]? =some r:=⟨_,List.getElem?_eq_getElem (by omega)⟩
  have hcap:=ho1.cap_le
  have hsn:(R.take (i+1)).map (·.name)=(R.take i).map (·.name)++[r.name]:=by rw[List.take_add_one,hri];simp
  ((conv=>whnf);repeat(any_goals((first|(refine IdxA.el row_ok (by decide) (hr.ext row_ok hx1) hn i r rfl hri ?_;intro b o c hcR hcl;obtain⟨pa,pc,na,nc,ec,h32,hpl,hpr,hnl2,hnr⟩:=(id hcR))|((with_reducible apply SemH.load_el);rfl;rfl;(show 39=_;exact(row_ok.len hcR).symm);(exact hcl);(exact Vc.xt);(conv=>whnf))|(rename_i Hl zl bl xl;refine DoH.store_list bl rfl (by exact row_ok.len hcR) (by rw[row_ok.len hcR];rfl) (by exact row_ok.plain hcR) ?_;intro H3 z3 b3 k3;have hc0:hcell H3 ⟨H1.size,0+0,none⟩=some (Value.string (mkS r.name)):=(blk_list b3 0 0 _ (by rw[ec];rfl));have hx13:Ext H1 H3:=xl.but k3 (Nat.le_refl _))|(rename_i Hm zm bm xm;refine NextH.push1b bm ((ho1.ext hx13).ext xm) (by omega) (by omega) rfl ⟨_,rfl,fun _ h=>by cases h⟩ rfl rfl rfl rfl rfl rfl rfl ?_;intro a5 c5 H9 ho9 hz9 hw9)|refine Vc.stp ?_)<;>(intros;(conv=>whnf)))))
  have ho10:Own H9 H.size 9 1 a5 (i+1) c5 (strs ((R.take (i+1)).map (·.name))):=by rw[hsn,strs_append];exact ho9
  have hx9:Ext H H9:=((hx1.trans hx13).trans xm).wr ((ho1.ext hx13).ext xm) (Nat.le_refl _) hw9
  exact⟨⟨i+1,a5,c5⟩,⟨rfl,rfl,trivial⟩,⟨(by show i+1≤n;omega),ho10,hx9⟩,(by show n-(i+1)<n-i;omega)⟩
 ·obtain rfl:i=n:=by omega
  rw[←hn,List.take_length]at ho1
  cases oa with
  |none=>
   have hk0:R.length=0:=by
    rcases ho1.out with ⟨_,h,_⟩|⟨g,cur,h,_⟩
    ·exact h
    ·cases h
   have hR:R=[]:=List.eq_nil_of_length_eq_zero hk0
   subst hR
   have hi0:i=0:=hn.symm
   subst hi0
   ((conv=>whnf);repeat(any_goals((first|(refine(sort0_any _ _ _).mono ?_;rintro _ _ ⟨rfl,rfl⟩)|(refine(compact0_any _ _ _).mono ?_;rintro _ _ ⟨rfl,rfl⟩)|refine Vc.stp ?_)<;>(intros;(conv=>whnf)))))
   exact⟨⟨none,oc,rfl,ho1⟩,hx1⟩
  |some p=>
   obtain⟨g,hg0⟩: ∃ g,p=⟨g,0,none⟩:=by
    rcases ho1.out with ⟨h,_⟩|⟨g,cur,h,_⟩
    ·cases h
    ·cases h;exact⟨g,rfl⟩
   subst hg0
   have hml:(R.map (·.name)).length=i:=by rw[List.length_map,hn]
   rw[hn]at ho1
   ((conv=>whnf);repeat(any_goals((first|refine Vc.stp ?_)<;>(intros;(conv=>whnf)))))
   refine(sorts_any (R.map (·.name)) g i oc H.size _ ho1 hml (by omega)).mono ?_
   rintro _ H2 ⟨rfl,⟨l',hp',hs',ho'⟩,hw'⟩
   have hx2:Ext H H2:=hx1.wr ho1 (Nat.le_refl _) hw'
   have hll:l'.length=i:=by rw[hp'.length_eq,hml]
   have hdd:=dd_names hp' hs'
   have hcp:=compact_any l' g i oc H.size H2 ho' hll (by omega)
   rw[hdd]at hcp
   ((conv=>whnf);repeat(any_goals((first|(refine hcp.mono ?_;rintro _ H3 ⟨rfl,ho3,hb3⟩)|refine Vc.stp ?_)<;>(intros;(conv=>whnf)))))
   have hge:=(ho'.block _ rfl).1
   exact⟨⟨_,oc,rfl,ho3⟩,hx2.but hb3 hge⟩
def canV (l:List (Option Nat)):List Value:=l.map fun y=> .int .i64 (canI y)
theorem cand_vals (R:List RowP) (k:Txt):canV (candL R k)=nmV (candsF R k R.length)++[.int .i64 (-1)]:=by
 unfold canV candL nmV
 rw[List.map_append,List.map_map]
 rfl
theorem RowT.frG {x:SrC} {H0 H H':Heap} {base:Nat} {f:Fix} {c:Cho} {g:Txt→List SpnP} {left:Int} (h:SrO x H0 base H f c g left) {t:TypeId} (h1:t≠157) (h2:t≠43) {a:Option Addr} {l:List Value} (hr:RowT t H a l) (k:Fr (SrW x) base H H'):RowT t H' a l:=
 hr.keep k fun b cc u hf hb hu=>by
  rcases hf with hf|⟨_,c',hc'⟩
  ·have:=h.writes (hf.imp_right fun e=>e.imp_right .inl) hb
   rw[this]at hu;exact h1 hu.symm
  ·rw[hb.typ hc']at hu;exact h2 hu.symm
theorem RowT.butM {H H':Heap} {b:Nat} {m:List (Bs×Value)} (hm:MapO H b m) {t:TypeId} {a:Option Addr} {l:List Value} (hr:RowT t H a l) (k:But b H H'):RowT t H' a l:=
 hr.keep k fun y cc u hf hb hu=>by subst hf;exact absurd rfl (hm.ne hb)
theorem canV_len (l:List (Option Nat)):(canV l).length=l.length:=by simp[canV]
theorem IntO.fr {x:SrC} {H H':Heap} {base m:Nat} {f:Txt→Option Int} (h:IntO H m f) (k:Fr (SrW x) base H H') (hs: ¬SrW x m):IntO H' m f:=by
 obtain⟨l,h1,h2⟩:=h
 exact⟨l,k.map h1 hs,h2⟩
theorem fix_put (f:Fix) (k:Txt) (y:Option Nat):(fun j=>if j=k then some (canI y)else fixI f j)=fixI (setF f k y):=by
 funext j
 unfold fixI setF
 by_cases e:j=k<;>simp[e]
structure BsS where
 i:Nat
 m:Nat
def BestR (x:SrC) (H0:Heap) (H':Heap) (v:Value):Prop:=∃ mv e:Value,v= .tuple #[mv,e]∧Ext H0 H'∧
 ((e= .nilIface∧ ∃ (c':Cho) (f:Fix) (b:Nat),mv= .map (some b)∧BestI x.R x.N (namesF x.R) c' f∧IntO H' b (choI c'))∨(ErrW H' false e∧x.free=false))
def NotW (x:SrC) (m:Nat):Prop:=m≠x.S∧m≠x.C∧m≠x.A∧m≠x.F
theorem take_not {α:Type} {l:List α} (h:l.Nodup) {i:Nat} {k:α} (hk:l[i]? =some k):k∉l.take i:=fun hm=>by
 obtain⟨j,hj⟩:=List.getElem?_of_mem hm
 rw[List.getElem?_take]at hj
 split at hj
 ·rename_i hji
  obtain⟨h1,e1⟩:=List.getElem?_eq_some_iff.1 hj
  obtain⟨h2,e2⟩:=List.getElem?_eq_some_iff.1 hk
  have:=(List.pairwise_iff_getElem.1 h) j i h1 h2 hji
  exact this (e1.trans e2.symm)
 ·cases hj
theorem sort_nodup {l:List Txt} (h:SortT l):l.Nodup:=h.imp fun{a b} hab e=>by
 subst e
 rw[Go.Tre.lt_irrefl]at hab;cases hab
theorem take_snoc {α:Type} {l:List α} {i:Nat} {k:α} (hk:l[i]? =some k):l.take (i+1)=l.take i++[k]:=by rw[List.take_add_one,hk];rfl
theorem setF_set (f:Fix) (k:Txt) (y:Option Nat): ∀ z,setF (setF f k y) k z=setF f k z:=fun z=>by
 funext j
 unfold setF
 by_cases e:j=k<;>simp[e]
theorem no_snoc {R:List RowP} {N:List NeedP} {f:Fix} {k:Txt} {L:List (Option Nat)} {j:Nat} {y:Option Nat} (hy:L[j]? =some y) (h: ∀ z∈L.take j,NoF R N (setF f k z)) (hn:NoF R N (setF f k y)): ∀ z∈L.take (j+1),NoF R N (setF f k z):=fun z hz=>by
 rw[take_snoc hy,List.mem_append,List.mem_singleton]at hz
 rcases hz with hz|rfl
 ·exact h z hz
 ·exact hn
theorem SrO.notW {x:SrC} {H0 H:Heap} {base:Nat} {f:Fix} {c:Cho} {g:Txt→List SpnP} {left:Int} (h:SrO x H0 base H f c g left) {b:Nat} (hb:H.size≤b):NotW x b:=by
 have h1:=h.blk.lt
 obtain⟨_,h2,_⟩:=h.cho
 obtain⟨_,h3,_⟩:=h.ask
 obtain⟨_,h4,_⟩:=h.fix
 have h2:=h2.lt
 have h3:=h3.map.lt
 have h4:=h4.lt
 exact⟨by omega,by omega,by omega,by omega⟩
set_option maxHeartbeats 8000000 in
theorem best_any (x:SrC) (hB:SrB x) (hfew:x.R.length≤80) {H0 H:Heap} {base:Nat} {c c1:Cho} {g:Txt→List SpnP} {left:Int} {m:Nat} (hS:SrO x H0 base H (fun _=>none) c1 g left) (hl0:0≤left) (hl1:left≤4194304) (hsol:Sol x.R x.N c) (hm:IntO H m (choI c)) (hmw:NotW x m):
  CallH Tryz.prog 78 [.pointer (some ⟨x.S,0,none⟩),.map (some m)] H fun v H'=>BestR x H0 H' v:=by
 have hblk:searchB H x left:=hS.blk
 have hnl:=namesF_len x.R
 refine Vc.CallH.body Tryz.func78 Tryz.call78 rfl (by decide+kernel) rfl ?_
 ((conv=>whnf);repeat(any_goals((first|(refine(inames_any x.R x.ra _ x.rc _ (hS.rows.ext row_ok hS.h0) rfl (by omega)).mono ?_;rintro _ H1 ⟨⟨ka,kc,rfl,hok⟩,hx1⟩)|refine Vc.stp ?_)<;>(intros;(conv=>whnf)))))
 obtain⟨ks,hks⟩: ∃ ks,namesF x.R=ks:=⟨_,rfl⟩
 have hkn:ks.Nodup:=by rw[←hks];exact sort_nodup (names_namesF x.R).ord
 rw[hks]at hok hnl ⊢
 have hkr:RowT 9 H1 ka (strs ks):=hok.rowT
 refine LoopH.intro (fun(s:BsS)=>[(21,.int .i64 s.i),(1,.map (some s.m))]) (fun s H'=>s.i≤ks.length∧NotW x s.m∧RowT 9 H' ka (strs ks)∧ ∃ c f left c1 g,BestI x.R x.N (ks.take s.i) c f∧IntO H' s.m (choI c)∧0≤left∧left≤4194304∧SrO x H0 base H' f c1 g left) (fun s=>ks.length-s.i) ⟨0,m⟩ ⟨rfl,rfl,trivial⟩ ⟨Nat.zero_le _,hmw,hkr,c,_,left,c1,g,(by rw[List.take_zero];exact BestI.nil hsol),hm.ext hx1,hl0,hl1,hS.ext hx1⟩ ?_
 clear hkr hmw hsol hm hl0 hl1 hS hblk hok hx1 c1 g c left
 rintro⟨i,m2⟩ H2 ⟨hi,hmw,hkr,c,f,left,c1,g,hbi,hm,hl0,hl1,hS⟩
 dsimp only at hi hmw hm hbi ⊢
 by_cases hlt:i<ks.length
 ·obtain⟨k,hk⟩: ∃ k,ks[i]? =some k:=⟨_,List.getElem?_eq_getElem hlt⟩
  have hblk:searchB H2 x left:=hS.blk
  obtain⟨lb,hmb,hlb⟩:=hS.by_
  obtain⟨ba,bc,eB,hbc,hbr⟩:=hlb k
  have hcl:=candsF_len x.R k x.R.length
  have hln:=hB.len
  obtain⟨C,hC⟩: ∃ C,candsF x.R k x.R.length=C:=⟨_,rfl⟩
  have hcv:=cand_vals x.R k
  rw[hC]at eB hbc hbr hcl hcv
  have hrE:RowE natE H2 ba C:=⟨_,hbr.row,lst_nats H2 C⟩
  ((conv=>whnf);repeat(any_goals((first|(refine IdxA.strv hkr.row rfl i k rfl hk ?_;intro _ _ _ _ _)|((with_reducible apply SemH.lookV);(exact hmb.ext (by exact Vc.xt));rfl;rfl;rfl;rfl;(exact eB);(conv=>whnf))|(refine(cloneI_any nat_okT C ba _ bc _ (hrE.ext nat_okT.ok (by exact Vc.xt)) rfl (by omega)).mono ?_;rintro _ H3 ⟨⟨ca,cc,rfl,hoc⟩,hx3⟩;have hon:=hoc.nats)|refine Vc.stp ?_)<;>(intros;(conv=>whnf)))))
  rename_i H4 z4 b4 x4 la lc H5 ho5 hx5
  have hS5:=hS.ext hx5
  have hkr5:=hkr.ext hx5
  have hm5:=hm.ext hx5
  obtain⟨L,hL⟩: ∃ L,candL x.R k=L:=⟨_,rfl⟩
  have hLl:L.length=C.length+1:=by rw[←hL];unfold candL;rw[hC];simp
  rw[hL]at hcv
  have hlr5:RowT 3 H5 la (canV L):=by rw[hcv];exact ho5.rowT
  rw[←hLl]
  clear ho5 hon hoc x4 b4 z4 hkr hm hS hmb hlb eB hbr hbc hblk hrE
  refine LoopH.intro (fun(j:Nat)=>[(35,.int .i64 j),(1,.map (some m2))]) (fun j H'=>j≤L.length∧RowT 9 H' ka (strs ks)∧RowT 3 H' la (canV L)∧IntO H' m2 (choI c)∧ ∃ f' left c1 g,(∀ y,setF f' k y=setF f k y)∧(∀ y∈L.take j,NoF x.R x.N (setF f k y))∧0≤left∧left≤4194304∧SrO x H0 base H' f' c1 g left) (fun j=>L.length-j) 0 ⟨rfl,rfl,trivial⟩ ⟨Nat.zero_le _,hkr5,hlr5,hm5,f,left,c1,g,fun _=>rfl,fun y h=>(by rw[List.take_zero]at h;cases h),hl0,hl1,hS5⟩ ?_
  clear hkr5 hlr5 hm5 hS5 hl0 hl1 left c1 g hx5
  rintro j H7 ⟨hj,hkr,hlr,hm,f',left,c1,g,hff,hno,hl0,hl1,hS⟩
  by_cases hjt:j<L.length
  ·obtain⟨y,hy⟩: ∃ y,L[j]? =some y:=⟨_,List.getElem?_eq_getElem hjt⟩
   have hyv:(canV L)[j*1+0]? =some (.int .i64 (canI y)):=by rw[Nat.mul_one,Nat.add_zero];unfold canV;rw[List.getElem?_map,hy];rfl
   have hblk:searchB H7 x left:=hS.blk
   obtain⟨lf,hmf,hlf⟩:=hS.fix
   obtain⟨lm,hmm,hlm⟩:=id hm
   have hlmk:=hlm k
   have hput: ∀ H8,But x.F H7 H8→MapO H8 x.F (mput lf k (.int .i64 (canI y)))→SrO x H0 base H8 (setF f k y) c1 g left:=fun H8 k8 hm8=>hS.setFix k8 (by have h:=IntO.put hlf hm8;rw[fix_put,hff]at h;exact h)
   have hknot:k∉ks.take i:=take_not hkn hk
   have hstop:y=c k→BestI x.R x.N (ks.take (i+1)) c (setF f k y):=fun ey=>by
    rw[List.take_add_one,hk,ey]
    exact best_stop hB.apart hbi hknot (t:=j) (x:=c k) (by rw[hL,hy,ey]) (by rw[hL];exact hno) hbi.sol (obey_set hbi fun _ _=>rfl)
   cases hck:c k with
   |none=>
    have hgk:mget lm k=none:=by rw[hlmk];unfold choI;rw[hck];rfl
    cases y with
    |none=>
     replace hyv:(canV L)[j*1+0]? =some (.int .i64 (-1)):=hyv
     ((conv=>whnf);repeat(any_goals((first|(refine IdxA.row hlr.row (by rw[canV_len,Nat.mul_one]) (by decide) j rfl hjt ?_;intro b o _ _ hcl2;have hc0:=hcl2 0 _ hyv;rw[Nat.add_zero]at hc0)|((fail_if_success (have:=hm8));refine DoH.mapPut hmf rfl rfl ?_;intro H8 z8 hm8 k8;have hmm8:=hmm.but k8 hmw.2.2.2)|((with_reducible apply SemH.lookSome);(exact hmm8.ext (by exact Vc.xt));(exact hgk);rfl;rfl;rfl;rfl;(conv=>whnf))|((with_reducible apply SemH.lookNone);(exact hmm8.ext (by exact Vc.xt));(exact hgk);rfl;rfl;rfl;rfl;(conv=>whnf))|(rw[hq0])|refine Vc.stp ?_)<;>(intros;(conv=>whnf)))))
     (have hS8:=hput H8 k8 hm8;have hkr8:=RowT.butM hmf hkr k8;have hm8':=hm.keep k8 hmw.2.2.2;have hb8:=hstop (by rw[hck]);exact⟨⟨i+1,m2⟩,⟨rfl,rfl,trivial⟩,⟨hlt,hmw,hkr8,c,_,left,c1,g,hb8,hm8',hl0,hl1,hS8⟩,by show ks.length-(i+1)<ks.length-i;omega⟩)
    |some q'=>
     replace hyv:(canV L)[j*1+0]? =some (.int .i64 (q':Int)):=hyv
     have hyne:some q'≠c k:=by rw[hck];simp
     have hq0:((q':Int)== -1)=false:=by simp
     ((conv=>whnf);repeat(any_goals((first|(refine IdxA.row hlr.row (by rw[canV_len,Nat.mul_one]) (by decide) j rfl hjt ?_;intro b o _ _ hcl2;have hc0:=hcl2 0 _ hyv;rw[Nat.add_zero]at hc0)|((fail_if_success (have:=hm8));refine DoH.mapPut hmf rfl rfl ?_;intro H8 z8 hm8 k8;have hmm8:=hmm.but k8 hmw.2.2.2)|((with_reducible apply SemH.lookSome);(exact hmm8.ext (by exact Vc.xt));(exact hgk);rfl;rfl;rfl;rfl;(conv=>whnf))|((with_reducible apply SemH.lookNone);(exact hmm8.ext (by exact Vc.xt));(exact hgk);rfl;rfl;rfl;rfl;(conv=>whnf))|(rw[hq0])|refine Vc.stp ?_)<;>(intros;(conv=>whnf)))))
     have hS8:=hput H8 k8 hm8
     have hkr8:=RowT.butM hmf hkr k8
     have hlr8:=RowT.butM hmf hlr k8
     have hm8':=hm.keep k8 hmw.2.2.2
     refine(sfind_any x hB hfew hS8 hl0 hl1).mono ?_
     rintro _ H9 ⟨⟨mv,er,left',c',g',rfl,hla,hlb',hS9,hres⟩,hf9⟩
     have hkr9:=RowT.frG hS8 (by decide) (by decide) hkr8 hf9
     have hlr9:=RowT.frG hS8 (by decide) (by decide) hlr8 hf9
     have hnw: ¬SrW x m2:=fun h=>by
      rcases h with h|h|h
      ·exact hmw.1 h
      ·exact hmw.2.1 h
      ·exact hmw.2.2.1 h
     have hm9:=hm8'.fr hf9 hnw
     have hl1':=hB.len
     rcases hres with ⟨rfl,hl',d,b,hds,hdo,rfl,hzb,hmd⟩|⟨hw,hl',hnf⟩|⟨hw,hfree⟩
     ·((conv=>whnf);repeat(any_goals((first|refine Vc.stp ?_)<;>(intros;(conv=>whnf)))))
      rename_i H10 z10 b10 x10
      have hbb:=best_stop hB.apart hbi hknot (t:=j) (by rw[hL,hy]) (by rw[hL];exact hno) hds hdo
      rw[←take_snoc hk]at hbb
      have hnb:NotW x b:=hS8.notW hzb
      exact⟨⟨i+1,b⟩,⟨rfl,rfl,trivial⟩,⟨hlt,hnb,hkr9.ext x10,d,_,left',c',g',hbb,hmd.ext x10,hl',hlb',hS9.ext x10⟩,by show ks.length-(i+1)<ks.length-i;omega⟩
     ·obtain⟨g1,op,nm,v',rfl,hbg,hev⟩:=id hw
      ((conv=>whnf);repeat(any_goals((first|(rename_i H10 z10 b10 x10;refine(easc_any true (hS9.glb.ext (hS9.ext x10).h0) (ErrA.ext (.inr hw) x10) b10).mono ?_;rintro _ H11 ⟨rfl,k11,_⟩;have hx11:Ext H9 H11:=x10.but k11 (Nat.le_refl _))|refine Vc.stp ?_)<;>(intros;(conv=>whnf)))))
      exact⟨j+1,⟨rfl,rfl,trivial⟩,⟨hjt,hkr9.ext hx11,hlr9.ext hx11,hm9.ext hx11,_,left',c',g',setF_set f k _,no_snoc hy hno hnf,hl',hlb',hS9.ext hx11⟩,by omega⟩
     ·obtain⟨g1,op,nm,v',rfl,hbg,hev⟩:=id hw
      ((conv=>whnf);repeat(any_goals((first|(rename_i H10 z10 b10 x10;refine(easc_any false (hS9.glb.ext (hS9.ext x10).h0) (ErrA.ext (.inr hw) x10) b10).mono ?_;rintro _ H11 ⟨rfl,k11,_⟩;have hx11:Ext H9 H11:=x10.but k11 (Nat.le_refl _))|refine Vc.stp ?_)<;>(intros;(conv=>whnf)))))
      exact⟨_,_,rfl,(hS9.ext hx11).h0,.inr ⟨⟨g1,op,nm,v',rfl,hbg.ext hx11,hev⟩,hfree⟩⟩
   |some q=>
    have hgk:mget lm k=some (.int .i64 (q:Int)):=by rw[hlmk];unfold choI;rw[hck];rfl
    cases y with
    |none=>
     replace hyv:(canV L)[j*1+0]? =some (.int .i64 (-1)):=hyv
     have hyne:none≠c k:=by rw[hck];simp
     have hq0:((q:Int)== -1)=false:=by simp
     ((conv=>whnf);repeat(any_goals((first|(refine IdxA.row hlr.row (by rw[canV_len,Nat.mul_one]) (by decide) j rfl hjt ?_;intro b o _ _ hcl2;have hc0:=hcl2 0 _ hyv;rw[Nat.add_zero]at hc0)|((fail_if_success (have:=hm8));refine DoH.mapPut hmf rfl rfl ?_;intro H8 z8 hm8 k8;have hmm8:=hmm.but k8 hmw.2.2.2)|((with_reducible apply SemH.lookSome);(exact hmm8.ext (by exact Vc.xt));(exact hgk);rfl;rfl;rfl;rfl;(conv=>whnf))|((with_reducible apply SemH.lookNone);(exact hmm8.ext (by exact Vc.xt));(exact hgk);rfl;rfl;rfl;rfl;(conv=>whnf))|(rw[hq0])|refine Vc.stp ?_)<;>(intros;(conv=>whnf)))))
     have hS8:=hput H8 k8 hm8
     have hkr8:=RowT.butM hmf hkr k8
     have hlr8:=RowT.butM hmf hlr k8
     have hm8':=hm.keep k8 hmw.2.2.2
     refine(sfind_any x hB hfew hS8 hl0 hl1).mono ?_
     rintro _ H9 ⟨⟨mv,er,left',c',g',rfl,hla,hlb',hS9,hres⟩,hf9⟩
     have hkr9:=RowT.frG hS8 (by decide) (by decide) hkr8 hf9
     have hlr9:=RowT.frG hS8 (by decide) (by decide) hlr8 hf9
     have hnw: ¬SrW x m2:=fun h=>by
      rcases h with h|h|h
      ·exact hmw.1 h
      ·exact hmw.2.1 h
      ·exact hmw.2.2.1 h
     have hm9:=hm8'.fr hf9 hnw
     have hl1':=hB.len
     rcases hres with ⟨rfl,hl',d,b,hds,hdo,rfl,hzb,hmd⟩|⟨hw,hl',hnf⟩|⟨hw,hfree⟩
     ·((conv=>whnf);repeat(any_goals((first|refine Vc.stp ?_)<;>(intros;(conv=>whnf)))))
      rename_i H10 z10 b10 x10
      have hbb:=best_stop hB.apart hbi hknot (t:=j) (by rw[hL,hy]) (by rw[hL];exact hno) hds hdo
      rw[←take_snoc hk]at hbb
      have hnb:NotW x b:=hS8.notW hzb
      exact⟨⟨i+1,b⟩,⟨rfl,rfl,trivial⟩,⟨hlt,hnb,hkr9.ext x10,d,_,left',c',g',hbb,hmd.ext x10,hl',hlb',hS9.ext x10⟩,by show ks.length-(i+1)<ks.length-i;omega⟩
     ·obtain⟨g1,op,nm,v',rfl,hbg,hev⟩:=id hw
      ((conv=>whnf);repeat(any_goals((first|(rename_i H10 z10 b10 x10;refine(easc_any true (hS9.glb.ext (hS9.ext x10).h0) (ErrA.ext (.inr hw) x10) b10).mono ?_;rintro _ H11 ⟨rfl,k11,_⟩;have hx11:Ext H9 H11:=x10.but k11 (Nat.le_refl _))|refine Vc.stp ?_)<;>(intros;(conv=>whnf)))))
      exact⟨j+1,⟨rfl,rfl,trivial⟩,⟨hjt,hkr9.ext hx11,hlr9.ext hx11,hm9.ext hx11,_,left',c',g',setF_set f k _,no_snoc hy hno hnf,hl',hlb',hS9.ext hx11⟩,by omega⟩
     ·obtain⟨g1,op,nm,v',rfl,hbg,hev⟩:=id hw
      ((conv=>whnf);repeat(any_goals((first|(rename_i H10 z10 b10 x10;refine(easc_any false (hS9.glb.ext (hS9.ext x10).h0) (ErrA.ext (.inr hw) x10) b10).mono ?_;rintro _ H11 ⟨rfl,k11,_⟩;have hx11:Ext H9 H11:=x10.but k11 (Nat.le_refl _))|refine Vc.stp ?_)<;>(intros;(conv=>whnf)))))
      exact⟨_,_,rfl,(hS9.ext hx11).h0,.inr ⟨⟨g1,op,nm,v',rfl,hbg.ext hx11,hev⟩,hfree⟩⟩
    |some q'=>
     replace hyv:(canV L)[j*1+0]? =some (.int .i64 (q':Int)):=hyv
     by_cases hqq:q'=q
     ·subst hqq
      ((conv=>whnf);repeat(any_goals((first|(refine IdxA.row hlr.row (by rw[canV_len,Nat.mul_one]) (by decide) j rfl hjt ?_;intro b o _ _ hcl2;have hc0:=hcl2 0 _ hyv;rw[Nat.add_zero]at hc0)|((fail_if_success (have:=hm8));refine DoH.mapPut hmf rfl rfl ?_;intro H8 z8 hm8 k8;have hmm8:=hmm.but k8 hmw.2.2.2)|((with_reducible apply SemH.lookSome);(exact hmm8.ext (by exact Vc.xt));(exact hgk);rfl;rfl;rfl;rfl;(conv=>whnf))|((with_reducible apply SemH.lookNone);(exact hmm8.ext (by exact Vc.xt));(exact hgk);rfl;rfl;rfl;rfl;(conv=>whnf))|(rw[hq0])|refine Vc.stp ?_)<;>(intros;(conv=>whnf)))))
      (have hS8:=hput H8 k8 hm8;have hkr8:=RowT.butM hmf hkr k8;have hm8':=hm.keep k8 hmw.2.2.2;have hb8:=hstop (by rw[hck]);exact⟨⟨i+1,m2⟩,⟨rfl,rfl,trivial⟩,⟨hlt,hmw,hkr8,c,_,left,c1,g,hb8,hm8',hl0,hl1,hS8⟩,by show ks.length-(i+1)<ks.length-i;omega⟩)
     ·have hyne:some q'≠c k:=by rw[hck];simpa using hqq
      have hq0:((q:Int)==(q':Int))=false:=by simp;omega
      ((conv=>whnf);repeat(any_goals((first|(refine IdxA.row hlr.row (by rw[canV_len,Nat.mul_one]) (by decide) j rfl hjt ?_;intro b o _ _ hcl2;have hc0:=hcl2 0 _ hyv;rw[Nat.add_zero]at hc0)|((fail_if_success (have:=hm8));refine DoH.mapPut hmf rfl rfl ?_;intro H8 z8 hm8 k8;have hmm8:=hmm.but k8 hmw.2.2.2)|((with_reducible apply SemH.lookSome);(exact hmm8.ext (by exact Vc.xt));(exact hgk);rfl;rfl;rfl;rfl;(conv=>whnf))|((with_reducible apply SemH.lookNone);(exact hmm8.ext (by exact Vc.xt));(exact hgk);rfl;rfl;rfl;rfl;(conv=>whnf))|(rw[hq0])|refine Vc.stp ?_)<;>(intros;(conv=>whnf)))))
      have hS8:=hput H8 k8 hm8
      have hkr8:=RowT.butM hmf hkr k8
      have hlr8:=RowT.butM hmf hlr k8
      have hm8':=hm.keep k8 hmw.2.2.2
      refine(sfind_any x hB hfew hS8 hl0 hl1).mono ?_
      rintro _ H9 ⟨⟨mv,er,left',c',g',rfl,hla,hlb',hS9,hres⟩,hf9⟩
      have hkr9:=RowT.frG hS8 (by decide) (by decide) hkr8 hf9
      have hlr9:=RowT.frG hS8 (by decide) (by decide) hlr8 hf9
      have hnw: ¬SrW x m2:=fun h=>by
       rcases h with h|h|h
       ·exact hmw.1 h
       ·exact hmw.2.1 h
       ·exact hmw.2.2.1 h
      have hm9:=hm8'.fr hf9 hnw
      have hl1':=hB.len
      rcases hres with ⟨rfl,hl',d,b,hds,hdo,rfl,hzb,hmd⟩|⟨hw,hl',hnf⟩|⟨hw,hfree⟩
      ·((conv=>whnf);repeat(any_goals((first|refine Vc.stp ?_)<;>(intros;(conv=>whnf)))))
       rename_i H10 z10 b10 x10
       have hbb:=best_stop hB.apart hbi hknot (t:=j) (by rw[hL,hy]) (by rw[hL];exact hno) hds hdo
       rw[←take_snoc hk]at hbb
       have hnb:NotW x b:=hS8.notW hzb
       exact⟨⟨i+1,b⟩,⟨rfl,rfl,trivial⟩,⟨hlt,hnb,hkr9.ext x10,d,_,left',c',g',hbb,hmd.ext x10,hl',hlb',hS9.ext x10⟩,by show ks.length-(i+1)<ks.length-i;omega⟩
      ·obtain⟨g1,op,nm,v',rfl,hbg,hev⟩:=id hw
       ((conv=>whnf);repeat(any_goals((first|(rename_i H10 z10 b10 x10;refine(easc_any true (hS9.glb.ext (hS9.ext x10).h0) (ErrA.ext (.inr hw) x10) b10).mono ?_;rintro _ H11 ⟨rfl,k11,_⟩;have hx11:Ext H9 H11:=x10.but k11 (Nat.le_refl _))|refine Vc.stp ?_)<;>(intros;(conv=>whnf)))))
       exact⟨j+1,⟨rfl,rfl,trivial⟩,⟨hjt,hkr9.ext hx11,hlr9.ext hx11,hm9.ext hx11,_,left',c',g',setF_set f k _,no_snoc hy hno hnf,hl',hlb',hS9.ext hx11⟩,by omega⟩
      ·obtain⟨g1,op,nm,v',rfl,hbg,hev⟩:=id hw
       ((conv=>whnf);repeat(any_goals((first|(rename_i H10 z10 b10 x10;refine(easc_any false (hS9.glb.ext (hS9.ext x10).h0) (ErrA.ext (.inr hw) x10) b10).mono ?_;rintro _ H11 ⟨rfl,k11,_⟩;have hx11:Ext H9 H11:=x10.but k11 (Nat.le_refl _))|refine Vc.stp ?_)<;>(intros;(conv=>whnf)))))
       exact⟨_,_,rfl,(hS9.ext hx11).h0,.inr ⟨⟨g1,op,nm,v',rfl,hbg.ext hx11,hev⟩,hfree⟩⟩
  ·obtain rfl:j=L.length:=by omega
   rw[List.take_length]at hno
   exact(best_go hbi k (by rw[hL];exact hno)).elim
 ·obtain rfl:i=ks.length:=by omega
  rw[List.take_length]at hbi
  ((conv=>whnf);repeat(any_goals((first|refine Vc.stp ?_)<;>(intros;(conv=>whnf)))))
  exact⟨_,_,rfl,hS.h0,.inl ⟨rfl,c,f,m2,rfl,(by rw[hks];exact hbi),hm⟩⟩
set_option maxHeartbeats 1000000 in
theorem mcmp_any (R:List RowP) (hv: ∀ r∈R,VerB r.v) (i j:Nat) (r s:RowP) (hri:R[i]? =some r) (hsj:R[j]? =some s) (rb:Nat) (ra:Option Addr) (rc:Nat) (H0 H:Heap) (hk0:Ext H0 H) (hb0:Blk H0 rb #[.slice ra R.length rc] 26) (hr:RowE rowE H0 ra R):
  CallH Tryz.prog 114 [.int .i64 (i:Int),.int .i64 (j:Int),.pointer (some ⟨rb,0,none⟩)] H fun v H'=>v= .int .i64 (cmpV s.v r.v)∧Ext H H':=by
 have hb:Blk H rb #[.slice ra R.length rc] 26:=hb0.ext hk0
 have hvr:=hv r (List.mem_of_getElem? hri)
 have hvs:=hv s (List.mem_of_getElem? hsj)
 refine Vc.CallH.body Tryz.func114 Tryz.call114 rfl (by decide+kernel) rfl ?_
 ((conv=>whnf);repeat(any_goals((first|(refine IdxA.el row_ok (by decide) (hr.ext row_ok hk0) rfl i r rfl hri ?_;intro b o c hcR hcl;obtain⟨pa,pc,na,nc,ec,h32,hpl,hpr,hnl2,hnr⟩:=(id hcR);have hcv:=(fun k u hu=>(by rw[Nat.add_assoc,Nat.add_comm 1 k];exact hcl (k+1) u (row_ver ec k u hu)): ∀ (k:Nat) (u:Value),([.int .i64 r.v.ma,.int .i64 r.v.mi,.int .i64 r.v.pa,.slice pa r.v.pre.length pc]:List Value)[k]? =some u→hcell H ⟨b,o+1+k,none⟩=some u))|(refine IdxA.el row_ok (by decide) (hr.ext row_ok hk0) rfl j s rfl hsj ?_;intro b' o' c' hcR' hcl';obtain⟨pa',pc',na',nc',ec',h32',hpl',hpr',hnl2',hnr'⟩:=(id hcR');have hcw:=(fun k u hu=>(by rw[Nat.add_assoc,Nat.add_comm 1 k];exact hcl' (k+1) u (row_ver ec' k u hu)): ∀ (k:Nat) (u:Value),([.int .i64 s.v.ma,.int .i64 s.v.mi,.int .i64 s.v.pa,.slice pa' s.v.pre.length pc']:List Value)[k]? =some u→hcell H ⟨b',o'+1+k,none⟩=some u))|((with_reducible apply SemH.load_ver);(exact hcw);(exact Vc.xt);(conv=>whnf))|((with_reducible apply SemH.load_ver);(exact hcv);(exact Vc.xt);(conv=>whnf))|(refine(vcmp_any s.v r.v hvs hvr _ _ _ (verO_of hpl' hpr') (verO_of hpl hpr)).mono ?_;rintro _ H1 ⟨rfl,x1⟩)|refine Vc.stp ?_)<;>(intros;(conv=>whnf)))))
 exact⟨rfl,x1⟩
theorem cand_lt {R:List RowP} {x y:Nat} {r s:RowP} (hx:R[x]? =some r) (hy:R[y]? =some s) (h:cmpV s.v r.v<0):candLt R (some x) (some y):=by
 refine⟨r,s,hx,hy,?_⟩
 have h1:=lin_ver.neg r.v s.v
 rcases lin_ver.rng s.v r.v with g|g|g<;>omega
theorem nmV_get {l:List Nat} {i x:Nat} (h:l[i]? =some x):(nmV l)[i]? =some (.int .i64 (x:Int)):=by unfold nmV;rw[List.getElem?_map,h];rfl
theorem nmV_set (l:List Nat) (i x:Nat):(nmV l).set i (.int .i64 (x:Int))=nmV (l.set i x):=by unfold nmV;rw[List.map_set]
set_option maxHeartbeats 2000000 in
theorem isort_any (R:List RowP) (ha:Apart R) (hv: ∀ r∈R,VerB r.v) (rb:Nat) (ra:Option Addr) (rc:Nat) (H0:Heap) (hb0:Blk H0 rb #[.slice ra R.length rc] 26) (hr:RowE rowE H0 ra R) (k:Txt) (l:List Nat) (n:Nat) (hn:l.length=n) (hnl:n≤1000) (hp:l.Perm (ofName R k R.length))
  (g cap base:Nat) (H:Heap) (hk0:Ext H0 H) (hbs:H0.size≤base) (ho:Own H base 3 1 (some ⟨g,0,none⟩) n cap (nmV l)):
  CallH Tryz.prog 184 [.slice (some ⟨g,0,none⟩) n cap,.int .i64 0,.int .i64 (n:Int),.func (.func 114) #[] #[.pointer (some ⟨rb,0,none⟩)]] H fun v H'=>v= .tuple #[]∧Own H' base 3 1 (some ⟨g,0,none⟩) n cap (nmV (candsF R k R.length))∧But g H H':=by
 have hgb:base≤g:=(ho.block _ rfl).1
 refine Vc.CallH.body Tryz.func184 Tryz.call184 rfl (by decide+kernel) rfl ?_
 ((conv=>whnf);repeat(any_goals((first|refine Vc.stp ?_)<;>(intros;(conv=>whnf)))))
 refine LoopH.intro (fun(i:Nat)=>[(8,.int .i64 i)]) (fun i H'=>1≤i∧i≤n+1∧(∃ l':List Nat,l'.length=n∧SortI R k l' (min i n)∧Own H' base 3 1 (some ⟨g,0,none⟩) n cap (nmV l'))∧But g H H') (fun i=>n+1-i) 1 ⟨rfl,trivial⟩ ⟨Nat.le_refl _,by omega,⟨l,hn,(by rw[←hn];exact SortI.one hp),ho⟩,Only.refl _ _⟩ ?_
 clear ho
 rintro i H1 ⟨hi1,hi2,⟨l1,hl1,hs1,ho1⟩,hk1⟩
 by_cases hlt:i<n
 ·rw[Nat.min_eq_left (Nat.le_of_lt hlt)]at hs1
  ((conv=>whnf);repeat(any_goals((first|refine Vc.stp ?_)<;>(intros;(conv=>whnf)))))
  refine LoopH.intro (fun(j:Nat)=>[(9,.int .i64 j)]) (fun j H'=>(∃ l':List Nat,l'.length=n∧CarI R k l' i j∧Own H' base 3 1 (some ⟨g,0,none⟩) n cap (nmV l'))∧But g H H') (fun j=>j) i ⟨rfl,trivial⟩ ⟨⟨l1,hl1,hs1.start (by omega),ho1⟩,hk1⟩ ?_
  clear ho1 hs1 hl1 hk1
  rintro j H2 ⟨⟨l2,hl2,hc2,ho2⟩,hk2⟩
  have hjl:=hc2.le
  cases j with
  |zero=>
   ((conv=>whnf);repeat(any_goals((first|refine Vc.stp ?_)<;>(intros;(conv=>whnf)))))
   have hst:SortI R k l2 (min (i+1) n):=by
    rw[Nat.min_eq_left hlt]
    exact hc2.stop ha fun j' x y h=>by omega
   refine⟨i+1,?_,⟨by omega,by omega,⟨l2,hl2,hst,ho2⟩,hk2⟩,by omega⟩
   exact⟨rfl,trivial⟩
  |succ j=>
   obtain⟨x,hx⟩: ∃ x,l2[j+1]? =some x:=⟨_,List.getElem?_eq_getElem (by omega)⟩
   obtain⟨y,hy⟩: ∃ y,l2[j]? =some y:=⟨_,List.getElem?_eq_getElem (by omega)⟩
   obtain⟨r,hr1,hrn⟩:=sort_row hc2.perm (List.mem_of_getElem? hx)
   obtain⟨s,hs1,hsn⟩:=sort_row hc2.perm (List.mem_of_getElem? hy)
   have hcx:=ho2.hcell (nmV_get hx)
   have hcy:=ho2.hcell (nmV_get hy)
   have hk02:Ext H0 H2:=hk0.but hk2 (by omega)
   have hcm:=mcmp_any R hv x y r s hr1 hs1 rb ra rc H0 H2 hk02 hb0 hr
   by_cases hls:cmpV s.v r.v<0
   ·((conv=>whnf);repeat(any_goals((first|(refine IdxA.at1 (j+1) rfl (by omega) ?_)|(refine IdxA.at1 j (by omega) (by omega) ?_)|(refine hcm.mono ?_;rintro _ H3 ⟨rfl,x3⟩)|((fail_if_success (have:=ho4));refine DoH.store_own (ho2.ext x3) rfl rfl rfl (by omega) ?_;intro H4 z4 ho4 k4)|((fail_if_success (have:=ho5));refine DoH.store_own ho4 rfl rfl rfl (by omega) ?_;intro H5 z5 ho5 k5)|refine Vc.stp ?_)<;>(intros;(conv=>whnf)))))
    have ho6:Own H5 base 3 1 (some ⟨g,0,none⟩) n cap (nmV ((l2.set (j+1) y).set j x)):=by
     rw[Nat.zero_add,Nat.zero_add,nmV_set,nmV_set]at ho5
     exact ho5
    have hk5:But g H H5:=Only.trans (Only.trans (Only.trans hk2 x3 fun _ _ h=>h.elim) k4 fun _ _ h=>h) k5 fun _ _ h=>h
    exact⟨j,⟨(by show Value.int .i64 (((j+1:Nat):Int)-1)=Value.int .i64 (j:Int);congr 1;omega),trivial⟩,⟨⟨_,(by rw[List.length_set,List.length_set];exact hl2),hc2.swap hx hy (cand_lt hr1 hs1 hls),ho6⟩,hk5⟩,by omega⟩
   ·((conv=>whnf);repeat(any_goals((first|(refine IdxA.at1 (j+1) rfl (by omega) ?_)|(refine IdxA.at1 j (by omega) (by omega) ?_)|(refine hcm.mono ?_;rintro _ H3 ⟨rfl,x3⟩)|refine Vc.stp ?_)<;>(intros;(conv=>whnf)))))
    have hst:SortI R k l2 (min (i+1) n):=by
     rw[Nat.min_eq_left hlt]
     refine hc2.stop ha fun j' x' y' h hx' hy' r' s' hr' hs'=> ?_
     obtain rfl:j'=j:=by omega
     rw[hx]at hx';cases hx'
     rw[hy]at hy';cases hy'
     rw[hr1]at hr';cases hr'
     rw[hs1]at hs';cases hs'
     exact hls
    exact⟨i+1,⟨rfl,trivial⟩,⟨by omega,by omega,⟨l2,hl2,hst,ho2.ext x3⟩,Only.trans hk2 x3 fun _ _ h=>h.elim⟩,by omega⟩
 ·have hmin:min i n=n:=by omega
  rw[hmin]at hs1
  have hfin:l1=candsF R k R.length:=SortI.all ha (by rw[hl1];exact hs1)
  ((conv=>whnf);repeat(any_goals((first|refine Vc.stp ?_)<;>(intros;(conv=>whnf)))))
  subst hfin
  exact⟨rfl,ho1,hk1⟩
set_option maxHeartbeats 2000000 in
theorem stable_any (R:List RowP) (ha:Apart R) (hv: ∀ r∈R,VerB r.v) (rb:Nat) (ra:Option Addr) (rc:Nat) (H0:Heap) (hb0:Blk H0 rb #[.slice ra R.length rc] 26) (hr:RowE rowE H0 ra R) (k:Txt) (l:List Nat) (n:Nat) (hn:l.length=n) (hnl:n≤19) (hp:l.Perm (ofName R k R.length))
  (g cap base:Nat) (H:Heap) (hk0:Ext H0 H) (hbs:H0.size≤base) (ho:Own H base 3 1 (some ⟨g,0,none⟩) n cap (nmV l)):
  CallH Tryz.prog 156 [.slice (some ⟨g,0,none⟩) n cap,.int .i64 (n:Int),.func (.func 114) #[] #[.pointer (some ⟨rb,0,none⟩)]] H fun v H'=>v= .tuple #[]∧Own H' base 3 1 (some ⟨g,0,none⟩) n cap (nmV (candsF R k R.length))∧But g H H':=by
 refine Vc.CallH.body Tryz.func156 Tryz.call156 rfl (by decide+kernel) rfl ?_
 ((conv=>whnf);repeat(any_goals((first|refine Vc.stp ?_)<;>(intros;(conv=>whnf)))))
 refine LoopH.intro (fun(i:Nat)=>[(7,.int .i64 0),(8,.int .i64 20)]) (fun i H'=>H=H') (fun i=>0) 0 ⟨rfl,rfl,trivial⟩ rfl ?_
 rintro i _ rfl
 ((conv=>whnf);repeat(any_goals((first|refine Vc.stp ?_)<;>(intros;(conv=>whnf)))))
 refine(isort_any R ha hv rb ra rc H0 hb0 hr k l n hn (by omega) hp g cap base H hk0 hbs ho).mono ?_
 rintro _ H1 ⟨rfl,ho1,hb1⟩
 ((conv=>whnf);repeat(any_goals((first|refine Vc.stp ?_)<;>(intros;(conv=>whnf)))))
 refine LoopH.intro (fun(i:Nat)=>[(6,.int .i64 20)]) (fun i H'=>H1=H') (fun i=>0) 0 ⟨rfl,trivial⟩ rfl ?_
 rintro i _ rfl
 ((conv=>whnf);repeat(any_goals((first|refine Vc.stp ?_)<;>(intros;(conv=>whnf)))))
 exact⟨rfl,ho1,hb1⟩
set_option maxHeartbeats 2000000 in
theorem ssort_any (R:List RowP) (ha:Apart R) (hv: ∀ r∈R,VerB r.v) (rb:Nat) (ra:Option Addr) (rc:Nat) (H0:Heap) (hb0:Blk H0 rb #[.slice ra R.length rc] 26) (hr:RowE rowE H0 ra R) (k:Txt) (l:List Nat) (n:Nat) (hn:l.length=n) (hnl:n≤19) (hp:l.Perm (ofName R k R.length))
  (g cap base:Nat) (H:Heap) (hk0:Ext H0 H) (hbs:H0.size≤base) (ho:Own H base 3 1 (some ⟨g,0,none⟩) n cap (nmV l)):
  CallH Tryz.prog 113 [.slice (some ⟨g,0,none⟩) n cap,.func (.func 114) #[] #[.pointer (some ⟨rb,0,none⟩)]] H fun v H'=>v= .tuple #[]∧Own H' base 3 1 (some ⟨g,0,none⟩) n cap (nmV (candsF R k R.length))∧But g H H':=by
 refine Vc.CallH.body Tryz.func113 Tryz.call113 rfl (by decide+kernel) rfl ?_
 ((conv=>whnf);repeat(any_goals((first|(refine(stable_any R ha hv rb ra rc H0 hb0 hr k l n hn hnl hp g cap base H hk0 hbs ho).mono ?_;rintro _ H1 ⟨rfl,ho1,hb1⟩)|refine Vc.stp ?_)<;>(intros;(conv=>whnf)))))
 exact⟨rfl,ho1,hb1⟩
theorem putA_of {R:List RowP} {i:Nat} {r:RowP} (h:R[i]? =some r):putA (fun k=>ofName R k i) r.name (ofName R r.name i++[i])=fun k=>ofName R k (i+1):=by
 funext k
 rw[ofName_succ h]
 unfold putA
 by_cases e:k=r.name
 ·subst e;simp
 ·rw[if_neg e,if_neg (fun e'=>e e'.symm)]
set_option maxHeartbeats 8000000 in
theorem made_any (R:List RowP) (N:List NeedP) (ha:Apart R) (hB:RowsB R) (hRl:R.length≤80) (hNl:N.length≤1000) (hNs: ∀ n∈N,SpnB n.span) (hof: ∀ k,(ofName R k R.length).length≤19) (ra:Option Addr) (rc:Nat) (na:Option Addr) (nc:Nat) (left:Int) (H:Heap) (hg:Glb H) (hr:RowE rowE H ra R) (hn:RowE needE H na N):
  CallH Tryz.prog 76 [.slice ra R.length rc,.slice na N.length nc,.int .i64 left] H fun v H'=>∃ x:SrC,v= .pointer (some ⟨x.S,0,none⟩)∧x.R=R∧x.N=N∧(x.free=false→ ¬(R.length≤40∧(namesF R).length≤12∧1048576≤left))∧SrO x H H.size H' (fun _=>none) (fun _=>none) (fun _=>[]) left:=by
 refine Vc.CallH.body Tryz.func76 Tryz.call76 rfl (by decide+kernel) rfl ?_
 ((conv=>whnf);repeat(any_goals((first|((fail_if_success (have:=m2));rename_i H1 z1 b1 x1;refine SemH.makeMap0 ?_;intro H2 z2 m2 x2)|((fail_if_success (have:=m3));refine SemH.makeMap0 ?_;intro H3 z3 m3 x3)|((fail_if_success (have:=m4));refine SemH.makeMap0 ?_;intro H4 z4 m4 x4)|((fail_if_success (have:=m5));refine SemH.makeMap0 ?_;intro H5 z5 m5 x5)|(refine PureH.build #[.slice ra R.length rc,.slice na N.length nc,.map (some H1.size),.map (some H2.size),.map (some H3.size),.map (some H4.size),.int .i64 left,.bool false] (by kernel_rfl) ?_)|(first|(with_reducible refine Vc.DrawH.lin (id:=5) mixed ?_)|(with_reducible refine Vc.DrawL.split (es:=[]) 12 14 (by decide) (by decide) (by decide) ?_ ?_)|(with_reducible refine Vc.DrawL.held (es:=[(12,14)]) [0,1,2,3,4,5,6,7,8,9,10,11,13,12,14,15,16] [(12,[3,5]),(14,[3,5]),(15,[3,5])] (by decide+kernel) ?_)|(with_reducible refine Vc.DrawL.held (es:=[(14,12)]) [0,1,2,3,4,5,6,7,8,9,10,11,13,14,12,15,16] [(14,[3,5,9,11]),(12,[3,5]),(15,[3,5])] (by decide+kernel) ?_))|refine Vc.stp ?_)<;>(intros;(conv=>whnf)))))
 rename_i H6 z6 b6 x6
 have x16:Ext H1 H6:=x2.trans (x3.trans (x4.trans (x5.trans x6)))
 have mB6:MapO H6 H1.size []:=m2.ext (x3.trans (x4.trans (x5.trans x6)))
 have mF6:MapO H6 H2.size []:=m3.ext (x4.trans (x5.trans x6))
 have mC6:MapO H6 H3.size []:=m4.ext (x5.trans x6)
 have mA6:MapO H6 H4.size []:=m5.ext x6
 have br6:Blk H6 H.size #[.slice ra R.length rc] 26:=b1.ext x16
 have bS6:Blk H6 H5.size #[.slice ra R.length rc,.slice na N.length nc,.map (some H1.size),.map (some H2.size),.map (some H3.size),.map (some H4.size),.int .i64 left,.bool false] 157:=b6
 have hx06:Ext H H6:=x1.trans x16
 have br1:Blk H1 H.size #[.slice ra R.length rc] 26:=b1
 clear b1 b6 m2 m3 m4 m5 x2 x3 x4 x5 x6
 refine LoopH.intro (fun(i:Nat)=>[(23,.int .i64 i)]) (fun i H'=>i≤R.length∧But H1.size H6 H'∧ ∃ l,SlcL natE 1 3 H6.size H' H1.size l (fun k=>ofName R k i)∧(∀ j∈l.map (·.1),j∈namesF R)∧(∀ k v,mget l k=some v→ofName R k i≠ [])) (fun i=>R.length-i) 0 ⟨rfl,trivial⟩ ⟨Nat.zero_le _,Only.refl _ _,[],SlcL.nil mB6,fun j h=>(by cases h),fun k v h=>(by cases h)⟩ ?_
 rintro i H7 ⟨hi,hk7,la,hA,hKa,hne⟩
 have hz7:=hk7.size
 have bS7:=bS6.but hk7 (by omega)
 have br7:=br6.but hk7 (by omega)
 have hx07:Ext H H7:=hx06.but hk7 (by omega)
 by_cases hlt:i<R.length
 ·obtain⟨r,hri⟩: ∃ r,R[i]? =some r:=⟨_,List.getElem?_eq_getElem hlt⟩
  obtain⟨aa,ac,eA,hoA⟩:=hA.val r.name
  have hofl:=ofName_len R r.name i
  ((conv=>whnf);repeat(any_goals((first|(refine IdxA.el row_ok (by decide) (hr.ext row_ok hx07) rfl i r rfl hri ?_;intro b o c hcR hcl;obtain⟨pa,pc,na',nc',ec,h32,hpl,hpr,hnl2,hnr⟩:=(id hcR))|((with_reducible apply SemH.load_el);rfl;rfl;(show 39=_;exact(row_ok.len hcR).symm);(exact hcl);(exact Vc.xt);(conv=>whnf))|(rename_i Hl zl bl xl;refine DoH.store_list bl rfl (by exact row_ok.len hcR) (by rw[row_ok.len hcR];rfl) (by exact row_ok.plain hcR) ?_;intro H9 z9 b9 k9;have hc0:hcell H9 ⟨H7.size,0+0,none⟩=some (Value.string (mkS r.name)):=(blk_list b9 0 0 _ (by rw[ec];rfl));have hx79:Ext H7 H9:=xl.but k9 (Nat.le_refl _))|((with_reducible apply SemH.lookV);(focus((exact hA.map.ext (hx79.trans (by exact Vc.xt)))));rfl;rfl;rfl;rfl;(exact eA);(conv=>whnf))|((fail_if_success (have:=hw6));rename_i Hm zm bm xm;have hx7m:=hx79.trans (show Ext H9 Hm by exact Vc.xt);have hAm:=hA.ext nat_okT hx7m;have hom:=hoA.ext nat_okT.ok hx7m;refine NextH.appE (ws:=[.int .i64 (i:Int)]) (l2:=[i]) nat_okT rfl ⟨_,rfl,fun _ h=>by cases h⟩ rfl rfl rfl rfl (by decide) id hom rfl (Blk.row bm) (LstV.one rfl) rfl (by omega) (by omega) ?_;intro a6 c6 H10 ho6 hw6 hf6;have hm6:MapO H10 H1.size la:=hAm.map.keep hw6 fun⟨p,hp,e⟩=>(OwnE.not_map hom hAm.map) p hp e;have bS10:=(bS7.ext hx7m).keep hw6 (fun⟨p,hp,e⟩=>by have:=(hom.block p hp).1;omega);have b10:=(b9.ext (show Ext H9 Hm by exact Vc.xt)).keep hw6 (fun⟨p,hp,e⟩=>by have:=(hoA.block p hp).2;omega);have hc10:hcell H10 ⟨H7.size,0+0,none⟩=some (Value.string (mkS r.name)):=(blk_list b10 0 0 _ (by rw[ec];rfl)))|((fail_if_success (have:=hm7));refine DoH.mapPut hm6 rfl rfl ?_;intro H11 z11 hm7 k11)|(first|(with_reducible refine Vc.DrawH.lin (id:=5) mixed ?_)|(with_reducible refine Vc.DrawL.split (es:=[]) 12 14 (by decide) (by decide) (by decide) ?_ ?_)|(with_reducible refine Vc.DrawL.held (es:=[(12,14)]) [0,1,2,3,4,5,6,7,8,9,10,11,13,12,14,15,16] [(12,[3,5]),(14,[3,5]),(15,[3,5])] (by decide+kernel) ?_)|(with_reducible refine Vc.DrawL.held (es:=[(14,12)]) [0,1,2,3,4,5,6,7,8,9,10,11,13,14,12,15,16] [(14,[3,5,9,11]),(12,[3,5]),(15,[3,5])] (by decide+kernel) ?_))|refine Vc.stp ?_)<;>(intros;(conv=>whnf)))))
  all_goals
   have hL1:(ofName R r.name i++[i]).length=(ofName R r.name i).length+1:=by simp
   rw[←hL1]at hm7
   have hA11:=SlcL.put nat_okT hAm eA hw6 ho6 hf6 hm7 k11
   rw[putA_of hri]at hA11
   have hk11:But H1.size H6 H11:=Only.trans (Only.trans (Only.trans hk7 hx7m fun _ _ h=>h.elim) hw6 (fun b hb ⟨p,hp,e⟩=>by have:=(hom.block p hp).1;omega)) k11 fun _ _ h=>h
   have hKn:=keys_put (v:= .slice a6 (ofName R r.name i++[i]).length c6) hKa (((names_namesF R).mem r.name).2 ⟨r,List.mem_of_getElem? hri,rfl⟩)
   have hnn: ∀ k v,mget (mput la r.name (.slice a6 (ofName R r.name i++[i]).length c6)) k=some v→ofName R k (i+1)≠ []:=fun k v h=>by
    rw[mget_put]at h
    rw[ofName_succ hri]
    by_cases e:k=r.name
    ·rw[if_pos e.symm];simp
    ·rw[if_neg e]at h
     rw[if_neg fun e'=>e e'.symm]
     exact hne k v h
   exact⟨i+1,⟨rfl,trivial⟩,⟨hlt,hk11,_,hA11,hKn,hnn⟩,by omega⟩
 ·obtain rfl:i=R.length:=by omega
  have hmB:=hA.map
  ((conv=>whnf);repeat(any_goals((first|((fail_if_success (have:=hi8));refine SemH.rangeMap hmB rfl ?_;intro H8 z8 hi8 x8)|(first|(with_reducible refine Vc.DrawH.lin (id:=5) mixed ?_)|(with_reducible refine Vc.DrawL.split (es:=[]) 12 14 (by decide) (by decide) (by decide) ?_ ?_)|(with_reducible refine Vc.DrawL.held (es:=[(12,14)]) [0,1,2,3,4,5,6,7,8,9,10,11,13,12,14,15,16] [(12,[3,5]),(14,[3,5]),(15,[3,5])] (by decide+kernel) ?_)|(with_reducible refine Vc.DrawL.held (es:=[(14,12)]) [0,1,2,3,4,5,6,7,8,9,10,11,13,14,12,15,16] [(14,[3,5,9,11]),(12,[3,5]),(15,[3,5])] (by decide+kernel) ?_))|refine Vc.stp ?_)<;>(intros;(conv=>whnf)))))
  have hk8:But H1.size H6 H8:=Only.trans hk7 x8 fun _ _ h=>h.elim
  refine LoopH.intro (fun(vis:List Bs)=>[]) (fun vis H'=>But H1.size H6 H'∧IterO H' H7.size H1.size la vis∧SlcL natE 1 3 H6.size H' H1.size la (fun k=>if k∈vis then candsF R k R.length else ofName R k R.length)) (fun vis=>la.length-vis.length) [] trivial ⟨hk8,hi8,(by simpa using hA.ext nat_okT x8)⟩ ?_
  clear hi8
  rintro vis H9 ⟨hk9,hi9,hA9⟩
  have hz9:=hk9.size
  ((conv=>whnf);repeat(any_goals((first|(first|(with_reducible refine Vc.DrawH.lin (id:=5) mixed ?_)|(with_reducible refine Vc.DrawL.split (es:=[]) 12 14 (by decide) (by decide) (by decide) ?_ ?_)|(with_reducible refine Vc.DrawL.held (es:=[(12,14)]) [0,1,2,3,4,5,6,7,8,9,10,11,13,12,14,15,16] [(12,[3,5]),(14,[3,5]),(15,[3,5])] (by decide+kernel) ?_)|(with_reducible refine Vc.DrawL.held (es:=[(14,12)]) [0,1,2,3,4,5,6,7,8,9,10,11,13,14,12,15,16] [(14,[3,5,9,11]),(12,[3,5]),(15,[3,5])] (by decide+kernel) ?_))|refine Vc.stp ?_)<;>(intros;(conv=>whnf)))))
  refine SemH.nextMap hi9 (fun hall=> ?_) (fun k v H10 hkv hnv hz10 hi10 hc10 hb10=> ?_)
  ·have bS9:=bS6.but hk9 (by omega)
   have br9:=br6.but hk9 (by omega)
   have hmB9:=hA9.map
   have hx09:Ext H H9:=hx06.but hk9 (by omega)
   have mF9:=mF6.but hk9 (by omega)
   have mC9:=mC6.but hk9 (by omega)
   have mA9:=mA6.but hk9 (by omega)
   have hby:ByO R H9 H1.size:=by
    refine⟨la,hmB9,fun k=> ?_⟩
    obtain⟨a,cap,e,ho⟩:=hA9.val k
    cases hgk:mget la k with
    |some v=>
     have hv:=hall k (List.mem_map.2 ⟨_,mget_mem hgk,rfl⟩)
     rw[hgk,if_pos hv]at e
     rw[if_pos hv]at ho
     exact⟨a,cap,e,ho.nats.cap_le,ho.nats.rowT⟩
    |none=>
     have hnv:k∉vis:=fun h=>mget_none.1 hgk (hi9.sub k h)
     rw[hgk,if_neg hnv]at e
     have e0:ofName R k R.length=[]:=by
      have e1:(Value.slice none 0 0)= .slice a (ofName R k R.length).length cap:=e
      injection e1 with _ e2 _
      exact List.eq_nil_of_length_eq_zero e2.symm
     have ec:candsF R k R.length=[]:=by
      apply List.eq_nil_iff_forall_not_mem.2
      intro i hi
      have:=(ofName_mem R k R.length i).2 ((cands_mem R k R.length i).1 hi)
      rw[e0]at this;cases this
     rw[ec]
     exact⟨none,0,rfl,Nat.le_refl _,RowT.nil _ _ _⟩
   have hlN:la.length≤(namesF R).length:=by
    have:=nodup_len hmB9.nodup hKa
    rwa[List.length_map]at this
   have hfin: ∀ (f:Bool) (Hf:Heap),Hf.size=H9.size→Blk Hf H5.size #[.slice ra R.length rc,.slice na N.length nc,.map (some H1.size),.map (some H2.size),.map (some H3.size),.map (some H4.size),.int .i64 left,.bool f] 157→But H5.size H9 Hf→(f=false→ ¬(R.length≤40∧(namesF R).length≤12∧1048576≤left))→ ∃ x:SrC,Value.pointer (some ⟨H5.size,0,none⟩)= .pointer (some ⟨x.S,0,none⟩)∧x.R=R∧x.N=N∧(x.free=false→ ¬(R.length≤40∧(namesF R).length≤12∧1048576≤left))∧SrO x H H.size Hf (fun _=>none) (fun _=>none) (fun _=>[]) left:=fun f Hf zf bf kf hfree=>by
    refine⟨⟨R,N,ra,rc,na,nc,H5.size,H1.size,H2.size,H3.size,H4.size,f⟩,rfl,rfl,rfl,hfree,?_⟩
    have hx0f:Ext H Hf:=hx09.but kf (by omega)
    have hbyf:ByO R Hf H1.size:=by
     obtain⟨l,h1,h2⟩:=hby
     refine⟨l,h1.but kf (by omega),fun k=> ?_⟩
     obtain⟨a,cap,e,hc,hrt⟩:=h2 k
     exact⟨a,cap,e,hc,hrt.keep kf fun b c u hb hk=>by subst hb;rw[hk.typ bS9];decide⟩
    refine⟨hx0f,hg,Nat.le_refl _,hx0f.size,hr,hn,bf,hbyf,IntO.nil (mF9.but kf (by omega)),IntO.nil (mC9.but kf (by omega)),⟨[],SlcL.nil (mA9.but kf (by omega)),fun k h=>(by cases h)⟩,fun k s h=>(by cases h),fun k=>Nat.zero_le _,?_,?_⟩
    ·refine⟨?_,?_,?_,?_⟩<;>(dsimp only;omega)
    ·refine⟨?_,?_,?_,?_,?_,?_⟩<;>(dsimp only;omega)
   ((conv=>whnf);repeat(any_goals((first|((with_reducible apply SemH.mapLen);(exact hmB9);rfl;rfl;(conv=>whnf))|(first|(with_reducible refine Vc.DrawH.lin (id:=5) mixed ?_)|(with_reducible refine Vc.DrawL.split (es:=[]) 12 14 (by decide) (by decide) (by decide) ?_ ?_)|(with_reducible refine Vc.DrawL.held (es:=[(12,14)]) [0,1,2,3,4,5,6,7,8,9,10,11,13,12,14,15,16] [(12,[3,5]),(14,[3,5]),(15,[3,5])] (by decide+kernel) ?_)|(with_reducible refine Vc.DrawL.held (es:=[(14,12)]) [0,1,2,3,4,5,6,7,8,9,10,11,13,14,12,15,16] [(14,[3,5,9,11]),(12,[3,5]),(15,[3,5])] (by decide+kernel) ?_))|refine Vc.stp ?_|refine Vc.spl ?_ ?_)<;>(intros;(conv=>whnf)))))
   all_goals
    rename_i Hf zf bf kf
    first
    |exact hfin (decide (1048576≤left)) Hf zf bf kf (fun h=>by have:=of_decide_eq_false h;omega)
    |exact hfin true Hf zf bf kf (fun h=>by cases h)
    |exact hfin false Hf zf bf kf (fun _=>by omega)
  ·have hgk:mget la k=some v:=mget_of_mem hi9.map.nodup hkv
   have hval:=hA9.val k
   rw[hgk,if_neg hnv]at hval
   obtain⟨a,cap,hva,hoE⟩:=hval
   have hva:v= .slice a (ofName R k R.length).length cap:=hva
   subst hva
   have hne':=hne k _ hgk
   have hk10:But H1.size H6 H10:=Only.trans hk9 hb10 fun b hb e=>by omega
   have hA10:=hA9.keep nat_okT hb10 (by omega) (fun x c e _ hc=>Blk.noIt hc (e▸hi9.isIt))
   have hoE10:=hoE.keep nat_okT hb10 (fun _ _ _ _ _ h=>h) (fun p hp e=>by
    obtain⟨c,hc⟩:=hoE.typ p hp
    rw[e]at hc
    exact Blk.noIt hc hi9.isIt)
   obtain⟨g,hg0⟩: ∃ g,a=some ⟨g,0,none⟩:=by
    rcases hoE.nats.out with ⟨_,h,_⟩|⟨g,cur,h,_⟩
    ·exact absurd (List.eq_nil_of_length_eq_zero h) hne'
    ·exact⟨g,h⟩
   subst hg0
   have hx110:Ext H1 H10:=(x16.but hk10 (Nat.le_refl _))
   have hss:=ssort_any R ha (rows_ver hB) H.size ra rc H1 br1 (hr.ext row_ok x1) k (ofName R k R.length) _ rfl (hof k) (List.Perm.refl _) g cap H6.size H10 hx110 (by omega) hoE10.nats
   ((conv=>whnf);repeat(any_goals((first|(refine SemH.entryMap hc10 ?_)|(refine SemH.mkFunc ?_)|(refine hss.mono ?_;rintro _ H11 ⟨rfl,ho11,hb11⟩)|(first|(with_reducible refine Vc.DrawH.lin (id:=5) mixed ?_)|(with_reducible refine Vc.DrawL.split (es:=[]) 12 14 (by decide) (by decide) (by decide) ?_ ?_)|(with_reducible refine Vc.DrawL.held (es:=[(12,14)]) [0,1,2,3,4,5,6,7,8,9,10,11,13,12,14,15,16] [(12,[3,5]),(14,[3,5]),(15,[3,5])] (by decide+kernel) ?_)|(with_reducible refine Vc.DrawL.held (es:=[(14,12)]) [0,1,2,3,4,5,6,7,8,9,10,11,13,14,12,15,16] [(14,[3,5,9,11]),(12,[3,5]),(15,[3,5])] (by decide+kernel) ?_))|refine Vc.stp ?_)<;>(intros;(conv=>whnf)))))
   have hcl:(candsF R k R.length).length=(ofName R k R.length).length:=by
    have:=ho11.len
    unfold nmV at this
    rwa[List.length_map,Nat.mul_one]at this
   have hwr:Wr (some ⟨g,0,none⟩) H10 H11:=hb11.mono fun b e=>⟨_,rfl,e.symm⟩
   have hv10:(mget la k).getD (.slice none 0 0)= .slice (some ⟨g,0,none⟩) (candsF R k R.length).length cap:=by rw[hgk,hcl];rfl
   have hA11:=SlcL.wr nat_okT hA10 hv10 hwr (Own.natE ho11 hcl)
   have hpe:putA (fun j=>if j∈vis then candsF R j R.length else ofName R j R.length) k (candsF R k R.length)=fun j=>if j∈vis++[k]then candsF R j R.length else ofName R j R.length:=by
    funext j
    unfold putA
    by_cases e:j=k
    ·subst e;simp
    ·rw[if_neg e]
     by_cases e2:j∈vis<;>simp[e,e2]
   rw[hpe]at hA11
   obtain⟨cg,hcg⟩:=hoE10.typ _ rfl
   have hgb:H6.size≤g:=(hoE10.block _ rfl).1
   have hi11:=hi10.keep hb11 (fun e=>Blk.noIt hcg (e▸hi10.isIt)) (fun e=>hi10.map.ne hcg e)
   have hk11:But H1.size H6 H11:=Only.trans hk10 hb11 fun b hb e=>by omega
   have hnl:=nodup_len hi10.nodup hi10.sub
   rw[List.length_map,List.length_append,List.length_singleton]at hnl
   exact⟨vis++[k],trivial,⟨hk11,hi11,hA11⟩,by rw[List.length_append,List.length_singleton];omega⟩
theorem told_any (b:Bool) {H:Heap} {v:Value} (hg:Glb H) (h:ErrA H b v):CallH Tryz.prog 79 [v] H fun u H'=>u= .int .i64 (if b then 70 else 71)∧Ext H H':=by
 obtain⟨ty,pl,rfl⟩:=h.iface
 refine Vc.CallH.body Tryz.func79 Tryz.call79 rfl (by decide+kernel) rfl ?_
 cases b with
 |true=>
  ((conv=>whnf);repeat(any_goals((first|(rename_i H1 z1 b1 x1;refine(easc_any true (hg.ext x1) (h.ext x1) b1).mono ?_;rintro _ H2 ⟨rfl,k2,_⟩;have hx2:Ext H H2:=x1.but k2 (Nat.le_refl _))|refine Vc.stp ?_|refine Vc.spl ?_ ?_)<;>(intros;(conv=>whnf)))))
  exact⟨rfl,hx2⟩
 |false=>
  ((conv=>whnf);repeat(any_goals((first|(rename_i H1 z1 b1 x1;refine(easc_any false (hg.ext x1) (h.ext x1) b1).mono ?_;rintro _ H2 ⟨rfl,k2,_⟩;have hx2:Ext H H2:=x1.but k2 (Nat.le_refl _))|refine Vc.stp ?_|refine Vc.spl ?_ ?_)<;>(intros;(conv=>whnf)))))
  exact⟨rfl,hx2⟩
def SolveR (R:List RowP) (N:List NeedP) (budget:Int) (H':Heap) (v:Value):Prop:=
 (∃ P a cap,v= .tuple #[.slice a (List.length P) cap,.int .i64 0]∧P.length≤cap∧1≤budget∧Solves R N (some P)∧RowE pinE H' a P)∨
 (v= .tuple #[.slice none 0 0,.int .i64 70]∧1≤budget∧Solves R N none)∨
 (v= .tuple #[.slice none 0 0,.int .i64 71]∧(1≤budget→ ¬(R.length≤40∧(namesF R).length≤12∧1048576≤budget)))
structure SvS where
 i:Nat
 a:Option Addr
 cap:Nat
theorem nof_none {R:List RowP} (ha:Apart R) {N:List NeedP} (h:NoF R N (fun _=>none)):Solves R N none:=solves_none ha fun c hc=>h c hc fun k x hx=>by cases hx
set_option maxHeartbeats 8000000 in
theorem solve_any (R:List RowP) (N:List NeedP) (ha:Apart R) (hRB:RowsB R) (hRl:R.length≤80) (hNl:N.length≤1000) (hNs: ∀ n∈N,SpnB n.span) (hof: ∀ k,(ofName R k R.length).length≤19) (ra:Option Addr) (rc:Nat) (na:Option Addr) (nc:Nat) (budget:Int) (H:Heap) (hg:Glb H) (hr:RowE rowE H ra R) (hn:RowE needE H na N):
  CallH Tryz.prog 35 [.slice ra R.length rc,.slice na N.length nc,.int .i64 budget] H fun v H'=>SolveR R N budget H' v∧Ext H H':=by
 refine Vc.CallH.body Tryz.func35 Tryz.call35 rfl (by decide+kernel) rfl ?_
 by_cases hb1:budget<1
 ·((conv=>whnf);repeat(any_goals((first|refine Vc.stp ?_)<;>(intros;(conv=>whnf)))))
  exact⟨.inr (.inr ⟨rfl,fun h=>absurd h (by omega)⟩),Ext.refl _⟩
 obtain⟨left,hleft⟩: ∃ l:Int,l=min budget 4194304:=⟨_,rfl⟩
 have hl0:0≤left:=by omega
 have hl1:left≤4194304:=by omega
 ((conv=>whnf);repeat(any_goals((first|refine Vc.stp ?_)<;>(intros;(conv=>whnf)))))
 rw[←hleft]
 refine(made_any R N ha hRB hRl hNl hNs hof ra rc na nc left H hg hr hn).mono ?_
 rintro _ H1 ⟨x,rfl,hxR,hxN,hfree,hS1⟩
 have hB:SrB x:=⟨by rw[hxR];exact ha,by rw[hxR];exact hRB,by rw[hxR];omega,by rw[hxN];exact hNl,by rw[hxN];exact hNs⟩
 have hfew:x.R.length≤80:=by rw[hxR];exact hRl
 have hsm:x.free=false→1≤budget→ ¬(R.length≤40∧(namesF R).length≤12∧1048576≤budget):=fun h _=>by
  have:=hfree h
  omega
 ((conv=>whnf);repeat(any_goals((first|refine Vc.stp ?_)<;>(intros;(conv=>whnf)))))
 refine(sfind_any x hB hfew hS1 hl0 hl1).mono ?_
 rintro _ H2 ⟨⟨m,e,left2,c2,g2,rfl,hla2,hlb2,hS2,hres⟩,hf2⟩
 have hg2:Glb H2:=hg.ext hS2.h0
 rcases hres with ⟨rfl,hl2,d,b,hsol,hob,rfl,hzb,hmd⟩|⟨hw,hl2,hno⟩|⟨hw,hfr⟩
 ·have hnw:NotW x b:=hS1.notW hzb
  ((conv=>whnf);repeat(any_goals((first|refine Vc.stp ?_)<;>(intros;(conv=>whnf)))))
  refine(best_any x hB hfew hS2 hl2 hlb2 hsol hmd hnw).mono ?_
  rintro _ H3 ⟨mv,e3,rfl,hx3,hres⟩
  have hg3:Glb H3:=hg.ext hx3
  rcases hres with ⟨rfl,c,f,b3,rfl,hbi,L,hmL,hL⟩|⟨hw,hfr⟩
  ·rw[hxR,hxN]at hbi
   have hend:=best_end ha hbi
   have hnamed:Named R c:=fun k i h=>hbi.sol.row k i h
   have hLk: ∀ k∈L.map (·.1),k∈namesF R:=fun k hk=>by
    cases e:mget L k with
    |none=>exact absurd hk (mget_none.1 e)
    |some u=>
     rw[hL k]at e
     unfold choI at e
     cases hck:c k with
     |none=>rw[hck]at e;cases e
     |some i=>
      obtain⟨r,h1,h2⟩:=hnamed k i hck
      exact((names_namesF R).mem k).2 ⟨r,List.mem_of_getElem? h1,h2⟩
   have hLl:L.length≤80:=by
    have h1:=nodup_len hmL.nodup hLk
    have h2:=namesF_len R
    rw[List.length_map]at h1
    omega
   ((conv=>whnf);repeat(any_goals((first|(refine(keysI_any b3 _).mono ?_;rintro _ H4 ⟨rfl,hb4,hz4,hx4⟩)|(refine(sorted_any _ Tryz.call123 H3.size b3 _ L (givesI _ _ _) (by omega) H4 hb4 (hmL.ext hx4)).mono ?_;rintro _ H5 ⟨⟨ks,ka,kc,rfl,hks,hkm,hkl,hko⟩,hx5⟩;have hz5:=hx5.size)|refine Vc.stp ?_)<;>(intros;(conv=>whnf)))))
   have hx5':Ext H H5:=hx3.trans (hx4.trans hx5)
   have hpk:pinsOf R ks c=pinsOf R (namesF R) c:=pins_keys hnamed hks fun k=>by
    rw[hkm k,hL k]
    unfold choI
    constructor
    ·rintro⟨u,hu⟩
     cases e:c k with
     |none=>rw[e]at hu;cases hu
     |some i=>exact⟨i,rfl⟩
    ·rintro⟨i,hi⟩;exact⟨_,by rw[hi];rfl⟩
   rw[←hpk]at hend
   refine LoopH.intro (fun(s:SvS)=>[(43,.int .i64 s.i),(11,.slice s.a (pinsOf R (ks.take s.i) c).length s.cap)]) (fun s H'=>s.i≤ks.length∧OwnE pinT 37 H' H5.size 52 s.a (pinsOf R (ks.take s.i) c) s.cap∧MapO H' b3 L∧RowT 9 H' ka (strs ks)∧Ext H H'∧H5.size≤H'.size) (fun s=>ks.length-s.i) ⟨0,none,0⟩ ⟨rfl,(by rw[List.take_zero];rfl),trivial⟩ ⟨Nat.zero_le _,(by dsimp only;rw[List.take_zero];exact OwnE.nil _ _ _ _ _),hmL.ext (hx4.trans hx5),hko.rowT,hx5',Nat.le_refl _⟩ ?_
   rintro⟨i,oa,oc⟩ H6 ⟨hi,ho,hm,hkr,hx6,hz6⟩
   dsimp only at hi ho ⊢
   by_cases hlt:i<ks.length
   ·obtain⟨k,hk⟩: ∃ k,ks[i]? =some k:=⟨_,List.getElem?_eq_getElem hlt⟩
    obtain⟨u,hu⟩:=(hkm k).1 (List.mem_of_getElem? hk)
    have hck: ∃ y,c k=some y:=by
     rw[hL k]at hu
     unfold choI at hu
     cases e:c k with
     |none=>rw[e]at hu;cases hu
     |some y=>exact⟨y,rfl⟩
    obtain⟨y,hy⟩:=hck
    obtain⟨r,hry,hrk⟩:=hnamed k y hy
    have hgk:(mget L k).getD (.int .i64 0)= .int .i64 (y:Int):=by rw[hL k];unfold choI;rw[hy];rfl
    have hsn:=pins_snoc hk hy hry
    have hPl:(pinsOf R (ks.take i) c).length≤80:=by
     have h1:(pinsOf R (ks.take i) c).length≤(ks.take i).length:=List.length_filterMap_le _ _
     rw[List.length_take]at h1
     omega
    have hvb:=rows_ver hRB r (List.mem_of_getElem? hry)
    subst hrk
    obtain⟨P,hP⟩: ∃ P,pinsOf R (ks.take i) c=P:=⟨_,rfl⟩
    rw[hP]at hsn ho hPl ⊢
    ((conv=>whnf);repeat(any_goals((first|(refine IdxA.strv hkr.row rfl i r.name rfl hk ?_;intro _ _ _ _ _)|((with_reducible apply SemH.lookV);(exact hm.ext (by exact Vc.xt));rfl;rfl;rfl;rfl;(exact hgk);(conv=>whnf))|(refine IdxA.el row_ok (by decide) (hr.ext row_ok hx6) rfl y r rfl hry ?_;intro b o cc hcR hcl;obtain⟨pa,pc,na',nc',ec,h32,hpl,hpr,hnl2,hnr⟩:=(id hcR);have hpE:=Row.strE hpr)|((with_reducible apply SemH.load_el);rfl;rfl;(show 39=_;exact(row_ok.len hcR).symm);(exact hcl);(exact Vc.xt);(conv=>whnf))|((fail_if_success (have:=b7));rename_i Hl zl bl xl;refine DoH.store_list bl rfl (by exact row_ok.len hcR) (by rw[row_ok.len hcR];rfl) (by exact row_ok.plain hcR) ?_;intro H7 z7 b7 k7;have hpre:hcell H7 ⟨H6.size,0+1+3,none⟩=some (Value.slice pa r.v.pre.length pc):=(blk_list b7 0 4 _ (by rw[ec];rfl));have hx67:Ext H6 H7:=xl.but k7 (Nat.le_refl _))|(refine(cloneS_any str_ok r.v.pre pa _ pc _ (hpE.ext str_ok.ok (by exact Vc.xt)) rfl (by have:=(hRB.small r (List.mem_of_getElem? hry)).len;omega)).mono ?_;rintro _ H8 ⟨⟨sa,sc,rfl,hos⟩,hx8⟩;have hz8:=hx8.size)|((fail_if_success (have:=b9));refine DoH.store1 (b7.ext hx8) rfl rfl rfl (by rw[List.size_toArray,row_ok.len hcR];decide) ?_;intro H9 z9 b9 k9;rw[List.setIfInBounds_toArray]at b9;have er:cc.set (0+1+3) (Value.slice sa r.v.pre.length sc)=[.string (mkS r.name),.int .i64 r.v.ma,.int .i64 r.v.mi,.int .i64 r.v.pa,.slice sa r.v.pre.length sc]++strV r.sum++[.int .i64 r.size,.slice na' r.needs.length nc']:=(by rw[ec];rfl);have hrv9:=(fun k u hu=>blk_list b9 1 k u (by rw[Nat.add_comm 1 k];exact row_ver er k u hu));have hrs9:=(fun k u hu=>blk_list b9 5 k u (row_sum er k u hu));have hx69:Ext H6 H9:=(hx67.trans hx8).but k9 (Nat.le_refl _))|((with_reducible apply SemH.load_ver);(exact hrv9);(exact Ext.refl _);(conv=>whnf))|((with_reducible apply SemH.load_key2);(exact h32);(exact hrs9);(exact Ext.refl _);(conv=>whnf))|(refine PureH.build3 _ (pin_built h32) ?_)|(refine SemH.pinLit _ (pinL_len h32) ?_;intro H10 z10 b10 x10)|refine Vc.stp ?_)<;>(intros;(conv=>whnf)))))
    have hx610:Ext H6 H10:=hx69.trans x10
    have hpT:pinT H10 (pinR r) (pinL r.name r.v r.sum sa sc):=by
     obtain⟨vs,h1,h2⟩:=hos.out
     rw[h2.strs_eq]at h1
     exact⟨sa,sc,rfl,h32,h1.cap_le,((h1.keep k9 fun p hp e=>by have:=(h1.block p hp).1;omega).rowT).ext x10⟩
    have hoE:=ho.ext pinT_ok.ok hx610
    have hz610:=hx610.size
    have hz5'':=hx5'.size
    refine NextH.appE pinT_ok rfl ⟨_,rfl,fun _ h=>by cases h⟩ rfl rfl rfl rfl (by decide) (by decide) hoE rfl (Blk.row b10) (LstV.one hpT) rfl (by omega) (by omega) ?_
    intro a11 c11 H11 ho11 hw11 hf11
    have hm10:=hm.ext hx610
    have hm11:MapO H11 b3 L:=hm10.keep hw11 fun⟨p,hp,e⟩=>OwnE.not_map hoE hm10 p hp e
    have hkr11:RowT 9 H11 ka (strs ks):=(hkr.ext hx610).keep hw11 fun b c u ⟨p,hp,e⟩ hb=>by
     obtain⟨c',hc'⟩:=hoE.typ p hp
     rw[e]at hc'
     rw[hb.typ hc'];decide
    have hx11:Ext H H11:=Only.trans (hx6.trans hx610) hw11 fun b hb ⟨p,hp,e⟩=>by have:=(hoE.block p hp).1;omega
    have hz11:=hw11.size
    have hPn:(P++[pinR r]).length=P.length+1:=by simp
    ((conv=>whnf);repeat(any_goals((first|refine Vc.stp ?_)<;>(intros;(conv=>whnf)))))
    exact⟨⟨i+1,a11,c11⟩,⟨rfl,by show Value.slice _ _ _=Value.slice _ _ _;rw[hsn,hPn],trivial⟩,⟨hlt,(by dsimp only;rw[hsn];exact ho11),hm11,hkr11,hx11,by omega⟩,by show ks.length-(i+1)<ks.length-i;omega⟩
   ·obtain rfl:i=ks.length:=by omega
    rw[List.take_length]at ho
    ((conv=>whnf);repeat(any_goals((first|refine Vc.stp ?_)<;>(intros;(conv=>whnf)))))
    rw[List.take_length]
    obtain⟨vs,hv1,hv2⟩:=ho.out
    exact⟨.inl ⟨_,oa,oc,rfl,ho.cap_le,by omega,hend,⟨vs,hv1.row,hv2.mono fun _ _ h=>pinT_E h⟩⟩,hx6⟩
  ·obtain⟨g1,op,nm,v',rfl,hbg,hev⟩:=id hw
   ((conv=>whnf);repeat(any_goals((first|(refine(told_any false hg3 (.inr hw)).mono ?_;rintro _ H4 ⟨rfl,hx4⟩)|refine Vc.stp ?_)<;>(intros;(conv=>whnf)))))
   exact⟨.inr (.inr ⟨rfl,hsm hfr⟩),hx3.trans hx4⟩
 ·obtain⟨g1,op,nm,v',rfl,hbg,hev⟩:=id hw
  rw[hxR,hxN]at hno
  ((conv=>whnf);repeat(any_goals((first|(refine(told_any true hg2 (.inr hw)).mono ?_;rintro _ H3 ⟨rfl,hx3⟩)|refine Vc.stp ?_)<;>(intros;(conv=>whnf)))))
  exact⟨.inr (.inl ⟨rfl,by omega,nof_none ha hno⟩),hS2.h0.trans hx3⟩
 ·obtain⟨g1,op,nm,v',rfl,hbg,hev⟩:=id hw
  ((conv=>whnf);repeat(any_goals((first|(refine(told_any false hg2 (.inr hw)).mono ?_;rintro _ H3 ⟨rfl,hx3⟩)|refine Vc.stp ?_)<;>(intros;(conv=>whnf)))))
  exact⟨.inr (.inr ⟨rfl,hsm hfr⟩),hS2.h0.trans hx3⟩
end Go.Proofs.YtjdieklgoepdjaaGreatDoor
