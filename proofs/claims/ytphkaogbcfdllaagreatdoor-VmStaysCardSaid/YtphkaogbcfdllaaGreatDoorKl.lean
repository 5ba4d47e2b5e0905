import Derived.Test.YtphkaogbcfdllaaGreatDoorKb
import Derived.Carry
import Derived.ProofKit
import Derived.OpenShut
import Derived.Test.YtphkaogbcfdllaaGreatDoorKf
import Derived.ChangeMaps5
import Derived.Test.YtphkaogbcfdllaaGreatDoorKi
import Derived.Test.YtphkaogbcfdllaaGreatDoorTie
import Derived.Test.YtphkaogbcfdllaaGreatDoorCards
import Derived.LaidMore
import Derived.LaidHandle
import Derived.Lay
import Derived.Lib.LaidTab
import Derived.Stop.LaidErr
import Derived.SevenTiedAt
import Derived.Stop.Joined
set_option linter.unusedVariables false
set_option linter.unusedSimpArgs false
set_option maxRecDepth 100000
/- From a call's contract to a statement: what a call reads from its arguments; what a call that only lays new blocks leaves as it was. -/
namespace Go.Vc
open Go.ChangeShapes Go.WideShapes Go.RowKit
section
variable {H:Type} {enc:TypeId×Value→H} {P:Program}
theorem below_of {W W':World} (hs:Same W W') (hx:Ext W.heap W'.heap):Below W.heap.size W W':=
 ⟨hs.os,hs.tape,hs.output,hx.size,fun k hk=>hx.same k hk id⟩
theorem trodAll_stays (hl:laidOutB P=true) {W W':World} (hb:Below W.heap.size W W') {sp:Nat→Bool}: ∀ {ts:List TypeId} {vs:List Value} {ds:List (DataW H)} {ps:List MemPlace},(∀ t∈ts,P.readableRec t=true∧t<P.types.size)→
  DataW.TrodAll enc P W 0 (fun _=>true) true ts vs ds ps→(∀ p∈ps,p.block<W.heap.size)→(∀ p∈ps,sp p.block=true)→DataW.TrodAll enc P W' 0 sp true ts vs ds ps
 |[],[],[],_,_,h,_,_=>h
 |t::ts,v::vs,d::ds,_,hT,⟨p,q,h1,h2,e⟩,hlt,hs=>by
  subst e
  exact⟨p,q,WideElems.Trod_stays hl (hT t (by simp)).1 (hT t (by simp)).2 h1 (fun x hx=>hb.same (hlt x (by simp[hx]))) (fun x hx=>hs x (by simp[hx])),
   trodAll_stays hl hb (fun t ht=>hT t (by simp[ht])) h2 (fun x hx=>hlt x (by simp[hx])) (fun x hx=>hs x (by simp[hx])),rfl⟩
theorem law_post {f:Func} {s:ChangeSpec} {apart fresh handsOn again:Bool} {W W':World} {args:Array Value} {ds gs:List (DataW H)} {before:List MemPlace} {tb:TypeId}
  (hW:DataW.Whole enc P f.params.toList s.vars apart W args.toList ds gs before) (hv:s.vars=[]) (hs:s.fn H (ds++gs)={results:=[.lit (.bool true)],args:=ds,vars:=[]})
  (hr:f.resultTypes= #[tb]) (hb:P.underlying tb=some .bool) (hl:laidOutB P=true) (hread: ∀ t∈f.params.toList,P.readableRec t=true∧t<P.types.size)
  (hsame:Same W W') (hx:Ext W.heap W'.heap):s.post enc P f apart fresh handsOn again W args (.bool true) W':=by
 have hlt:=hW.lt
 have hW':=hW
 obtain⟨p,q,hA,hV,rfl,hfz,hnd⟩:=hW
 rw[hv]at hV
 obtain⟨rfl,rfl⟩:=trodVars_none hV
 have hbel:=below_of hsame hx
 have hone:(Value.bool true).resultList f.resultTypes.size=[.bool true]:=by rw[hr];rfl
 have hrt: ∀ (b:Nat) (sp:Nat→Bool) (hd:Bool),DataW.TrodAll enc P W' b sp hd f.resultTypes.toList ((Value.bool true).resultList f.resultTypes.size) (s.fn H (ds++[])).results []:=fun b sp hd=>by
  rw[hone,hr,hs]
  exact trodAll_cons_mk (shut_bool hb true) trodAll_mk0
 have hlt': ∀ x∈p,x.block<W.heap.size:=fun x hx=>hlt x (by simp[hx])
 have hat: ∀ sp:Nat→Bool,(∀ x∈p,sp x.block=true)→DataW.TrodAll enc P W' 0 sp true f.params.toList args.toList (s.fn H (ds++[])).args p:=fun sp hsp=>by
  rw[hs];exact trodAll_stays hl hbel hread hA hlt' hsp
 refine⟨ds,[],p++[],[],p,[],hW',hrt _ _ _,hat _ (fun x hx=>by simpa using hlt' x hx),?_,hbel.frame _,fun _=>⟨?_,_,[],([]++p)++[],⟨[]++p,[],trodAll_append (hat _ (fun _ _=>rfl)) (hrt _ _ _),?_,rfl,?_,?_⟩,?_⟩⟩
 ·rw[hv,hs];exact rfl
 ·intro j t r hj hr'
  rw[hone]at hr'
  rw[hr]at hj
  match j,hj,hr' with
  |0,hj,hr'=>
   simp at hj hr'
   subst hj;subst hr'
   exact okWide_bool_mk hb true
 ·rw[hv];exact rfl
 ·intro b off hp
  have hp':MemPlace.cell b off∈p:=by simpa using hp
  have hb':=hlt' _ hp'
  rw[hbel.frozen (p:=⟨b,off,none⟩) hb']
  exact hfz b off (by simpa using hp')
 ·intro ha
  have:=hnd ha
  simpa using this
 ·intro x hx _
  simpa using hx
theorem calls_of {f:FuncId} {args:Array Value} {W:World} {R:Value→Heap→Prop} (hc:(callFunc f args).run P W= .ok (.enter f args) W) (h:CallH P f args.toList W.heap R):
  Calls P f args W fun e w=>Same W w∧ ∃ v,e= .returned v∧R v w.heap:=by
 have:=h.out W rfl
 rw[Array.toArray_toList,hc]at this
 exact this.2
theorem law_calls {f:FuncId} {fn:Func} {s:ChangeSpec} {apart fresh handsOn again:Bool} {W:World} {args:Array Value} {ds gs:List (DataW H)} {before:List MemPlace} {tb:TypeId}
  (hc:(callFunc f args).run P W= .ok (.enter f args) W) (h:CallH P f args.toList W.heap fun v H'=>v= .bool true∧Ext W.heap H')
  (hW:DataW.Whole enc P fn.params.toList s.vars apart W args.toList ds gs before) (hv:s.vars=[]) (hs:s.fn H (ds++gs)={results:=[.lit (.bool true)],args:=ds,vars:=[]})
  (hr:fn.resultTypes= #[tb]) (hb:P.underlying tb=some .bool) (hl:laidOutB P=true) (hread:(fn.params.toList.all fun t=>P.readableRec t&&decide (t<P.types.size))=true):
  Calls P f args W fun e W'=>∃ v,e= .returned v∧s.post enc P fn apart fresh handsOn again W args v W':=
 Calls.mono (calls_of hc h) fun e w' ⟨hsame,v,he,hv',hx⟩=>⟨v,he,hv'▸law_post hW hv hs hr hb hl (fun t ht=>by simpa using List.all_eq_true.1 hread t ht) hsame hx⟩
variable {w:World} {base:Nat} {sp:Nat→Bool} {held:Bool}
theorem read_bytes {t e:TypeId} {fuel:Nat} {cs:List Value} {x:DataW H×List MemPlace} (ht:P.underlying t=some (.slice e)) (he:P.underlying e=some (.int .u8)) (hc:P.cellsOf e=1)
  (h:DataW.trod enc P w base sp held fuel t cs=some x): ∃ (a:Option Addr) (n cap:Nat) (l:List UInt8),cs=[.slice a n cap]∧l.length=n∧n≤cap∧cap≤maxLen∧Row w.heap a (strV l)∧(a=none→cap=0):=by
 rcases open_ints ht he hc h with ⟨rfl,_⟩|⟨a,len,cap,zs,rfl,hb,hl,hm,hz,_,hcell,hwf⟩
 ·exact⟨none,0,0,[],rfl,rfl,Nat.le_refl _,Nat.zero_le _,Row.nil _ _,fun _=>rfl⟩
 ·have hzl:len≤zs.length:=by rw[hz];split<;>omega
  refine⟨some a,len,cap,(zs.take len).map fun z=>UInt8.ofNat z.toNat,rfl,by simp;omega,hl,hm,?_,by simp⟩
  by_cases h0:len=0
  ·subst h0;simp[strV,Row.nil]
  ·obtain⟨b,off,rfl,hcl⟩:=ints_at hcell (by omega)
   refine⟨.inr ⟨b,off,rfl,fun j v hv=> ?_⟩⟩
   have hj:j<len:=by
    have:=(List.getElem?_eq_some_iff.1 hv).1
    simp[strV]at this;omega
   have hj':j<zs.length:=by omega
   have hw:=bounds_u8 (hwf zs[j] (List.getElem_mem hj'))
   rw[←cell_heap,hcl j hj',←hv]
   simp only[strV,List.map_map,List.getElem?_map,List.getElem?_take,if_pos hj,List.getElem?_eq_getElem hj',Option.map_some,Function.comp]
   rw[List.getD_eq_getElem?_getD,List.getElem?_eq_getElem hj',Option.getD_some]
   congr 2
   rw[UInt8.toNat_ofNat']
   omega
theorem cell_plain {a:Addr} {v:Value} (h:w.cell? a=some v): ∃ b o,a=⟨b,o,none⟩:=by
 obtain⟨b,o,s⟩:=a
 have hs:s=none:=by simpa using World.cell?_spot h
 exact⟨b,o,by rw[hs]⟩
end
end Go.Vc
namespace Go.Vc
open Go.ChangeShapes Go.WideShapes Go.RowKit
section
variable {H:Type} {enc:TypeId×Value→H} {P:Program} {w:World} {base:Nat} {sp:Nat→Bool} {held:Bool}
theorem read_wide {t e:TypeId} {fuel k:Nat} {cs:List Value} {x:DataW H×List MemPlace} (ht:P.underlying t=some (.slice e)) (hc:P.cellsOf e=k) (hk:0<k)
  (h:DataW.trod enc P w base sp held fuel t cs=some x): ∃ (a:Option Addr) (n cap:Nat) (l:List Value),cs=[.slice a n cap]∧l.length=n*k∧n≤cap∧cap≤maxLen∧Row w.heap a l∧(a=none→cap=0)∧
   ∀ i<n,∃ m y,DataW.trod enc P w base sp held m e ((l.drop (i*k)).take k)=some y:=by
 rcases DataW.trod_slice ht h with ⟨rfl,_⟩|⟨a,len,cap,elems,rest,n,_,rfl,rfl,hb,hl,hm,hlen,hel,hsp,hns⟩
 ·exact⟨none,0,0,[],rfl,by simp,Nat.le_refl _,Nat.zero_le _,Row.nil _ _,fun _=>rfl,fun i hi=>absurd hi (Nat.not_lt_zero _)⟩
 ·have each: ∀ i,i<len→ ∃ vs y,vs.length=k∧(∀ j,j<k→w.cell? (a.add (i*k+j))=vs[j]?)∧DataW.trod enc P w base sp held n e vs=some y:=by
   intro i hi
   have:=hel i hi
   rw[List.getElem?_eq_getElem (by omega),hc,Option.bind_eq_some_iff]at this
   obtain⟨vs,hvs,hy⟩:=this
   obtain⟨_,hl1,hcell⟩:=World.cells?_some hvs
   refine⟨vs,_,hl1,fun j hj=> ?_,hy⟩
   have hcj:=hcell j hj
   rw[←hcj]
   by_cases z1:i*k=0<;>by_cases z2:j=0<;>simp[Addr.add,Nat.add_assoc,z1,z2]
  let f:Nat→Value:=fun i=>(w.cell? (a.add i)).getD undef
  have hf: ∀ i,i<len*k→w.cell? (a.add i)=some (f i):=fun i hi=>by
   obtain⟨vs,y,h1,h2,_⟩:=each (i / k) ((Nat.div_lt_iff_lt_mul hk).2 hi)
   have:=h2 (i % k) (Nat.mod_lt _ hk)
   rw[show i / k*k+i % k=i from by rw[Nat.mul_comm];exact Nat.div_add_mod i k,List.getElem?_eq_getElem (by rw[h1];exact Nat.mod_lt _ hk)]at this
   simp[f,this]
  refine⟨some a,len,cap,(List.range (len*k)).map f,rfl,by simp,hl,hm,?_,by simp,?_⟩
  ·by_cases h0:len*k=0
   ·rw[h0];simp[Row.nil]
   ·have h00:=hf 0 (by omega)
    have e0:a.add 0=a:=by simp[Addr.add]
    rw[e0]at h00
    obtain⟨b,o,rfl⟩:=cell_plain h00
    refine⟨.inr ⟨b,o,rfl,fun j v hv=> ?_⟩⟩
    have hj:j<len*k:=by have:=(List.getElem?_eq_some_iff.1 hv).1;simpa using this
    have:=hf j hj
    rw[addk]at this
    rw[←cell_heap,this,←hv]
    simp[hj]
  ·intro i hi
   obtain⟨vs,y,h1,h2,hy⟩:=each i hi
   have hik:i*k+k≤len*k:=by rw[←Nat.succ_mul];exact Nat.mul_le_mul_right k hi
   refine⟨n,y,?_⟩
   rw[←hy]
   congr 1
   apply List.ext_getElem?
   intro j
   by_cases hj:j<k
   ·have:=h2 j hj
    rw[hf _ (by omega)]at this
    rw[←this,List.getElem?_take,if_pos hj,List.getElem?_drop,List.getElem?_map,List.getElem?_range (by omega)]
    rfl
   ·rw[List.getElem?_take,if_neg hj,List.getElem?_eq_none (by omega)]
theorem cut_wide {k:Nat} (hk:0<k) {Q:List Value→Prop}: ∀ (m:Nat) (vs:List Value),vs.length=m*k→(∀ i<m,Q ((vs.drop (i*k)).take k))→ ∃ L:List (List Value),vs=L.flatten∧L.length=m∧ ∀ c∈L,c.length=k∧Q c
 |0,vs,h,_=>⟨[],by rw[List.flatten_nil];exact List.eq_nil_of_length_eq_zero (by simpa using h),rfl,fun c hc=>by cases hc⟩
 |m+1,vs,h,hq=>by
  obtain⟨L,e,hl,hc⟩:=cut_wide hk (Q:=Q) m (vs.drop k) (by rw[List.length_drop,h,Nat.add_mul];omega) fun i hi=>by
   have:=hq (i+1) (by omega)
   rwa[List.drop_drop,show k+i*k=(i+1)*k by rw[Nat.add_mul];omega]
  refine⟨vs.take k::L,by rw[List.flatten_cons,←e,List.take_append_drop],by simp[hl],fun c h'=> ?_⟩
  rcases List.mem_cons.1 h' with rfl|h'
  ·refine⟨by rw[List.length_take,h,Nat.add_mul];omega,?_⟩
   have:=hq 0 (by omega)
   simpa using this
  ·exact hc c h'
end
end Go.Vc
namespace Go.Proofs.YtphkaogbcfdllaaGreatDoor
open Go Go.Vc Go.Scr Go.Pth Go.Tre Go.ChangeShapes Go.WideShapes Go.RowKit
section
variable {H:Type} {enc:TypeId×Value→H} {w:World} {base:Nat} {sp:Nat→Bool} {held:Bool}
theorem read_files {fuel:Nat} {cs:List Value} {x:DataW H×List MemPlace} (h:DataW.trod enc Tryz.prog w base sp held fuel 46 cs=some x):
  ∃ (a:Option Addr) (n cap:Nat) (L:Tr),cs=[.slice a n cap]∧L.length=n∧n≤cap∧cap≤maxLen∧RowF w.heap a L:=by
 obtain⟨a,n,cap,vs,rfl,hl,hn,hm,hr,_,hel⟩:=read_wide (P:=Tryz.prog) (e:=71) (k:=3) rfl (by kernel_rfl) (by decide) h
 obtain⟨L,rfl,hL,hq⟩:=cut_wide (k:=3) (by decide) (Q:=fun c=>∃ m y,DataW.trod enc Tryz.prog w base sp held m 71 c=some y) n vs hl hel
 have: ∀ L:List (List Value),(∀ c∈L,c.length=3∧ ∃ m y,DataW.trod enc Tryz.prog w base sp held m 71 c=some y)→ ∃ A:Tr,A.length=L.length∧FilesV w.heap A L.flatten:=by
  intro L
  induction L with
  |nil=>intro _;exact⟨[],rfl,.nil⟩
  |cons c L ih=>
   intro hq
   obtain⟨A,hA,hF⟩:=ih fun c hc=>hq c (by simp[hc])
   obtain⟨hc3,m,y,hy⟩:=hq c (by simp)
   obtain⟨xs,k,_,_,_,hlen,hf⟩:=DataW.trod_struct (P:=Tryz.prog) (t:=71) rfl hy
   have g0:=hf 0 _ rfl
   have g1:=hf 1 _ rfl
   have g2:=hf 2 _ rfl
   match xs,hlen,c,hc3 with
   |[y0,y1,y2],_,[u0,u1,u2],_=>
    obtain⟨s,e0,_⟩:=DataW.trod_string (P:=Tryz.prog) rfl g0
    obtain⟨d,e1,_⟩:=DataW.trod_bool (P:=Tryz.prog) rfl g1
    obtain⟨a',n',cap',l',e2,hl',hn',hm',hr',_⟩:=read_bytes (P:=Tryz.prog) (e:=5) rfl rfl (by kernel_rfl) g2
    have e0:u0= .string s:=by
     have:[u0]=[Value.string s]:=e0
     injection this
    have e1:u1= .bool d:=by
     have:[u1]=[Value.bool d]:=e1
     injection this
    have e2:u2= .slice a' n' cap':=by
     have:[u2]=[Value.slice a' n' cap']:=e2
     injection this
    refine⟨(s.data.toList,d,l')::A,by simp[hA],?_⟩
    rw[List.flatten_cons,e0,e1,e2,←hl']
    have:=FilesV.cons (x:=(s.data.toList,d,l')) (a:=a') (cap:=cap') hr' hF
    unfold fileC at this
    rw[mkS_data]at this
    exact this
 obtain⟨A,hA,hF⟩:=this L hq
 exact⟨a,n,cap,A,rfl,by rw[hA,hL],hn,hm,⟨_,hr,hF⟩⟩
end
end Go.Proofs.YtphkaogbcfdllaaGreatDoor
namespace Go.Vc
open Go.ChangeShapes Go.WideShapes Go.RowKit
section
variable {H:Type} {enc:TypeId×Value→H} {P:Program} {w:World} {base:Nat} {spare:Nat→Bool} {held:Bool}
end
end Go.Vc
namespace Go.Proofs.YtphkaogbcfdllaaGreatDoor
open Go Go.Vc Go.ChangeShapes Go.WideShapes Go.ChangeAt Go.RowKit
theorem own:ownKnob Tryz.prog.godebug=none:=by kernel_rfl
abbrev laidF:List (String×DataW Unit):=Rows.vmIfsRow.laid
abbrev laidD:List (String×DataW Unit):=laidF.filter fun x=>x.2.handleName?.isNone
theorem one_row:((List.range Tryz.prog.types.size).filter fun t=>Tryz.prog.rowNamed t [101,114,114,111,114])=[30]:=by kernel_rfl
theorem glb_of_laid {W:World} (h:laidMetH Tryz.prog laidF W):Glb W.heap:=by
 have h':laidMet Tryz.prog laidD W∧handlesMet Tryz.prog (laidF.filter fun x=>x.2.handleName?.isSome) W:=h
 refine⟨?_,?_⟩
 ·obtain⟨name,u,ty,e1,e2,e3,e4,e5⟩:=h'.2 _ (List.mem_singleton.2 rfl)
  have en:name=[101,114,114,111,114]:=(Option.some.inj e1).symm
  subst en
  have hu:some u=some 318:=e2.symm.trans (by kernel_rfl)
  obtain rfl:=Option.some.inj hu
  have hm:ty∈(List.range Tryz.prog.types.size).filter fun t=>Tryz.prog.rowNamed t [101,114,114,111,114]:=List.mem_filter.2 ⟨List.mem_range.2 e3,e4⟩
  rw[one_row]at hm
  obtain rfl:=List.mem_singleton.1 hm
  have hh:typeHandle Tryz.prog 30= .pointer (some ⟨7,30,none⟩):=by kernel_rfl
  rw[hh]at e5
  have hc:W.cell? ⟨0,0,none⟩=some (.iface 318 (.agg #[.pointer (some ⟨7,30,none⟩)])):=by simpa using World.var?_cell (show Tryz.prog.globalNamed _=some 0 by kernel_rfl) e5 0
  rw[cell_heap]at hc
  exact hc
 ·have h3:=laidMet.tail (laidMet.tail h'.1)
  have ht:=Lib.tabIs_of_head (P:=Tryz.prog) (W:=W) (k:= .u64) (zs:=Lib.pow10Tab) (g:=1) (t:=353) (e:=187) (by kernel_rfl) (by kernel_rfl) rfl rfl (by kernel_rfl) (by kernel_rfl) h3
  unfold Lib.TabIs World.var? at ht
  rw[show Tryz.prog.globalNamed _=some 1 by kernel_rfl]at ht
  simp only[Option.bind_some]at ht
  split at ht
  ·rename_i cs t fr he
   cases ht
   exact⟨t,fr,he⟩
  ·cases ht
end Go.Proofs.YtphkaogbcfdllaaGreatDoor
