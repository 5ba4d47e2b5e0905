import Derived.Test.YtjdieklgoepdjaaGreatDoorBo
import Derived.Test.YtjdieklgoepdjaaGreatDoorKe
set_option linter.unusedVariables false
set_option linter.unusedSimpArgs false
set_option maxRecDepth 100000
/- SolveTurned: it says nothing in which order rows stand, nor what packages there are that nothing needs. -/
namespace Go.Slv
open Go.Scr Go.Tre
def v900:VerP:=⟨9,0,0,[]⟩
def zzName (i:Nat):Txt:=[122,122]++decT i
def zzNeed:NeedP:=⟨[97],spAny,tStar⟩
def zzRow (i:Nat):RowP:=⟨zzName i,v900,z32,0,[zzNeed]⟩
def zzR (k:Nat):List RowP:=(List.range k).map zzRow
def turnR (R:List RowP) (t k:Nat):List RowP:=rotR R t++zzR k
theorem zz_name (k:Nat) (hk:k≤2): ∀ e∈zzR k,e.name=zzName 0∨e.name=zzName 1:=fun e he=>by
 obtain⟨i,hi,rfl⟩:=List.mem_map.1 he
 have:=List.mem_range.1 hi
 match i,(show i<2 by omega)with
 |0,_=>exact .inl rfl
 |1,_=>exact .inr rfl
theorem nm_zz (k i:Nat) (hi:i<2):nmN k≠zzName i:=fun e=>by
 have h1:=nmN_ne k
 rw[e]at h1
 match i,hi with
 |0,_=>exact absurd h1 (by decide)
 |1,_=>exact absurd h1 (by decide)
theorem turn_mem {R:List RowP} {t k:Nat} (r:RowP):r∈turnR R t k↔r∈R++zzR k:=by
 unfold turnR
 rw[List.mem_append,List.mem_append,(rot_perm R t).mem_iff]
theorem turn_apart {R:List RowP} (h:MadeOk R) (t k:Nat) (hk:k≤2):Apart (turnR R t k):=by
 unfold turnR
 rw[apart_pair,List.pairwise_append]
 refine⟨apart_pair.1 (apart_perm (rot_perm R t).symm h.apart),?_,fun r hr s hs e=> ?_⟩
 ·unfold zzR
  rw[List.pairwise_map]
  refine List.Pairwise.imp_of_mem (R:=fun a b=>a<b) (fun{a b} ha hb hlt e=> ?_) List.pairwise_lt_range
  have h1:=List.mem_range.1 ha
  have h2:=List.mem_range.1 hb
  have e1:zzName a=zzName b:=e.1
  obtain rfl:a=0:=by omega
  obtain rfl:b=1:=by omega
  exact absurd e1 (by decide)
 ·have hr':=(rot_perm R t).mem_iff.1 hr
  obtain⟨x,sx,rfl,_⟩:=h.row r hr'
  rcases zz_name k hk s hs with g|g
  ·exact nm_zz x.n 0 (by decide) (e.1.trans g)
  ·exact nm_zz x.n 1 (by decide) (e.1.trans g)
theorem turn_unneeded {R:List RowP} (h:MadeOk R) {W:List Nat} (k:Nat) (hk:k≤2):Unneeded R (zzR k) (needsM W):=fun e he=>by
 have hne: ∀ j,(nmN j)≠e.name:=fun j g=>by
  rcases zz_name k hk e he with q|q
  ·exact nm_zz j 0 (by decide) (g.trans q)
  ·exact nm_zz j 1 (by decide) (g.trans q)
 refine⟨fun n hn=> ?_,fun r hr n hn=> ?_⟩
 ·obtain⟨j,rfl⟩:=needsM_mem hn
  exact hne _
 ·rcases List.mem_append.1 hr with hr|hr
  ·obtain⟨x,sx,rfl,_⟩:=h.row r hr
   obtain⟨j,rfl⟩:=needsX_mem hn
   exact hne _
  ·obtain⟨i,_,rfl⟩:=List.mem_map.1 hr
   rw[show(zzRow i).needs=[zzNeed]from rfl,List.mem_singleton]at hn
   subst hn
   exact hne 0
theorem turn_names {R:List RowP} (h:MadeOk R) (t k:Nat) (hk:k≤2):(namesF (turnR R t k)).length≤8:=by
 have hn:(namesF (turnR R t k)).Nodup:=(names_namesF _).ord.imp fun h e=>by subst e;rw[lt_irrefl]at h;cases h
 have:=Go.Vc.nodup_len hn (l:=nmL++[zzName 0,zzName 1]) fun q hq=>by
  obtain⟨r,hr,e⟩:=((names_namesF _).mem q).1 hq
  rw[←e,List.mem_append]
  rcases List.mem_append.1 ((turn_mem r).1 hr)with hr|hr
  ·obtain⟨x,s,rfl,_⟩:=h.row r hr
   exact .inl (nmN_mem _)
  ·rcases zz_name k hk r hr with g|g<;>rw[g]<;>simp
 have h8:(nmL++[zzName 0,zzName 1]).length=8:=rfl
 rw[h8]at this
 exact this
theorem turn_len (R:List RowP) (t k:Nat):(turnR R t k).length=R.length+k:=by
 unfold turnR zzR
 rw[List.length_append,(rot_perm R t).length_eq];simp
theorem turn_best {R:List RowP} (h:MadeOk R) {W:List Nat} (t k:Nat) (hk:k≤2) {o:Option (List PinP)} (ho:Solves R (needsM W) o):Solves (turnR R t k) (needsM W) o:=
 solves_extra (turn_apart h t k hk) turn_mem (turn_unneeded h k hk) ho
theorem ver900:verF [57,46,48,46,48]=some v900:=by decide+kernel
end Go.Slv
namespace Go.Proofs.YtjdieklgoepdjaaGreatDoor
open Go Go.Vc Go.Scr Go.Slv
theorem turn_bounds {R:List RowP} (h:MadeOk R) (t k:Nat):RowsB (turnR R t k):=by
 have hB:=made_bounds h
 have hz: ∀ r∈zzR k,VerS r.v∧r.needs.length≤1000∧ ∀ n∈r.needs,SpnB n.span:=fun r hr=>by
  obtain⟨i,_,rfl⟩:=List.mem_map.1 hr
  refine⟨verS_small (v:=v900) (by decide),by show [zzNeed].length≤1000;decide,fun n hn=> ?_⟩
  rw[show(zzRow i).needs=[zzNeed]from rfl,List.mem_singleton]at hn
  subst hn
  exact spn_b (s:=spAny) (by decide)
 refine⟨fun r hr=> ?_,fun r hr=> ?_,fun r hr=> ?_⟩<;>rcases List.mem_append.1 ((turn_mem r).1 hr)with hr|hr
 ·exact hB.small r hr
 ·exact(hz r hr).1
 ·exact hB.needs r hr
 ·exact(hz r hr).2.1
 ·exact hB.span r hr
 ·exact(hz r hr).2.2
def mixE (H0 H:Heap) (r:RowP) (c:List Value):Prop:=rowE H0 r c∨rowT H r c
theorem mixE_ok (H0:Heap):EncT (mixE H0) 39 rowTT:=⟨fun h=>h.elim row_ok.len rowT_ok.len,fun h=>h.elim row_ok.plain rowT_ok.plain,fun k hF h=>h.imp id (rowT_ok.keep k hF)⟩
theorem mix_row {H0 H:Heap} (k:Ext H0 H) {a:Option Addr} {l:List RowP} (h:RowE (mixE H0) H a l):RowE rowE H a l:=by
 obtain⟨vs,h1,h2⟩:=h.out
 exact⟨vs,h1,h2.mono fun _ _ h=>h.elim (row_ok.ext k) rowT_E⟩
end Go.Proofs.YtjdieklgoepdjaaGreatDoor
