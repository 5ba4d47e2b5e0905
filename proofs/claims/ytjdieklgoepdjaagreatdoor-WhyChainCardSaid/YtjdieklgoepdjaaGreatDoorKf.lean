import Derived.WalkKit
import Derived.KernelRfl
import Derived.Test.YtjdieklgoepdjaaGreatDoorRows
import Derived.Test.YtjdieklgoepdjaaGreatDoorKb
import Derived.Test.YtjdieklgoepdjaaGreatDoorKe
set_option linter.unusedVariables false
set_option linter.unusedSimpArgs false
set_option maxRecDepth 100000
/-
 Plain words for SHA-256,in the walk's own spelling of sums,shifts and bits.
-/
namespace Go.Sha
def H0:List Int:=[1779033703,3144134277,1013904242,2773480762,1359893119,2600822924,528734635,1541459225]
def RC:List Int:=[1116352408,1899447441,3049323471,3921009573,961987163,1508970993,2453635748,2870763221,3624381080,310598401,607225278,1426881987,1925078388,2162078206,2614888103,3248222580,3835390401,4022224774,264347078,604807628,770255983,1249150122,1555081692,1996064986,2554220882,2821834349,2952996808,3210313671,3336571891,3584528711,113926993,338241895,666307205,773529912,1294757372,1396182291,1695183700,1986661051,2177026350,2456956037,2730485921,2820302411,3259730800,3345764771,3516065817,3600352804,4094571909,275423344,430227734,506948616,659060556,883997877,958139571,1322822218,1537002063,1747873779,1955562222,2024104815,2227730452,2361852424,2428436474,2756734187,3204031479,3329325298]
def u32s (l:List Int):Array Value:=(l.map (Value.int .u32)).toArray
def b8:Array Value:=u32s H0
def r64:Array Value:=u32s RC
def rr (k:Nat) (x:Int):Int:=bits .or .u32 (x / 2 ^ k) (x*2 ^ (32-k) % 4294967296)
def In (x:Int):Prop:=0≤x∧x≤4294967295
theorem bits_in (op:BinOp) (a b:Int):In (bits op .u32 a b):=by
 have hw: ∀ n:Int,In (IntKind.u32.wrap n):=fun n=>by
  simp only[IntKind.wrap,IntKind.bits,IntKind.signed,In]
  simp
  omega
 unfold bits
 cases op<;>first|exact hw _|(simp[In])
def c32 (f:Nat→Int) (i:Nat):Value:= .int .u32 (f i)
def z32:Value:= .int .u32 0
def word (B:Nat→Int) (k:Nat):Int:=bits .or .u32 (bits .or .u32 (bits .or .u32 (B (4*k)*16777216) (B (4*k+1)*65536)) (B (4*k+2)*256)) (B (4*k+3))
def sg0 (x:Int):Int:=bits .xor .u32 (bits .xor .u32 (rr 7 x) (rr 18 x)) (x / 8)
def sg1 (y:Int):Int:=bits .xor .u32 (bits .xor .u32 (rr 17 y) (rr 19 y)) (y / 1024)
def grow (a16 a15 a7 a2:Int):Int:=(a16+sg0 a15+a7+sg1 a2) % 4294967296
structure Words (B W:Nat→Int):Prop where
 lo: ∀ k,k<16→W k=word B k
 hi: ∀ k,16≤k→k<64→W k=grow (W (k-16)) (W (k-15)) (W (k-7)) (W (k-2))
 rng: ∀ k,0≤W k∧W k≤4294967295
def s8 (f:Nat→Int):Array Value:= #[.int .u32 (f 0),.int .u32 (f 1),.int .u32 (f 2),.int .u32 (f 3),.int .u32 (f 4),.int .u32 (f 5),.int .u32 (f 6),.int .u32 (f 7)]
def z8:Array Value:= #[z32,z32,z32,z32,z32,z32,z32,z32]
def rc (k:Nat):Int:=RC.getD k 0
def stc (f:Nat→Int):Array Value:=s8 f++r64
theorem s8_get (f:Nat→Int) (i:Nat) (h:i<8):(s8 f)[i]? =some (.int .u32 (f i)):=by
 match i,h with
 |0,_=>rfl
 |1,_=>rfl
 |2,_=>rfl
 |3,_=>rfl
 |4,_=>rfl
 |5,_=>rfl
 |6,_=>rfl
 |7,_=>rfl
theorem stc_hi (f:Nat→Int) (k:Nat) (h:k<64):(stc f)[8+k]? =some (.int .u32 (rc k)):=by
 unfold stc
 rw[Array.getElem?_append_right (by simp[s8])]
 have:(s8 f).size=8:=rfl
 rw[this,show 8+k-8=k by omega]
 have hl:RC.length=64:=by decide+kernel
 have hk:k<RC.length:=by omega
 simp[r64,u32s,rc,hk]
theorem rc_in (k:Nat):0≤rc k∧rc k≤4294967295:=by
 unfold rc
 by_cases hk:k<RC.length
 ·have: ∀ x∈RC,0≤x∧x≤4294967295:=by decide+kernel
  have:=this RC[k] (List.getElem_mem hk)
  simpa [hk]using this
 ·have:RC[k]? =none:=by simp;omega
  simp[this]
def sh (f:Nat→Int):Nat→Int
 |0=>f 0
 |i+1=>f i
def t1 (f:Nat→Int) (r x:Int):Int:=
 f 7+bits .xor .u32 (bits .xor .u32 (rr 6 (f 4)) (rr 11 (f 4))) (rr 25 (f 4))+bits .xor .u32 (bits .and .u32 (f 4) (f 5)) (bits .and .u32 (bits .xor .u32 IntKind.u32.max (f 4)) (f 6))+r+x
def t2 (f:Nat→Int):Int:=
 bits .xor .u32 (bits .xor .u32 (rr 2 (f 0)) (rr 13 (f 0))) (rr 22 (f 0))+bits .xor .u32 (bits .xor .u32 (bits .and .u32 (f 0) (f 1)) (bits .and .u32 (f 0) (f 2))) (bits .and .u32 (f 1) (f 2))
def nx (f:Nat→Int) (r x:Int):Nat→Int
 |0=>(t1 f r x+t2 f) % 4294967296
 |1=>f 0
 |2=>f 1
 |3=>f 2
 |4=>(f 3+t1 f r x) % 4294967296
 |5=>f 4
 |6=>f 5
 |7=>f 6
 |_=>0
def fin (H R:Nat→Int) (k i:Nat):Int:=if i<k then(H i+R i) % 4294967296 else H i
def sumF (H R:Nat→Int) (i:Nat):Int:=(H i+R i) % 4294967296
def wd (B:Nat→Int):Nat→Nat→Int
 |0,_=>0
 |n+1,i=>if i=n then(if n<16 then word B n else grow (wd B n (n-16)) (wd B n (n-15)) (wd B n (n-7)) (wd B n (n-2)))else wd B n i
theorem wd_stay (B:Nat→Int) (i:Nat): ∀ n,i<n→wd B n i=wd B (i+1) i
 |0,h=>by omega
 |n+1,h=>by
  by_cases hi:i=n
  ·rw[hi]
  ·have:wd B (n+1) i=wd B n i:=by show(if i=n then _ else wd B n i)=_;rw[if_neg hi]
   rw[this,wd_stay B i n (by omega)]
theorem wd_out (B:Nat→Int) (i:Nat): ∀ n,n≤i→wd B n i=0
 |0,_=>rfl
 |n+1,h=>by
  show(if i=n then _ else wd B n i)=0
  rw[if_neg (by omega),wd_out B i n (by omega)]
theorem wd_words (B:Nat→Int):Words B (wd B 64):=by
 have step: ∀ k,k<64→wd B 64 k=if k<16 then word B k else grow (wd B k (k-16)) (wd B k (k-15)) (wd B k (k-7)) (wd B k (k-2)):=fun k hk=>by
  rw[wd_stay B k 64 hk]
  show(if k=k then _ else _)=_
  rw[if_pos rfl]
 refine⟨fun k hk=>by rw[step k (by omega),if_pos hk],fun k h16 h64=> ?_,fun k=> ?_⟩
 ·rw[step k h64,if_neg (by omega)]
  have e: ∀ j,0<j→j≤16→wd B k (k-j)=wd B 64 (k-j):=fun j h0 hj=>by rw[wd_stay B (k-j) k (by omega),wd_stay B (k-j) 64 (by omega)]
  rw[e 16 (by omega) (by omega),e 15 (by omega) (by omega),e 7 (by omega) (by omega),e 2 (by omega) (by omega)]
 ·by_cases hk:k<64
  ·rw[step k hk]
   split
   ·exact bits_in _ _ _
   ·unfold grow;omega
  ·rw[wd_out B k 64 (by omega)];omega
def rounds (H W:Nat→Int):Nat→Nat→Int
 |0=>H
 |k+1=>nx (rounds H W k) (rc k) (W k)
def blk (H:Nat→Int) (l:List Int):Nat→Int:=sumF H (rounds H (wd (fun i=>l.getD i 0) 64) 64)
def absorb:Nat→(Nat→Int)→List Int→(Nat→Int)
 |0,H,_=>H
 |k+1,H,l=>absorb k (blk H (l.take 64)) (l.drop 64)
theorem absorb_add (a:Nat): ∀ (b:Nat) (H:Nat→Int) (l:List Int),absorb (a+b) H l=absorb b (absorb a H l) (l.drop (64*a)):=by
 induction a with
 |zero=>intro b H l;simp[absorb]
 |succ a ih=>
  intro b H l
  rw[show a+1+b=(a+b)+1 by omega]
  simp only[absorb]
  rw[ih,List.drop_drop,show 64+64*a=64*(a+1)by omega]
theorem absorb_one (H:Nat→Int) (l:List Int):absorb 1 H l=blk H (l.take 64):=rfl
theorem absorb_succ (k:Nat) (H:Nat→Int) (l:List Int):absorb (k+1) H l=blk (absorb k H l) ((l.drop (64*k)).take 64):=by
 rw[absorb_add k 1,absorb_one]
def h0 (i:Nat):Int:=H0.getD i 0
def zc (n:Nat):Nat:=(119-n % 64) % 64
theorem zc_end (n:Nat):(n+1+zc n) % 64=56:=by unfold zc;omega
theorem zc_first (n k:Nat) (h:k<zc n):(n+1+k) % 64≠56:=by unfold zc at h;omega
theorem zc_lt (n:Nat):zc n<64:=by unfold zc;omega
def len8 (n:Int):List Int:=[n / 72057594037927936 % 256,n / 281474976710656 % 256,n / 1099511627776 % 256,n / 4294967296 % 256,n / 16777216 % 256,n / 65536 % 256,n / 256 % 256,n % 256]
def pad (l:List Int):List Int:=l++[128]++List.replicate (zc l.length) 0++len8 ((l.length:Int)*8)
theorem len8_at (n:Int) (k:Nat) (h:k<8):(len8 n)[k]? =some (n / 2 ^ (8*(7-k)) % 256):=by
 match k,h with
 |0,_=>rfl
 |1,_=>rfl
 |2,_=>rfl
 |3,_=>rfl
 |4,_=>rfl
 |5,_=>rfl
 |6,_=>rfl
 |7,_=>simp[len8]
def shaH (l:List Int):Nat→Int:=absorb ((pad l).length / 64) h0 (pad l)
end Go.Sha
namespace Go.Proofs.YtjdieklgoepdjaaGreatDoor
open Go Go.Vc Go.Sha
theorem table_any (H:Heap):CallH Tryz.prog 139 [] H fun v H'=>v= .agg r64∧Ext H H':=by
 refine Vc.CallH.body Tryz.func139 Tryz.call139 rfl (by decide+kernel) rfl ?_
 ((conv=>whnf);repeat(any_goals(first|(refine Vc.sts ?_;(conv=>whnf)))))
 refine SemH.alloc rfl rfl ?_
 intro H1 hs1 hb1 hx1
 ((conv=>whnf);repeat(any_goals(first|(refine Vc.sts ?_;(conv=>whnf)))))
 refine⟨⟨.agg r64,fun w=>by kernel_rfl,?_⟩⟩
 ((conv=>whnf);repeat(any_goals(first|(refine Vc.sts ?_;(conv=>whnf)))))
 refine DoH.store_all hb1 rfl rfl rfl (by decide+kernel) ?_
 intro H2 hs2 hb2 hx2
 ((conv=>whnf);repeat(any_goals(first|(refine Vc.sts ?_;(conv=>whnf)))))
 refine SemH.load_blk hb2 rfl rfl rfl ?_
 ((conv=>whnf);repeat(any_goals(first|(refine Vc.sts ?_;(conv=>whnf)))))
 exact⟨rfl,rfl,hx1.but hx2 (Nat.le_refl _)⟩
theorem shr_nat (k:Nat) (hk:k≤32) (x:Int):shrB .u32 x k=x / 2 ^ k:=by
 unfold shrB
 rw[Int.toNat_natCast,Nat.min_eq_left (by simpa [IntKind.bits]using hk)]
 exact Int.fdiv_eq_ediv_of_nonneg _ (Int.pow_nonneg (by decide))
theorem wrap32 (x:Int):IntKind.u32.wrap x=x % 4294967296:=by
 simp[IntKind.wrap,IntKind.bits,IntKind.signed]
theorem shl_nat (k:Nat) (hk:k≤32) (x:Int):shlB .u32 x k=x*2 ^ k % 4294967296:=by
 unfold shlB
 rw[Int.toNat_natCast,Nat.min_eq_left (by simpa [IntKind.bits]using hk),wrap32]
theorem bitB_or (a b:Int):bitB .u32 .or a b=bits .or .u32 a b:=rfl
theorem turn_any (x:Int) (m:Int) (h0:0≤m) (h1:m≤32) (H:Heap):CallH Tryz.prog 141 [.int .u32 x,.int .i64 m] H fun v H'=>v= .int .u32 (rr m.toNat x)∧H=H':=by
 refine Vc.CallH.body Tryz.func141 Tryz.call141 rfl (by decide+kernel) rfl ?_
 ((conv=>whnf);repeat(any_goals(first|(refine Vc.sts ?_;(conv=>whnf)))))
 refine⟨?_,rfl⟩
 obtain⟨k,rfl⟩:=Int.eq_ofNat_of_zero_le h0
 show Vc.one [.int .u32 _]=_
 simp only[one,bitB_or]
 rw[shr_nat k (by omega),show(32:Int)-(k:Int)=((32-k:Nat):Int)by omega,shl_nat _ (by omega)]
 rfl
theorem shl_byte (x:UInt8):shlB .u32 x.toNat 24=x.toNat*16777216∧shlB .u32 x.toNat 16=x.toNat*65536∧shlB .u32 x.toNat 8=x.toNat*256:=by
 have:=x.toNat_lt
 refine⟨?_,?_,?_⟩
 ·have:=shl_nat 24 (by omega) (x.toNat:Int);rw[show((24:Nat):Int)=24 from rfl]at this;rw[this];omega
 ·have:=shl_nat 16 (by omega) (x.toNat:Int);rw[show((16:Nat):Int)=16 from rfl]at this;rw[this];omega
 ·have:=shl_nat 8 (by omega) (x.toNat:Int);rw[show((8:Nat):Int)=8 from rfl]at this;rw[this];omega
theorem shr_lit (x:Int):shrB .u32 x 3=x / 8∧shrB .u32 x 10=x / 1024:=by
 refine⟨?_,?_⟩
 ·have:=shr_nat 3 (by omega) x;exact this
 ·have:=shr_nat 10 (by omega) x;exact this
def ints (l:List UInt8):List Int:=l.map fun b=>(b.toNat:Int)
theorem ints_get (l:List UInt8) (i:Nat):(ints l).getD i 0=((l.getD i 0).toNat:Int):=by
 unfold ints
 rw[List.getD_eq_getElem?_getD,List.getD_eq_getElem?_getD,List.getElem?_map]
 cases l[i]?<;>simp
theorem ints_length (l:List UInt8):(ints l).length=l.length:=by simp[ints]
theorem grow_eq (a16 a15 a7 a2:Int):(((a16+bitB .u32 .xor (bitB .u32 .xor (rr (- -7:Int).toNat a15) (rr (- -18:Int).toNat a15)) (shrB .u32 a15 3)) % 4294967296+a7) % 4294967296+
  bitB .u32 .xor (bitB .u32 .xor (rr (- -17:Int).toNat a2) (rr (- -19:Int).toNat a2)) (shrB .u32 a2 10)) % 4294967296=grow a16 a15 a7 a2:=by
 rw[(shr_lit a15).1,(shr_lit a2).2]
 show(((a16+sg0 a15) % 4294967296+a7) % 4294967296+sg1 a2) % 4294967296=_
 unfold grow
 omega
theorem s8_two (f g:Nat→Int) (x y:Int) (h0:x=g 0) (h1:sh f 1=g 1) (h2:sh f 2=g 2) (h3:sh f 3=g 3) (h4:y=g 4) (h5:sh f 5=g 5) (h6:sh f 6=g 6) (h7:sh f 7=g 7):
  ((s8 (sh f)).setIfInBounds 0 (.int .u32 x)).setIfInBounds 4 (.int .u32 y)=s8 g:=by
 unfold s8
 rw[←h0,←h1,←h2,←h3,←h4,←h5,←h6,←h7]
 rfl
theorem s8_nx (f:Nat→Int) (r x:Int):
  ((s8 (sh f)).setIfInBounds 0 (.int .u32 (((((((f 7+bitB .u32 .xor (bitB .u32 .xor (rr (- -6:Int).toNat (f 4)) (rr (- -11:Int).toNat (f 4))) (rr (- -25:Int).toNat (f 4))) % 4294967296+
   bitB .u32 .xor (bitB .u32 .and (f 4) (f 5)) (bitB .u32 .and (bitB .u32 .xor (if IntKind.u32.signed then-1 else IntKind.u32.max) (f 4)) (f 6))) % 4294967296+r) % 4294967296+x) % 4294967296)+
   ((bitB .u32 .xor (bitB .u32 .xor (rr (- -2:Int).toNat (f 0)) (rr (- -13:Int).toNat (f 0))) (rr (- -22:Int).toNat (f 0))+
    bitB .u32 .xor (bitB .u32 .xor (bitB .u32 .and (f 0) (f 1)) (bitB .u32 .and (f 0) (f 2))) (bitB .u32 .and (f 1) (f 2))) % 4294967296)) % 4294967296))).setIfInBounds 4
   (.int .u32 ((f 3+(((((f 7+bitB .u32 .xor (bitB .u32 .xor (rr (- -6:Int).toNat (f 4)) (rr (- -11:Int).toNat (f 4))) (rr (- -25:Int).toNat (f 4))) % 4294967296+
   bitB .u32 .xor (bitB .u32 .and (f 4) (f 5)) (bitB .u32 .and (bitB .u32 .xor (if IntKind.u32.signed then-1 else IntKind.u32.max) (f 4)) (f 6))) % 4294967296+r) % 4294967296+x) % 4294967296)) % 4294967296))=s8 (nx f r x):=by
 refine s8_two f (nx f r x) _ _ ?_ rfl rfl rfl ?_ rfl rfl rfl
 ·show _=(t1 f r x+t2 f) % 4294967296
  unfold t1 t2
  show _=(f 7+bitB .u32 .xor (bitB .u32 .xor (rr (- -6:Int).toNat (f 4)) (rr (- -11:Int).toNat (f 4))) (rr (- -25:Int).toNat (f 4))+bitB .u32 .xor (bitB .u32 .and (f 4) (f 5)) (bitB .u32 .and (bitB .u32 .xor (if IntKind.u32.signed then-1 else IntKind.u32.max) (f 4)) (f 6))+r+x+(bitB .u32 .xor (bitB .u32 .xor (rr (- -2:Int).toNat (f 0)) (rr (- -13:Int).toNat (f 0))) (rr (- -22:Int).toNat (f 0))+
    bitB .u32 .xor (bitB .u32 .xor (bitB .u32 .and (f 0) (f 1)) (bitB .u32 .and (f 0) (f 2))) (bitB .u32 .and (f 1) (f 2)))) % 4294967296
  generalize bitB .u32 .xor (bitB .u32 .xor (rr (- -6:Int).toNat (f 4)) (rr (- -11:Int).toNat (f 4))) (rr (- -25:Int).toNat (f 4))=A
  generalize bitB .u32 .xor (bitB .u32 .and (f 4) (f 5)) (bitB .u32 .and (bitB .u32 .xor (if IntKind.u32.signed then-1 else IntKind.u32.max) (f 4)) (f 6))=B
  generalize bitB .u32 .xor (bitB .u32 .xor (rr (- -2:Int).toNat (f 0)) (rr (- -13:Int).toNat (f 0))) (rr (- -22:Int).toNat (f 0))=C
  generalize bitB .u32 .xor (bitB .u32 .xor (bitB .u32 .and (f 0) (f 1)) (bitB .u32 .and (f 0) (f 2))) (bitB .u32 .and (f 1) (f 2))=D
  omega
 ·show _=(f 3+t1 f r x) % 4294967296
  unfold t1
  show _=(f 3+(f 7+bitB .u32 .xor (bitB .u32 .xor (rr (- -6:Int).toNat (f 4)) (rr (- -11:Int).toNat (f 4))) (rr (- -25:Int).toNat (f 4))+bitB .u32 .xor (bitB .u32 .and (f 4) (f 5)) (bitB .u32 .and (bitB .u32 .xor (if IntKind.u32.signed then-1 else IntKind.u32.max) (f 4)) (f 6))+r+x)) % 4294967296
  generalize bitB .u32 .xor (bitB .u32 .xor (rr (- -6:Int).toNat (f 4)) (rr (- -11:Int).toNat (f 4))) (rr (- -25:Int).toNat (f 4))=A
  generalize bitB .u32 .xor (bitB .u32 .and (f 4) (f 5)) (bitB .u32 .and (bitB .u32 .xor (if IntKind.u32.signed then-1 else IntKind.u32.max) (f 4)) (f 6))=B
  omega
theorem s8_get0 (f:Nat→Int) (i:Nat) (h:i<8):(s8 f)[0+i]? =some (.int .u32 (f i)):=by rw[Nat.zero_add];exact s8_get f i h
theorem fillA_lo0 (n:Nat) (f:Nat→Value) (z:Value) (k i:Nat) (h:i<n) (hk:i<k):(Vc.fillA n f z k)[0+i]? =some (f i):=by rw[Nat.zero_add];exact Vc.fillA_lo n f z k i h hk
end Go.Proofs.YtjdieklgoepdjaaGreatDoor
namespace Go.Proofs.YtjdieklgoepdjaaGreatDoor
open Go Go.Vc
structure Part where
 a:Option Addr
 n:Nat
 cap:Nat
 l:List UInt8
def Part.val (p:Part):Value:= .slice p.a p.n p.cap
structure PartOk (H:Heap) (p:Part):Prop where
 len:p.l.length=p.n
 cap:p.n≤p.cap
 row:Row H p.a (strV p.l)
theorem PartOk.ext {H H':Heap} {p:Part} (h:PartOk H p) (k:Ext H H'):PartOk H' p:=⟨h.len,h.cap,h.row.ext k⟩
structure Parts (H:Heap) (pa:Option Addr) (ps:List Part):Prop where
 row:Row H pa (ps.map Part.val)
 each: ∀ p∈ps,PartOk H p
theorem Parts.ext {H H':Heap} {pa:Option Addr} {ps:List Part} (h:Parts H pa ps) (k:Ext H H'):Parts H' pa ps:=⟨h.row.ext k,fun p hp=>(h.each p hp).ext k⟩
theorem IdxA.part {H:Heap} {pa:Option Addr} {ps:List Part} {n:Nat} {i:Int} {K:Addr→Prop} (h:Parts H pa ps) (hn:ps.length=n) (k:Nat) (hi:i=k) (hk:k<ps.length)
  (hK: ∀ b o,pa=some ⟨b,o,none⟩→hcell H ⟨b,o+k,none⟩=some ps[k].val→K ⟨b,o+k,none⟩):IdxA pa n 1 i K:=by
 obtain⟨b,o,ha,_,hc⟩:=h.row.at (by rw[List.length_map];omega)
 subst hi
 refine⟨by omega,by omega,⟨b,o,none⟩,ha,?_⟩
 rw[addk,Int.toNat_natCast,Nat.mul_one]
 exact hK b o ha (hc _ _ (by simp[hk]))
end Go.Proofs.YtjdieklgoepdjaaGreatDoor
namespace Go.Proofs.YtjdieklgoepdjaaGreatDoor
open Go Go.Vc Go.Sha
def sumL (l:List UInt8):List UInt8:=(List.range 32).map fun i=>UInt8.ofNat (shaH (ints l) (i / 4) / 2 ^ (24-8*(i % 4)) % 256).toNat
theorem sumL_length (l:List UInt8):(sumL l).length=32:=by simp[sumL]
theorem ints_append (a b:List UInt8):ints (a++b)=ints a++ints b:=by simp[ints]
theorem ints_drop (a:List UInt8) (k:Nat):(ints a).drop k=ints (a.drop k):=by simp[ints]
theorem word_congr {B B':Nat→Int} (h: ∀ i,i<64→B i=B' i) {k:Nat} (hk:k<16):word B k=word B' k:=by
 unfold word
 rw[h _ (by omega),h _ (by omega),h _ (by omega),h _ (by omega)]
theorem wd_congr {B B':Nat→Int} (h: ∀ i,i<64→B i=B' i): ∀ n,wd B n=wd B' n
 |0=>rfl
 |n+1=>by
  have ih:=wd_congr h n
  funext i
  show(if i=n then(if n<16 then word B n else grow (wd B n (n-16)) (wd B n (n-15)) (wd B n (n-7)) (wd B n (n-2)))else wd B n i)=(if i=n then(if n<16 then word B' n else grow (wd B' n (n-16)) (wd B' n (n-15)) (wd B' n (n-7)) (wd B' n (n-2)))else wd B' n i)
  rw[ih]
  by_cases hn:n<16
  ·rw[word_congr h hn]
  ·simp only[if_neg hn]
theorem blk_congr (F:Nat→Int) {l m:List Int} (h: ∀ i,i<64→l.getD i 0=m.getD i 0):blk F l=blk F m:=by
 unfold blk
 rw[wd_congr h]
theorem blk_take (F:Nat→Int) (l:List Int):blk F (l.take 64)=blk F l:=by
 refine blk_congr F fun i hi=> ?_
 rw[List.getD_eq_getElem?_getD,List.getD_eq_getElem?_getD,List.getElem?_take,if_pos hi]
def allL (ps:List Part):List UInt8:=ps.flatMap (·.l)
theorem allL_snoc (ps:List Part) (k:Nat) (h:k<ps.length):allL (ps.take (k+1))=allL (ps.take k)++ps[k].l:=by
 rw[List.take_succ_eq_append_getElem h]
 unfold allL
 rw[List.flatMap_append,List.flatMap_cons,List.flatMap_nil,List.append_nil]
theorem allL_take_le (ps:List Part) (k:Nat):(allL (ps.take k)).length≤(allL ps).length:=by
 have:allL ps=allL (ps.take k)++allL (ps.drop k):=by
  unfold allL;rw[←List.flatMap_append,List.take_append_drop]
 rw[this,List.length_append];omega
theorem byte_int (z:Int):(((UInt8.ofNat (z % 256).toNat).toNat:Nat):Int)=z % 256:=by
 have h1:0≤z % 256:=by omega
 have h2:z % 256<256:=by omega
 generalize z % 256=z at h1 h2 ⊢
 have:=Nat.mod_eq_of_lt (show z.toNat<256 by omega)
 simp only[UInt8.toNat_ofNat']
 omega
def sumV (F:Nat→Int) (k:Nat):Nat→Value:=fun i=>if i<k then .int .u8 (F (i / 4) / 2 ^ (24-8*(i % 4)) % 256)else .int .u8 0
theorem sumV_set (F:Nat→Int) (k:Nat):(tab 32 (sumV F k)).setIfInBounds k (.int .u8 (F (k / 4) / 2 ^ (24-8*(k % 4)) % 256))=tab 32 (sumV F (k+1)):=by
 refine tab_set 32 _ _ _ _ ?_ ?_
 ·unfold sumV;rw[if_pos (by omega)]
 ·intro i _ hne
  unfold sumV
  by_cases h:i<k
  ·rw[if_pos h,if_pos (by omega)]
  ·rw[if_neg h,if_neg (by omega)]
theorem sumV_zero (F:Nat→Int):tab 32 (sumV F 0)=Array.replicate 32 (.int .u8 0):=by
 rw[←tab_replicate];exact tab_congr _ _ _ fun i _=>by unfold sumV;rw[if_neg (by omega)]
theorem sumV_done (l:List UInt8):tab 32 (sumV (shaH (ints l)) 32)=(strV (sumL l)).toArray:=by
 unfold sumL
 rw[←tab_strV]
 refine tab_congr _ _ _ fun i hi=> ?_
 unfold sumV
 rw[if_pos hi,byte_int]
theorem sumV_plain (F:Nat→Int) (k:Nat): ∀ u∈(tab 32 (sumV F k)).toList,plainV u=true:=tab_plain _ _ fun i=>by unfold sumV;split<;>rfl
theorem shr_u64 (x:Int) (k:Int) (h0:0≤k) (h1:k≤64):shrB .u64 x k=x / 2 ^ k.toNat:=by
 unfold shrB
 rw[Nat.min_eq_left (by simp[IntKind.bits];omega)]
 exact Int.fdiv_eq_ediv_of_nonneg _ (Int.pow_nonneg (by decide))
def len8B (n:Int):List UInt8:=(len8 n).map fun x=>UInt8.ofNat (x % 256).toNat
theorem len8B_length (n:Int):(len8B n).length=8:=rfl
theorem len8_small (n:Int): ∀ x∈len8 n,x % 256=x:=by
 intro x hx
 simp only[len8,List.mem_cons,List.not_mem_nil,or_false]at hx
 rcases hx with h|h|h|h|h|h|h|h<;>(subst h;omega)
theorem ints_len8 (n:Int):ints (len8B n)=len8 n:=by
 unfold ints len8B
 rw[List.map_map]
 conv=>rhs;rw[←List.map_id (len8 n)]
 refine List.map_congr_left fun x hx=> ?_
 show((UInt8.ofNat (x % 256).toNat).toNat:Int)=id x
 rw[byte_int,len8_small n x hx];rfl
theorem len8B_next (n:Int) (k:Nat) (h:k<8):(len8B n).take k++[UInt8.ofNat (n / 2 ^ (8*(7-k)) % 256).toNat]=(len8B n).take (k+1):=by
 rw[List.take_add_one]
 congr 1
 unfold len8B
 rw[List.getElem?_map,len8_at n k h]
 simp only[Option.map_some,Option.toList_some]
 rw[Int.emod_emod_of_dvd _ (Int.dvd_refl 256)]
def padL (l:List UInt8):List UInt8:=l++[128]++List.replicate (zc l.length) 0++len8B ((l.length:Int)*8)
theorem ints_pad (l:List UInt8):ints (padL l)=pad (ints l):=by
 unfold padL pad
 rw[ints_append,ints_append,ints_append,ints_len8,ints_length]
 congr 2
 simp[ints]
theorem padL_length (l:List UInt8):(padL l).length=l.length+1+zc l.length+8:=by simp[padL,len8B_length];omega
theorem Own.wr_new {H:Heap} {base:Nat} {e:TypeId} {size:Nat} {a:Option Addr} {n cap:Nat} {xs:List Value} (h:Own H base e size a n cap xs): ∀ b,(∃ p,a=some p∧p.block=b)→base≤b:=fun b ⟨p,hp,e⟩=>by have:=(h.block p hp).1;omega
set_option maxHeartbeats 400000 in
theorem pad_any (l:List UInt8) (a:Option Addr) (n cap:Nat) (H:Heap) (hr:Row H a (strV l)) (hn:l.length=n) (hm:n≤70368744177664):
  CallH Tryz.prog 140 [.slice a n cap] H fun v H'=>(∃ a' cap',v= .slice a' (padL l).length cap'∧Own H' H.size 5 1 a' (padL l).length cap' (strV (padL l)))∧Ext H H':=by
 refine Vc.CallH.body Tryz.func140 Tryz.call140 rfl (by decide+kernel) rfl ?_
 ((conv=>whnf);repeat(any_goals(first|(refine Vc.sts ?_;(conv=>whnf)))))
 refine NextH.append (i:=Tryz.t5) (z:= .int .u8 0) (base:=H.size) rfl ⟨_,rfl,fun _ h=>by cases h⟩ rfl rfl rfl (Own.nil _ _ _ _) (Src.row hr (by rw[strV_length,hn];exact(Nat.mul_one _).symm) (strV_plain _)) (by unfold maxLen;omega) (by show(0+n)*1≤_;omega) (Nat.le_refl _) ?_
 intro a1 cap1 H1 ho1 hw1 _
 ((conv=>whnf);repeat(any_goals(first|(refine Vc.sts ?_;(conv=>whnf)))))
 refine SemH.lit (vs:=[_]) rfl rfl rfl rfl rfl rfl rfl ?_
 intro H2 hs2 hb2 hx2
 have hx1:Ext H H1:=⟨hw1.size,fun b hb _=>hw1.same b hb fun⟨p,hp,_⟩=>by cases hp⟩
 have hr2:Row H2 (some ⟨Array.size H1,0,none⟩) (strV [128]):=hb2.row
 ((conv=>whnf);repeat(any_goals(first|(refine Vc.sts ?_;(conv=>whnf)))))
 refine NextH.append (i:=Tryz.t5) (z:= .int .u8 0) rfl ⟨_,rfl,fun _ h=>by cases h⟩ rfl rfl rfl (ho1.ext hx2) (Src.row hr2 rfl (strV_plain _)) (by unfold maxLen;omega) (by show(0+n+1)*1≤_;omega) (by have:=hx1.size;omega) ?_
 intro a3 cap3 H3 ho3 hw3 _
 have hx3:Ext H H3:=Only.trans (hx1.trans hx2) hw3 fun b hb h=>by have:=Own.wr_new ho1 b h;omega
 clear hx2 hr2 hb2
 ((conv=>whnf);repeat(any_goals(first|(refine Vc.sts ?_;(conv=>whnf)))))
 have hz:=zc_lt n
 refine LoopH.intro (fun(s:Nat×Option Addr×Nat)=>[(3,.slice s.2.1 (n+1+s.1) s.2.2)]) (fun s H'=>s.1≤zc n∧Own H' H.size 5 1 s.2.1 (n+1+s.1) s.2.2 (strV (l++[128]++List.replicate s.1 0))∧Ext H H') (fun s=>zc n-s.1) (0,a3,cap3) ⟨by show Value.slice _ _ _=Value.slice _ _ _;rw[show 0+n+1=n+1+0 by omega],trivial⟩ ⟨by omega,?_,hx3⟩ ?_
 ·have h3:Own H3 H.size 5 1 a3 (0+n+1) cap3 ([]++strV l++strV [128]):=ho3
  rw[List.nil_append,←strV_append]at h3
  simpa using h3
 rintro⟨j,a4,cap4⟩ H4 ⟨hj,ho4,hx4⟩
 dsimp only at hj ho4 hx4 ⊢
 have hze:=zc_end n
 by_cases hlt:j<zc n
 ·have hzf:=zc_first n j hlt
  ((conv=>whnf);repeat(any_goals(first|(refine Vc.sts ?_;(conv=>whnf)))))
  refine SemH.lit (vs:=[_]) rfl rfl rfl rfl rfl rfl rfl ?_
  intro H5 hs5 hb5 hx5
  have hr5:Row H5 (some ⟨Array.size H4,0,none⟩) (strV [0]):=hb5.row
  ((conv=>whnf);repeat(any_goals(first|(refine Vc.sts ?_;(conv=>whnf)))))
  refine NextH.append (i:=Tryz.t5) (z:= .int .u8 0) rfl ⟨_,rfl,fun _ h=>by cases h⟩ rfl rfl rfl (ho4.ext hx5) (Src.row hr5 rfl (strV_plain _)) (by unfold maxLen;omega) (by show(n+1+j+1)*1≤_;omega) (by have:=hx4.size;omega) ?_
  intro a6 cap6 H6 ho6 hw6 _
  ((conv=>whnf);repeat(any_goals(first|(refine Vc.sts ?_;(conv=>whnf)))))
  refine⟨(j+1,a6,cap6),⟨rfl,trivial⟩,⟨by omega,?_,Only.trans (hx4.trans hx5) hw6 fun b hb h=>by have:=Own.wr_new ho4 b h;omega⟩,by show zc n-(j+1)<zc n-j;omega⟩
  have:=ho6
  rw[←strV_append,List.append_assoc,←List.replicate_succ']at this
  exact this
 ·obtain rfl:j=zc n:=by omega
  clear ho3 hw3 hx3
  ((conv=>whnf);repeat(any_goals(first|(refine Vc.sts ?_;(conv=>whnf)))))
  refine LoopH.intro (fun(s:Nat×Option Addr×Nat)=>[(5,.int .i64 (7-s.1)),(3,.slice s.2.1 (n+1+zc n+s.1) s.2.2)]) (fun s H'=>s.1≤8∧Own H' H.size 5 1 s.2.1 (n+1+zc n+s.1) s.2.2 (strV (l++[128]++List.replicate (zc n) 0++(len8B ((n:Int)*8)).take s.1))∧Ext H H') (fun s=>8-s.1) (0,a4,cap4) ⟨rfl,rfl,trivial⟩ ⟨by omega,by simpa using ho4,hx4⟩ ?_
  rintro⟨k,a7,cap7⟩ H7 ⟨hk,ho7,hx7⟩
  dsimp only at hk ho7 hx7 ⊢
  by_cases hk8:k<8
  ·((conv=>whnf);repeat(any_goals(first|((refine ArithH.u8m ?_);(conv=>whnf))|(refine Vc.sts ?_;(conv=>whnf)))))
   refine SemH.lit (vs:=[_]) rfl rfl rfl rfl rfl rfl rfl ?_
   intro H8 hs8 hb8 hx8
   have e1:shrB .u64 ((n:Int)*8) (8*(7-(k:Int))) % 256=((UInt8.ofNat (((n:Int)*8) / 2 ^ (8*(7-k)) % 256).toNat).toNat:Int):=by
    rw[byte_int,shr_u64 _ _ (by omega) (by omega),show(8*(7-(k:Int))).toNat=8*(7-k)by omega]
   rw[e1]at hb8
   have hr8:Row H8 (some ⟨Array.size H7,0,none⟩) (strV [UInt8.ofNat (((n:Int)*8) / 2 ^ (8*(7-k)) % 256).toNat]):=hb8.row
   ((conv=>whnf);repeat(any_goals(first|(refine Vc.sts ?_;(conv=>whnf)))))
   refine NextH.append (i:=Tryz.t5) (z:= .int .u8 0) rfl ⟨_,rfl,fun _ h=>by cases h⟩ rfl rfl rfl (ho7.ext hx8) (Src.row hr8 rfl (strV_plain _)) (by unfold maxLen;omega) (by show(n+1+zc n+k+1)*1≤_;omega) (by have:=hx7.size;omega) ?_
   intro a9 cap9 H9 ho9 hw9 _
   ((conv=>whnf);repeat(any_goals(first|(refine Vc.sts ?_;(conv=>whnf)))))
   refine⟨(k+1,a9,cap9),⟨?_,rfl,trivial⟩,⟨by omega,?_,Only.trans (hx7.trans hx8) hw9 fun b hb h=>by have:=Own.wr_new ho7 b h;omega⟩,by show 8-(k+1)<8-k;omega⟩
   ·show Value.int _ _=Value.int _ _
    rw[show(7:Int)-(k:Int)-1=7-((k+1:Nat):Int)by omega]
   ·have:=ho9
    rw[←strV_append,List.append_assoc,len8B_next _ _ hk8]at this
    exact this
  ·obtain rfl:k=8:=by omega
   ((conv=>whnf);repeat(any_goals(first|(refine Vc.sts ?_;(conv=>whnf)))))
   have hpl:(padL l).length=n+1+zc n+8:=by rw[padL_length,hn]
   refine⟨⟨a7,cap7,?_,?_⟩,hx7⟩
   ·rw[hpl];rfl
   ·rw[hpl]
    have:=ho7
    rw[List.take_of_length_le (by rw[len8B_length];omega)]at this
    unfold padL
    rw[hn]
    exact this
theorem grow_eq2 (a16 a15 a7 a2:Int):(((a16+bitB .u32 .xor (bitB .u32 .xor (rr (7:Int).toNat a15) (rr (18:Int).toNat a15)) (shrB .u32 a15 3)) % 4294967296+a7) % 4294967296+
  bitB .u32 .xor (bitB .u32 .xor (rr (17:Int).toNat a2) (rr (19:Int).toNat a2)) (shrB .u32 a2 10)) % 4294967296=grow a16 a15 a7 a2:=grow_eq a16 a15 a7 a2
def one1 (f:Nat→Int) (r x:Int):Int:=((((f 7+bitB .u32 .xor (bitB .u32 .xor (rr (6:Int).toNat (f 4)) (rr (11:Int).toNat (f 4))) (rr (25:Int).toNat (f 4))) % 4294967296+
   bitB .u32 .xor (bitB .u32 .and (f 4) (f 5)) (bitB .u32 .and (bitB .u32 .xor (if IntKind.u32.signed then-1 else IntKind.u32.max) (f 4)) (f 6))) % 4294967296+r) % 4294967296+x) % 4294967296
def two1 (f:Nat→Int):Int:=(bitB .u32 .xor (bitB .u32 .xor (rr (2:Int).toNat (f 0)) (rr (13:Int).toNat (f 0))) (rr (22:Int).toNat (f 0))+
    bitB .u32 .xor (bitB .u32 .xor (bitB .u32 .and (f 0) (f 1)) (bitB .u32 .and (f 0) (f 2))) (bitB .u32 .and (f 1) (f 2))) % 4294967296
theorem nx_four (f:Nat→Int) (r x:Int):(f 3+one1 f r x) % 4294967296=nx f r x 4:=by
 have h:=s8_nx f r x
 have h4:=congrArg (fun a:Array Value=>a[4]?) h
 rw[s8_get _ 4 (by omega)]at h4
 have e:((s8 (sh f)).setIfInBounds 0 (.int .u32 (one1 f r x))).setIfInBounds 4 (.int .u32 ((f 3+one1 f r x) % 4294967296))=((s8 (sh f)).setIfInBounds 0 (.int .u32 (one1 f r x))).setIfInBounds 4 (.int .u32 ((f 3+one1 f r x) % 4294967296)):=rfl
 have h5:some (Value.int .u32 ((f 3+one1 f r x) % 4294967296))=some (Value.int .u32 (nx f r x 4)):=h4
 injection h5 with h5
 injection h5
theorem nx_zero (f:Nat→Int) (r x:Int):(one1 f r x+two1 f) % 4294967296=nx f r x 0:=by
 have h:=s8_nx f r x
 have h4:=congrArg (fun a:Array Value=>a[0]?) h
 rw[s8_get _ 0 (by omega)]at h4
 have h5:some (Value.int .u32 ((one1 f r x+two1 f) % 4294967296))=some (Value.int .u32 (nx f r x 0)):=h4
 injection h5 with h5
 injection h5
theorem s8_set8 (F x:Nat→Int):((((((((s8 F).setIfInBounds (0+0) (.int .u32 (x 0))).setIfInBounds (0+1) (.int .u32 (x 1))).setIfInBounds (0+2) (.int .u32 (x 2))).setIfInBounds (0+3) (.int .u32 (x 3))).setIfInBounds (0+4) (.int .u32 (x 4))).setIfInBounds (0+5) (.int .u32 (x 5))).setIfInBounds (0+6) (.int .u32 (x 6))).setIfInBounds (0+7) (.int .u32 (x 7))=s8 x:=by kernel_rfl
theorem r64_get (k:Nat) (h:k<64):r64[0+k]? =some (.int .u32 (rc k)):=by
 have:=stc_hi h0 k h
 unfold stc at this
 rw[Array.getElem?_append_right (show(s8 h0).size≤8+k by show 8≤_;omega)]at this
 rw[Nat.zero_add,←this]
 congr 1
 show k=8+k-8
 omega
theorem val_out {K:Value→Heap→Prop} {e:Int} {H:Heap} (h: ∀ x,e=x→K (.int .u32 x) H): ∀ v H',v= .int .u32 e∧H=H'→K v H':=by
 rintro _ _ ⟨rfl,rfl⟩;exact h e rfl
theorem u32v {e:Int} {K:Int→Prop} (h: ∀ x,e % 4294967296=x→K x):ArithH .u32 e K:=⟨h _ rfl⟩
set_option maxHeartbeats 2000000 in
theorem rsum_any (l:List UInt8) (a:Option Addr) (n cap:Nat) (H:Heap) (hr:Row H a (strV l)) (hn:l.length=n) (hm:n≤70368744177664):
  CallH Tryz.prog 100 [.slice a n cap] H fun v H'=>v= .agg (strV (sumL l)).toArray∧Ext H H':=by
 refine Vc.CallH.body Tryz.func100 Tryz.call100 rfl (by decide+kernel) rfl ?_
 ((conv=>whnf);repeat(any_goals(first|(refine Vc.sts ?_;(conv=>whnf)))))
 refine SemH.alloc rfl rfl ?_
 intro H1 hs1 hb1 hx1
 ((conv=>whnf);repeat(any_goals(first|(refine Vc.sts ?_;(conv=>whnf)))))
 refine⟨⟨.agg b8,fun w=>by kernel_rfl,?_⟩⟩
 ((conv=>whnf);repeat(any_goals(first|(refine Vc.sts ?_;(conv=>whnf)))))
 refine SemH.alloc rfl rfl ?_
 intro H2 hs2 hb2 hx2
 have hz2:=hb1.ext hx2
 ((conv=>whnf);repeat(any_goals(first|(refine Vc.sts ?_;(conv=>whnf)))))
 refine DoH.store_all hb2 rfl rfl rfl (by decide+kernel) ?_
 intro H3 hs3 hb3 hx3
 have hz3:=hz2.but hx3 (by omega)
 clear hb1 hb2 hz2
 ((conv=>whnf);repeat(any_goals(first|((refine(table_any _).mono ?_;rintro _ H4 ⟨rfl,hx4⟩);(conv=>whnf))|(refine Vc.sts ?_;(conv=>whnf)))))
 refine SemH.alloc rfl rfl ?_
 intro H5 hs5 hb5 hx5
 have hz5:=(hz3.ext hx4).ext hx5
 have hst5:=(hb3.ext hx4).ext hx5
 have hsz4:=hx4.size
 ((conv=>whnf);repeat(any_goals(first|(refine Vc.sts ?_;(conv=>whnf)))))
 refine DoH.store_all hb5 rfl rfl rfl (by decide+kernel) ?_
 intro H6 hs6 hb6 hx6
 have hz6:=hz5.but hx6 (by omega)
 have hst6:=hst5.but hx6 (by omega)
 have hx06:Ext H H6:=((((hx1.trans hx2).but hx3 (by omega)).trans hx4).trans hx5).but hx6 (by omega)
 clear hz5 hst5 hz3 hb3 hb5
 ((conv=>whnf);repeat(any_goals(first|((refine(pad_any l a n cap _ (hr.ext hx06) hn hm).mono ?_;rintro _ H7 ⟨⟨a',cap',rfl,ho7⟩,hx7⟩);(conv=>whnf))|(refine Vc.sts ?_;(conv=>whnf)))))
 have hpl:=padL_length l
 have hzl:=zc_lt l.length
 have hpb:(padL l).length % 64=0:=by have:=zc_end l.length;omega
 have hst7:Blk H7 H1.size (s8 (absorb 0 h0 (ints (padL l)))) 179:=hst6.ext hx7
 have hz7:=hz6.ext hx7
 have hk7:=hb6.ext hx7
 have hrow7:=ho7.row
 have hx07:Ext H H7:=hx06.trans hx7
 have hsz6:=hx7.size
 generalize hPL:padL l=PL at*
 generalize hst:H1.size=st at*
 generalize htb:H4.size=tb at*
 have hst_lt:H.size<st:=by omega
 have htb_lt:st<tb:=by omega
 have htb7:tb<H7.size:=by omega
 have ha': ∀ p,a'=some p→p.block≠st∧p.block≠tb∧p.block<H7.size:=fun p hp=>by have:=ho7.block p hp;omega
 clear hx1 hx2 hx3 hx4 hx5 hx6 hx7 hs1 hs2 hs3 hs5 hs6 hst6 hz6 hb6 hx06
 refine LoopH.intro (fun(b:Nat)=>[(6,.int .i64 (64*b:Nat))]) (fun b H'=>64*b≤PL.length∧Blk H' H.size (Array.replicate 32 (.int .u8 0)) 49∧Blk H' st (s8 (absorb b h0 (ints PL))) 179∧Blk H' tb r64 180∧Row H' a' (strV PL)∧Ext H H'∧H7.size≤H'.size) (fun b=>PL.length-64*b) 0 ⟨rfl,trivial⟩ ⟨by omega,hz7,hst7,hk7,hrow7,hx07,Nat.le_refl _⟩ ?_
 intro b H8 ⟨hb,hz8,hst8,hk8,hr8,hx8,hsz8⟩
 clear hz7 hst7 hk7 hrow7 hx07 ho7
 by_cases hlt:64*b<PL.length
 ·as_aux_lemma=>
  have hdl:64≤(PL.drop (64*b)).length:=by rw[List.length_drop];omega
  obtain⟨W,hW⟩: ∃ W,W=wd (fun i=>(ints (PL.drop (64*b))).getD i 0) 64:=⟨_,rfl⟩
  obtain⟨hlo,hhi,hrg⟩:Words (fun i=>(ints (PL.drop (64*b))).getD i 0) W:=hW▸wd_words _
  generalize hF:absorb b h0 (ints PL)=F at hst8
  ((conv=>whnf);repeat(any_goals(first|(refine Vc.sts ?_;(conv=>whnf)))))
  refine SemH.alloc rfl rfl ?_
  intro H9 hs9 hb9 hx9
  have hb9':Blk H9 H8.size (Vc.fillA 64 (c32 W) z32 0) 180:=by rw[Vc.fillA_zero];exact hb9
  clear hb9
  have hst9:=hst8.ext hx9
  have hz9:=hz8.ext hx9
  have hk9:=hk8.ext hx9
  have hr9:=hr8.ext hx9
  have hx9':=hx8.trans hx9
  generalize hw:H8.size=wb at*
  ((conv=>whnf);repeat(any_goals(first|(refine Vc.sts ?_;(conv=>whnf)))))
  refine LoopH.intro (fun(k:Nat)=>[(8,.int .i64 k)]) (fun k H'=>k≤16∧Blk H' wb (Vc.fillA 64 (c32 W) z32 k) 180∧But wb H9 H') (fun k=>16-k) 0 ⟨rfl,trivial⟩ ⟨by omega,hb9',Only.refl _ _⟩ ?_
  intro k H10 ⟨hk,hb10,hx10⟩
  by_cases hk16:k<16
  ·as_aux_lemma=>
   have hr10:=hr9.keep hx10 fun p hp=>by have:=ha' p hp;omega
   ((conv=>whnf);repeat(any_goals(first|((refine IdxA.bytes hr10 rfl (by omega) (by omega) ?_;intro _ _ _ hc);(conv=>whnf))|(((with_reducible apply SemH.load);rfl;(focus(exact hc)));(conv=>whnf))|((refine ArithH.byte32 ?_);(conv=>whnf))|((refine IdxH.nat k rfl (by omega) ?_);(conv=>whnf))|(refine Vc.sts ?_;(conv=>whnf)))))
   refine DoH.store1 hb10 rfl rfl rfl (by rw[Vc.fillA_size];omega) ?_
   intro H11 hs11 hb11 hx11
   ((conv=>whnf);repeat(any_goals(first|(refine Vc.sts ?_;(conv=>whnf)))))
   refine⟨k+1,⟨rfl,trivial⟩,⟨by omega,?_,hx10.trans hx11 fun _ _=>id⟩,by omega⟩
   have e:bitB .u32 .or (bitB .u32 .or (bitB .u32 .or (shlB .u32 (PL.getD (((64*b:Nat):Int)+4*(k:Int)).toNat 0).toNat 24) (shlB .u32 (PL.getD (((64*b:Nat):Int)+4*(k:Int)+1).toNat 0).toNat 16)) (shlB .u32 (PL.getD (((64*b:Nat):Int)+4*(k:Int)+2).toNat 0).toNat 8)) (PL.getD (((64*b:Nat):Int)+4*(k:Int)+3).toNat 0).toNat=W k:=by
    have hd: ∀ i,(PL.drop (64*b)).getD i 0=PL.getD (64*b+i) 0:=fun i=>by simp[List.getD_eq_getElem?_getD]
    rw[(shl_byte _).1,(shl_byte _).2.1,(shl_byte _).2.2,hlo k hk16]
    simp only[word,ints_get,bitB_or,hd]
    rw[show(((64*b:Nat):Int)+4*(k:Int)).toNat=64*b+4*k by omega,show(((64*b:Nat):Int)+4*(k:Int)+1).toNat=64*b+(4*k+1)by omega,show(((64*b:Nat):Int)+4*(k:Int)+2).toNat=64*b+(4*k+2)by omega,show(((64*b:Nat):Int)+4*(k:Int)+3).toNat=64*b+(4*k+3)by omega]
   rw[Nat.zero_add,e]at hb11
   rw[←Vc.fillA_set 64 (c32 W) z32 k (by omega)]
   exact hb11
  ·as_aux_lemma=>
   obtain rfl:k=16:=by omega
   ((conv=>whnf);repeat(any_goals(first|(refine Vc.sts ?_;(conv=>whnf)))))
   refine LoopH.intro (fun(k:Nat)=>[(9,.int .i64 k)]) (fun k H'=>16≤k∧k≤64∧Blk H' wb (Vc.fillA 64 (c32 W) z32 k) 180∧But wb H9 H') (fun k=>64-k) 16 ⟨rfl,trivial⟩ ⟨by omega,by omega,hb10,hx10⟩ ?_
   intro k H12 ⟨hk1,hk2,hb12,hx12⟩
   by_cases hk64:k<64
   ·as_aux_lemma=>
    have hc: ∀ j,j<k→(Vc.fillA 64 (c32 W) z32 k)[0+j]? =some (.int .u32 (W j)):=fun j hj=>by rw[Nat.zero_add,Vc.fillA_lo _ _ _ _ _ (by omega) hj];rfl
    ((conv=>whnf);repeat(any_goals(first|((refine ArithH.u32m ?_);(conv=>whnf))|((refine IdxH.nat (k-15) (by omega) (by omega) ?_);(conv=>whnf))|((refine IdxH.nat (k-2) (by omega) (by omega) ?_);(conv=>whnf))|((refine IdxH.nat (k-16) (by omega) (by omega) ?_);(conv=>whnf))|((refine IdxH.nat (k-7) (by omega) (by omega) ?_);(conv=>whnf))|((refine IdxH.nat k rfl (by omega) ?_);(conv=>whnf))|(((with_reducible apply SemH.load_at hb12);rfl;(focus(exact hc _ (by omega))));(conv=>whnf))|((refine(turn_any _ _ (by omega) (by omega) _).mono ?_;rintro _ _ ⟨rfl,rfl⟩);(conv=>whnf))|(((with_reducible refine Vc.DrawH.held [0,1,2,3,4,5,7,10,11,14,15,16,17,19,21,24,25,6,8,9,12,13,18,20,22,23,26,27,28,29] [(6,[4,17]),(8,[4,17]),(20,[4,17]),(22,[4,17])] mixed (by decide+kernel) ?_));(conv=>whnf))|((refine StillsH.load rfl rfl rfl rfl rfl rfl (SemH.load_at hb12 rfl (hc _ (by omega)) rfl) ?_);(conv=>whnf))|(refine Vc.sts ?_;(conv=>whnf)))))
    refine DoH.store1 hb12 rfl rfl rfl (by rw[Vc.fillA_size];omega) ?_
    intro H13 hs13 hb13 hx13
    ((conv=>whnf);repeat(any_goals(first|(refine Vc.sts ?_;(conv=>whnf)))))
    refine⟨k+1,⟨rfl,trivial⟩,⟨by omega,by omega,?_,hx12.trans hx13 fun _ _=>id⟩,by omega⟩
    rw[Nat.zero_add,grow_eq2,←hhi k hk1 hk64]at hb13
    rw[←Vc.fillA_set 64 (c32 W) z32 k (by omega)]
    exact hb13
   ·as_aux_lemma=>
    obtain rfl:k=64:=by omega
    clear hb10 hx10 hb9'
    have hst12:=hst9.but hx12 (by omega)
    have hz12:=hz9.but hx12 (by omega)
    have hk12:=hk9.but hx12 (by omega)
    have hr12:=hr9.keep hx12 fun p hp=>by have:=ha' p hp;omega
    have hx12':Ext H H12:=hx9'.but hx12 (by omega)
    have hsz12:=hx12.size
    ((conv=>whnf);repeat(any_goals(first|((refine IdxH.nat _ rfl (by decide) ?_);(conv=>whnf))|(((with_reducible apply SemH.load_at hst12);rfl;rfl);(conv=>whnf))|(refine Vc.sts ?_;(conv=>whnf)))))
    refine LoopH.intro (fun(k:Nat)=>[(20,.int .i64 k),(12,.int .u32 (rounds F W k 0)),(13,.int .u32 (rounds F W k 1)),(14,.int .u32 (rounds F W k 2)),(15,.int .u32 (rounds F W k 3)),(16,.int .u32 (rounds F W k 4)),(17,.int .u32 (rounds F W k 5)),(18,.int .u32 (rounds F W k 6)),(19,.int .u32 (rounds F W k 7))])
     (fun k H'=>k≤64∧H'=H12) (fun k=>64-k) 0 ⟨rfl,rfl,rfl,rfl,rfl,rfl,rfl,rfl,rfl,trivial⟩ ⟨by omega,rfl⟩ ?_
    rintro k _ ⟨hk,rfl⟩
    by_cases hk64:k<64
    ·as_aux_lemma=>
     have hrc:=rc_in k
     have hWk:=hrg k
     have hcW:=fillA_lo0 64 (c32 W) z32 64 k hk64 hk64
     have hcR:=r64_get k hk64
     replace hcW:(fillA 64 (c32 W) z32 64)[0+k]? =some (.int .u32 (W k)):=hcW
     generalize hrk:rc k=rk at hcR hrc
     generalize hwk:W k=wk at hcW hWk
     generalize hR:rounds F W k=R
     ((conv=>whnf);repeat(any_goals(first|((with_reducible refine u32v ?_;intro x hx);(conv=>whnf))|((refine IdxH.nat k rfl (by omega) ?_);(conv=>whnf))|((refine(turn_any _ _ (by omega) (by omega) _).mono ?_;with_reducible refine val_out ?_;intro x hx);(conv=>whnf))|(((with_reducible apply SemH.load_at hb12);rfl;(focus(exact hcW)));(conv=>whnf))|(((with_reducible apply SemH.load_at hk12);rfl;(focus(exact hcR)));(conv=>whnf))|(((with_reducible refine Vc.DrawH.held [0,1,3,6,10,11,12,13,14,15,16,17,19,20,21,23,24,25,2,4,5,7,8,9,18,22,26,27] [(2,[21,25]),(4,[21,25]),(7,[21,25])] mixed (by decide+kernel) ?_));(conv=>whnf))|((refine StillsH.load rfl rfl rfl rfl rfl rfl (SemH.load_at hk12 rfl hcR rfl) ?_);(conv=>whnf))|((refine StillsH.load rfl rfl rfl rfl rfl rfl (SemH.load_at hb12 rfl hcW rfl) ?_);(conv=>whnf))|(refine Vc.sts ?_;(conv=>whnf)))))
     rename_i y1 e1 y2 e2 y3 e3 y4 e4 y5 e5 y6 e6 y7 e7 y8 e8 y9 e9 y10 e10 y11 e11 y12 e12
     have hnx:rounds F W (k+1)=nx R rk wk:=by show nx (rounds F W k) (rc k) (W k)=_;rw[hR,hrk,hwk]
     have q4:x=nx R rk wk 4:=by rw[←nx_four];unfold one1;rw[e1,e2,e3,e4,e5,e6,e7,hx]
     have q0:y12=nx R rk wk 0:=by rw[←nx_zero];unfold one1 two1;rw[e1,e2,e3,e4,e5,e6,e7,e8,e9,e10,e11,e12]
     refine⟨k+1,?_,⟨by omega,rfl⟩,by omega⟩
     dsimp only
     rw[hnx,←q4,←q0]
     exact⟨rfl,rfl,rfl,rfl,rfl,rfl,rfl,rfl,rfl,trivial⟩
    ·as_aux_lemma=>
     obtain rfl:k=64:=by omega
     generalize hR:rounds F W 64=R
     ((conv=>whnf);repeat(any_goals(first|((refine ArithH.u32m ?_);(conv=>whnf))|((refine IdxH.nat _ rfl (by decide) ?_);(conv=>whnf))|(((with_reducible apply SemH.load_at hst12);rfl;rfl);(conv=>whnf))|(refine Vc.sts ?_;(conv=>whnf)))))
     refine DoH.store1 (o:=0+0) hst12 rfl rfl rfl (by show 0+0<8;omega) ?_
     intro K1 hs1 hk1 hy1
     ((conv=>whnf);repeat(any_goals(first|((refine IdxH.nat _ rfl (by decide) ?_);(conv=>whnf))|(refine Vc.sts ?_;(conv=>whnf)))))
     refine DoH.store1 (o:=0+1) hk1 rfl rfl rfl (by simp only[Array.size_setIfInBounds];show 0+1<8;omega) ?_
     intro K2 hs2 hk2 hy2
     ((conv=>whnf);repeat(any_goals(first|((refine IdxH.nat _ rfl (by decide) ?_);(conv=>whnf))|(refine Vc.sts ?_;(conv=>whnf)))))
     refine DoH.store1 (o:=0+2) hk2 rfl rfl rfl (by simp only[Array.size_setIfInBounds];show 0+2<8;omega) ?_
     intro K3 hs3 hk3 hy3
     ((conv=>whnf);repeat(any_goals(first|((refine IdxH.nat _ rfl (by decide) ?_);(conv=>whnf))|(refine Vc.sts ?_;(conv=>whnf)))))
     refine DoH.store1 (o:=0+3) hk3 rfl rfl rfl (by simp only[Array.size_setIfInBounds];show 0+3<8;omega) ?_
     intro K4 hs4 hk4 hy4
     ((conv=>whnf);repeat(any_goals(first|((refine ArithH.u32m ?_);(conv=>whnf))|((refine IdxH.nat _ rfl (by decide) ?_);(conv=>whnf))|(((with_reducible apply SemH.load_at hk4);rfl;rfl);(conv=>whnf))|(refine Vc.sts ?_;(conv=>whnf)))))
     refine DoH.store1 (o:=0+4) hk4 rfl rfl rfl (by simp only[Array.size_setIfInBounds];show 0+4<8;omega) ?_
     intro K5 hs5 hk5 hy5
     ((conv=>whnf);repeat(any_goals(first|((refine IdxH.nat _ rfl (by decide) ?_);(conv=>whnf))|(refine Vc.sts ?_;(conv=>whnf)))))
     refine DoH.store1 (o:=0+5) hk5 rfl rfl rfl (by simp only[Array.size_setIfInBounds];show 0+5<8;omega) ?_
     intro K6 hs6 hk6 hy6
     ((conv=>whnf);repeat(any_goals(first|((refine IdxH.nat _ rfl (by decide) ?_);(conv=>whnf))|(refine Vc.sts ?_;(conv=>whnf)))))
     refine DoH.store1 (o:=0+6) hk6 rfl rfl rfl (by simp only[Array.size_setIfInBounds];show 0+6<8;omega) ?_
     intro K7 hs7 hk7 hy7
     ((conv=>whnf);repeat(any_goals(first|((refine IdxH.nat _ rfl (by decide) ?_);(conv=>whnf))|(refine Vc.sts ?_;(conv=>whnf)))))
     refine DoH.store1 (o:=0+7) hk7 rfl rfl rfl (by simp only[Array.size_setIfInBounds];show 0+7<8;omega) ?_
     intro K8 hs8 hk8 hy8
     ((conv=>whnf);repeat(any_goals(first|(refine Vc.sts ?_;(conv=>whnf)))))
     rename_i H12
     have hy:But st H12 K8:=(((((((hy1.trans hy2 fun _ _=>id).trans hy3 fun _ _=>id).trans hy4 fun _ _=>id).trans hy5 fun _ _=>id).trans hy6 fun _ _=>id).trans hy7 fun _ _=>id).trans hy8 fun _ _=>id)
     have hs:=hy.size
     refine⟨b+1,⟨?_,trivial⟩,⟨by omega,hz12.but hy (by omega),?_,hk12.but hy (by omega),hr12.keep hy fun p hp=>(by have:=ha' p hp;omega),hx12'.but hy (by omega),by omega⟩,by omega⟩
     ·show Value.int _ _=Value.int _ _
      rw[show((64*b:Nat):Int)+64=(64*(b+1):Nat)by omega]
     ·have e8:=s8_set8 F (sumF F R)
      have hfin:absorb (b+1) h0 (ints PL)=sumF F R:=by
       rw[absorb_succ,blk_take,hF,ints_drop]
       unfold blk
       rw[←hW,hR]
      rw[hfin,←e8]
      exact hk8
 ·as_aux_lemma=>
  have hbe:b=PL.length / 64:=by omega
  subst hbe
  have hdone:absorb (PL.length / 64) h0 (ints PL)=shaH (ints l):=by
   unfold shaH
   rw[←hPL,ints_pad,←ints_pad,ints_length]
  rw[hdone]at hst8
  have hlt8:=hst8.lt
  ((conv=>whnf);repeat(any_goals(first|(refine Vc.sts ?_;(conv=>whnf)))))
  refine SemH.alloc rfl rfl ?_
  intro H11 hs11 hb11 hx11
  ((conv=>whnf);repeat(any_goals(first|(refine Vc.sts ?_;(conv=>whnf)))))
  refine LoopH.intro (fun(i:Nat)=>[(24,.int .i64 i)]) (fun i H'=>i≤32∧Blk H' H8.size (tab 32 (sumV (shaH (ints l)) i)) 49∧Blk H' st (s8 (shaH (ints l))) 179∧Blk H' H.size (Array.replicate 32 (.int .u8 0)) 49∧Ext H H') (fun i=>32-i) 0 ⟨rfl,trivial⟩ ⟨by omega,by rw[sumV_zero];exact hb11,hst8.ext hx11,hz8.ext hx11,hx8.trans hx11⟩ ?_
  intro i H12 ⟨hi,hb12,hst12,hz12,hx12⟩
  by_cases hi32:i<32
  ·as_aux_lemma=>
   have hv:=s8_get0 (shaH (ints l)) (i / 4) (by omega)
   ((conv=>whnf);repeat(any_goals(first|((refine IdxH.nat (i / 4) (by omega) (by omega) ?_);(conv=>whnf))|((refine IdxH.nat i rfl (by omega) ?_);(conv=>whnf))|(((with_reducible apply SemH.load_at hst12);rfl;(focus(exact hv)));(conv=>whnf))|((refine ArithH.u8m ?_);(conv=>whnf))|(refine Vc.sts ?_;(conv=>whnf)))))
   refine DoH.store1 (o:=0+i) hb12 rfl rfl rfl (by rw[tab_size];omega) ?_
   intro H13 hs13 hb13 hx13
   ((conv=>whnf);repeat(any_goals(first|(refine Vc.sts ?_;(conv=>whnf)))))
   refine⟨i+1,⟨rfl,trivial⟩,⟨by omega,?_,hst12.but hx13 (by omega),hz12.but hx13 (by omega),hx12.but hx13 (by omega)⟩,by omega⟩
   have e1:shrB .u32 (shaH (ints l) (i / 4)) (24-8*((i:Int) % 4)) % 256=shaH (ints l) (i / 4) / 2 ^ (24-8*(i % 4)) % 256:=by
    rw[show(24-8*((i:Int) % 4))=((24-8*(i % 4):Nat):Int)by omega,shr_nat _ (by omega)]
   rw[Nat.zero_add,e1,sumV_set]at hb13
   exact hb13
  ·as_aux_lemma=>
   obtain rfl:i=32:=by omega
   ((conv=>whnf);repeat(any_goals(first|(refine Vc.sts ?_;(conv=>whnf)))))
   refine SemH.load_blk hb12 rfl rfl (by rw[tab_size];rfl) ?_
   ((conv=>whnf);repeat(any_goals(first|(refine Vc.sts ?_;(conv=>whnf)))))
   refine DoH.store_all hz12 rfl (by rw[tab_size];rfl) (by rw[tab_size];rfl) (sumV_plain _ _) ?_
   intro H13 hs13 hb13 hx13
   ((conv=>whnf);repeat(any_goals(first|(refine Vc.sts ?_;(conv=>whnf)))))
   refine SemH.load_blk hb13 rfl rfl (by rw[tab_size];rfl) ?_
   ((conv=>whnf);repeat(any_goals(first|(refine Vc.sts ?_;(conv=>whnf)))))
   refine⟨rfl,?_⟩
   (conv=>whnf)
   refine⟨?_,hx12.but hx13 (by omega)⟩
   rw[sumV_done];rfl
theorem shaof_any (ps:List Part) (pa:Option Addr) (pn pcap:Nat) (H:Heap) (hp:Parts H pa ps) (hn:ps.length=pn) (hpn:pn≤140737488355328) (htot:(allL ps).length≤70368744177664):
  CallH Tryz.prog 48 [.slice pa pn pcap] H fun v H'=>v= .agg (strV (sumL (allL ps))).toArray∧Ext H H':=by
 refine Vc.CallH.body Tryz.func48 Tryz.call48 rfl (by decide+kernel) rfl ?_
 ((conv=>whnf);repeat(any_goals(first|(refine Vc.sts ?_;(conv=>whnf)))))
 refine SemH.alloc rfl rfl ?_
 intro H1 hs1 hb1 hx1
 ((conv=>whnf);repeat(any_goals(first|(refine Vc.sts ?_;(conv=>whnf)))))
 refine LoopH.intro (fun(s:Nat×Option Addr×Nat)=>[(4,.int .i64 s.1),(3,.slice s.2.1 (allL (ps.take s.1)).length s.2.2)]) (fun s H'=>s.1≤ps.length∧Own H' (H.size+1) 5 1 s.2.1 (allL (ps.take s.1)).length s.2.2 (strV (allL (ps.take s.1)))∧Blk H' H.size (Array.replicate 32 (.int .u8 0)) 50∧Ext H H') (fun s=>ps.length-s.1) (0,none,0) ⟨rfl,rfl,trivial⟩ ⟨Nat.zero_le _,Own.nil _ _ _ _,hb1,hx1⟩ ?_
 rintro⟨k,a1,cap1⟩ H2 ⟨hk,ho2,hz2,hx2⟩
 dsimp only at hk ho2 hz2 hx2 ⊢
 by_cases hlt:k<ps.length
 ·have hP:=hp.each ps[k] (List.getElem_mem hlt)
  have hpx:=hp.ext hx2
  have hsn:=allL_snoc ps k hlt
  have htk:=allL_take_le ps (k+1)
  have hlen:(allL (ps.take (k+1))).length=(allL (ps.take k)).length+ps[k].l.length:=by rw[hsn,List.length_append]
  have hPr:=(hP.ext hx2).row
  have hPn:=hP.len
  generalize hPk:ps[k]=p at*
  obtain⟨a,n,cap,l⟩:=p
  dsimp only at hPn hPr hlen hsn
  ((conv=>whnf);repeat(any_goals(first|((refine IdxA.part hpx hn k rfl hlt ?_;intro _ _ _ hc;rw[hPk]at hc;replace hc:hcell _ _=some (.slice a n cap):=hc);(conv=>whnf))|(((with_reducible apply SemH.load);rfl;(focus(exact hc)));(conv=>whnf))|(refine Vc.sts ?_;(conv=>whnf)))))
  refine NextH.append (i:=Tryz.t5) (z:= .int .u8 0) rfl ⟨_,rfl,fun _ h=>by cases h⟩ rfl rfl rfl ho2 (Src.row hPr (by rw[strV_length,hPn];exact(Nat.mul_one _).symm) (strV_plain _)) (by unfold maxLen;omega) (by show((allL (ps.take k)).length+n)*1≤_;omega) (by have:=hz2.lt;omega) ?_
  intro a3 cap3 H3 ho3 hw3 _
  ((conv=>whnf);repeat(any_goals(first|(refine Vc.sts ?_;(conv=>whnf)))))
  have hF:=Own.wr_new ho2
  refine⟨(k+1,a3,cap3),⟨rfl,?_,trivial⟩,⟨by omega,?_,hz2.keep hw3 fun h=>(by have:=hF _ h;omega),Only.trans hx2 hw3 fun b hb h=>(by have:=hF b h;omega)⟩,by show ps.length-(k+1)<ps.length-k;omega⟩
  ·show Value.slice _ _ _=Value.slice _ _ _
   rw[hlen,←hPn]
  ·show Own H3 _ _ 1 a3 (allL (ps.take (k+1))).length cap3 (strV (allL (ps.take (k+1))))
   rw[hlen,hsn,strV_append,hPn]
   exact ho3
 ·obtain rfl:k=ps.length:=by omega
  rw[List.take_length]at*
  ((conv=>whnf);repeat(any_goals(first|((refine(rsum_any (allL ps) a1 _ cap1 _ ho2.row rfl (by omega)).mono ?_;rintro _ H3 ⟨rfl,hx3⟩);(conv=>whnf))|(refine Vc.sts ?_;(conv=>whnf)))))
  refine DoH.store_all (hz2.ext hx3) rfl (by simp[strV,sumL_length];rfl) (by simp[strV,sumL_length]) (by simpa using strV_plain _) ?_
  intro H4 hs4 hb4 hx4
  ((conv=>whnf);repeat(any_goals(first|(refine Vc.sts ?_;(conv=>whnf)))))
  refine SemH.load_blk hb4 rfl rfl (by simp[strV,sumL_length];rfl) ?_
  ((conv=>whnf);repeat(any_goals(first|(refine Vc.sts ?_;(conv=>whnf)))))
  refine⟨rfl,?_⟩
  (conv=>whnf)
  exact⟨rfl,(hx2.trans hx3).but hx4 (Nat.le_refl _)⟩
theorem parts_nil (H:Heap) (a:Option Addr):Parts H a []:=⟨Row.nil _ _,fun p hp=>by cases hp⟩
theorem parts1 {H:Heap} {g:Nat} {e:TypeId} {p:Part} (hb:Blk H g #[p.val] e) (hp:PartOk H p):Parts H (some ⟨g,0,none⟩) [p]:=
 ⟨Blk.row (c:=[p.val]) hb,fun q hq=>by rw[List.mem_singleton.1 hq];exact hp⟩
theorem allL_one (p:Part):allL [p]=p.l:=by simp[allL]
def digits:List UInt8:=[48,49,50,51,52,53,54,55,56,57,97,98,99,100,101,102]
def hexL (l:List UInt8):List UInt8:=l.flatMap fun x=>[digits.getD (x.toNat / 16) 0,digits.getD (x.toNat % 16) 0]
theorem hexL_length (l:List UInt8):(hexL l).length=2*l.length:=by
 induction l with
 |nil=>rfl
 |cons x l ih=>simp only[hexL,List.flatMap_cons,List.length_append,List.length_cons]at*;rw[ih];simp;omega
theorem hi4': ∀ n:Nat,n<256→shrB .u8 (n:Int) 4=((n / 16:Nat):Int)∧n / 16<16:=by decide+kernel
theorem lo4': ∀ n:Nat,n<256→bitB .u8 .and (n:Int) 15=((n % 16:Nat):Int)∧n % 16<16:=by decide+kernel
theorem hi4 (x:UInt8):shrB .u8 (x.toNat:Int) 4=((x.toNat / 16:Nat):Int)∧x.toNat / 16<16:=hi4' _ x.toNat_lt
theorem lo4 (x:UInt8):bitB .u8 .and (x.toNat:Int) 15=((x.toNat % 16:Nat):Int)∧x.toNat % 16<16:=lo4' _ x.toNat_lt
theorem hexL_snoc (l:List UInt8) (k:Nat) (h:k<l.length):hexL (l.take (k+1))=hexL (l.take k)++[digits.getD ((l.getD k 0).toNat / 16) 0,digits.getD ((l.getD k 0).toNat % 16) 0]:=by
 rw[List.take_succ_eq_append_getElem h]
 unfold hexL
 have e:l.getD k 0=l[k]:=by simp[h]
 rw[List.flatMap_append,e]
 rfl
theorem rhex_any (l:List UInt8) (hl:l.length=32) (H:Heap):CallH Tryz.prog 101 [.agg (strV l).toArray] H fun v H'=>v= .string ⟨(hexL l).toArray⟩∧Ext H H':=by
 refine Vc.CallH.body Tryz.func101 Tryz.call101 rfl (by decide+kernel) rfl ?_
 ((conv=>whnf);repeat(any_goals(first|(refine Vc.sts ?_;(conv=>whnf)))))
 refine SemH.box ?_
 intro H1 hs1 hb1 hx1
 ((conv=>whnf);repeat(any_goals(first|(refine Vc.sts ?_;(conv=>whnf)))))
 refine LoopH.intro (fun(s:Nat×Option Addr×Nat)=>[(4,.int .i64 s.1),(3,.slice s.2.1 (2*s.1) s.2.2)])
  (fun s H'=>s.1≤32∧Own H' (H.size+1) 5 1 s.2.1 (2*s.1) s.2.2 (strV (hexL (l.take s.1)))∧Ext H H'∧Blk H' H.size (strV l).toArray 50) (fun s=>32-s.1) (0,none,0) ⟨rfl,rfl,trivial⟩ ⟨by omega,Own.nil _ _ _ _,hx1,hb1⟩ ?_
 intro ⟨k,a,cap⟩ H2 ⟨hk,ho,hx,hb⟩
 dsimp only at hk ho hx hb ⊢
 by_cases hlt:k<32
 ·obtain⟨e1,b1⟩:=hi4 (l.getD k 0)
  obtain⟨e2,b2⟩:=lo4 (l.getD k 0)
  have hv:(strV l).toArray[0+k]? =some (.int .u8 (l.getD k 0).toNat):=by rw[Nat.zero_add,List.getElem?_toArray,strV_get (by omega)]
  ((conv=>whnf);repeat(any_goals(first|((refine IdxH.nat k rfl hlt ?_);(conv=>whnf))|(((with_reducible apply SemH.load_at hb);rfl;(focus(exact hv)));(conv=>whnf))|(refine Vc.sts ?_;(conv=>whnf)))))
  refine IdxH.nat _ e1 b1 ?_
  ((conv=>whnf);repeat(any_goals(first|((refine IdxH.nat k rfl hlt ?_);(conv=>whnf))|(((with_reducible apply SemH.load_at hb);rfl;(focus(exact hv)));(conv=>whnf))|(refine Vc.sts ?_;(conv=>whnf)))))
  refine IdxH.nat _ e2 b2 ?_
  ((conv=>whnf);repeat(any_goals(first|(refine Vc.sts ?_;(conv=>whnf)))))
  refine SemH.lit (vs:=[_,_]) rfl rfl rfl rfl rfl rfl rfl ?_
  intro H3 hs3 hb3 hx3
  ((conv=>whnf);repeat(any_goals(first|(refine Vc.sts ?_;(conv=>whnf)))))
  have hr:Row H3 (some ⟨Array.size H2,0,none⟩) (strV [digits.getD ((l.getD k 0).toNat / 16) 0,digits.getD ((l.getD k 0).toNat % 16) 0]):=hb3.row
  refine NextH.append (i:=Tryz.t5) (z:= .int .u8 0) rfl ⟨_,rfl,fun _ h=>by cases h⟩ rfl rfl rfl (ho.ext hx3) (Src.row hr rfl (strV_plain _)) (by unfold maxLen;omega) (by show(2*k+2)*1≤_;omega) (by have:=hb.lt;omega) ?_
  intro a' cap' H4 ho4 hw4 _
  ((conv=>whnf);repeat(any_goals(first|(refine Vc.sts ?_;(conv=>whnf)))))
  refine⟨(k+1,a',cap'),⟨rfl,rfl,trivial⟩,⟨by omega,?_,?_,?_⟩,by omega⟩
  ·have:=ho4
   rw[←strV_append,←hexL_snoc l k (by omega)]at this
   exact this
  ·exact Only.trans (hx.ext hx3) hw4 fun b hb ⟨p,hp,e⟩=>by have:=(ho.block p hp).1;omega
  ·exact(hb.ext hx3).keep hw4 fun⟨p,hp,e⟩=>by have:=(ho.block p hp).1;omega
 ·obtain rfl:k=32:=by omega
  ((conv=>whnf);repeat(any_goals(first|(refine Vc.sts ?_;(conv=>whnf)))))
  have hll:(hexL (l.take 32)).length=2*32:=by have:=ho.len;rw[strV_length]at this;omega
  rw[←hll]
  refine SemH.to_string rfl rfl rfl ho.row ?_
  (conv=>whnf)
  refine⟨?_,hx⟩
  rw[List.take_of_length_le (by omega)]
  rfl
end Go.Proofs.YtjdieklgoepdjaaGreatDoor
namespace Go.Proofs.YtjdieklgoepdjaaGreatDoor
open Go Go.Vc Go.Scr Go.Pth Go.Tre
def fileC (x:Txt×Tre.Node) (a:Option Addr) (cap:Nat):List Value:=[.string (mkS x.1),.bool x.2.1,.slice a x.2.2.length cap]
inductive FilesV (H:Heap):Tr→List Value→Prop where
 |nil:FilesV H [] []
 |cons {x:Txt×Tre.Node} {l:Tr} {a:Option Addr} {cap:Nat} {vs:List Value}:Row H a (strV x.2.2)→FilesV H l vs→FilesV H (x::l) (fileC x a cap++vs)
theorem FilesV.len {H:Heap} {A:Tr} {vs:List Value} (h:FilesV H A vs):vs.length=A.length*3:=by
 induction h with
 |nil=>rfl
 |cons _ _ ih=>rw[List.length_append,ih,List.length_cons];show 3+_=_;omega
theorem FilesV.get {H:Heap} {A:Tr} {vs:List Value} (h:FilesV H A vs): ∀ {i:Nat} {x:Txt×Tre.Node},A[i]? =some x→ ∃ a cap,Row H a (strV x.2.2)∧ ∀ j v,(fileC x a cap)[j]? =some v→vs[i*3+j]? =some v:=by
 induction h with
 |nil=>intro i x hx;simp at hx
 | @cons y l a cap vs h _ ih=>
  intro i x hx
  cases i with
  |zero=>
   simp only[List.getElem?_cons_zero,Option.some.injEq]at hx
   subst hx
   refine⟨a,cap,h,fun j v hv=> ?_⟩
   have hj:=(List.getElem?_eq_some_iff.1 hv).1
   rw[Nat.zero_mul,Nat.zero_add,List.getElem?_append_left hj];exact hv
  |succ i=>
   obtain⟨a',cap',h1,h2⟩:=ih (i:=i) (x:=x) (by simpa using hx)
   refine⟨a',cap',h1,fun j v hv=> ?_⟩
   rw[List.getElem?_append_right (by show 3≤_;omega)]
   have e:(i+1)*3+j-(fileC y a cap).length=i*3+j:=by show(i+1)*3+j-3=_;omega
   rw[e];exact h2 j v hv
structure RowF (H:Heap) (a:Option Addr) (A:Tr):Prop where
 out: ∃ vs,Row H a vs∧FilesV H A vs
theorem IdxA.file {H:Heap} {a:Option Addr} {A:Tr} {n:Nat} {i:Int} {K:Addr→Prop} (h:RowF H a A) (hn:A.length=n) (j:Nat) (x:Txt×Tre.Node) (hi:i=j) (hx:A[j]? =some x)
  (hk: ∀ b o a' cap',Row H a' (strV x.2.2)→(∀ k v,(fileC x a' cap')[k]? =some v→hcell H ⟨b,o+k,none⟩=some v)→K ⟨b,o,none⟩):IdxA a n 3 i K:=by
 obtain⟨vs,h1,h2⟩:=h.out
 have hj:=(List.getElem?_eq_some_iff.1 hx).1
 obtain⟨a',cap',g1,g2⟩:=h2.get hx
 refine Go.Vc.IdxA.row (size:=3) h1 (by rw[h2.len,hn]) (by decide) j hi (by omega) fun b o k1 k2 k3=> ?_
 exact hk b (o+j*3) a' cap' g1 fun k v hv=>k3 k v (g2 k v hv)
end Go.Proofs.YtjdieklgoepdjaaGreatDoor
namespace Go.Arc
open Go.Scr Go.Pth Go.Tre
def byteB (n k i:Nat):UInt8:=UInt8.ofNat (n / 2 ^ (8*(k-1-i)) % 256)
def numB (n k:Nat):Txt:=(List.range k).map (byteB n k)
theorem numB_len (n k:Nat):(numB n k).length=k:=by simp[numB]
theorem numB_take (n k i:Nat) (h:i<k):(numB n k).take (i+1)=(numB n k).take i++[byteB n k i]:=by
 rw[List.take_add_one]
 have:(numB n k)[i]? =some (byteB n k i):=by simp[numB,h]
 rw[this];rfl
end Go.Arc
namespace Go.Proofs.YtjdieklgoepdjaaGreatDoor
open Go Go.Vc Go.Scr Go.Pth Go.Tre Go.Arc
theorem shr_byte (n k i:Nat) (hi:i<k) (hk:k≤8):shrB .u64 (n:Int) (8*((k:Int)-1-(i:Int))) % 256=((byteB n k i).toNat:Int):=by
 have e:(8*((k:Int)-1-(i:Int))).toNat=8*(k-1-i):=by omega
 unfold shrB byteB
 rw[e,show min (8*(k-1-i)) IntKind.u64.bits=8*(k-1-i)from Nat.min_eq_left (by show _≤64;omega),Int.fdiv_eq_ediv_of_nonneg _ (by exact Int.le_of_lt (Int.pow_pos (by decide)))]
 rw[UInt8.toNat_ofNat']
 have:((n:Int) / 2 ^ (8*(k-1-i)))=((n / 2 ^ (8*(k-1-i)):Nat):Int):=by
  rw[Int.natCast_ediv,Int.natCast_pow];rfl
 rw[this]
 omega
abbrev Upd (base:Nat) (H H':Heap):Prop:=Only (fun x=>base≤x∧ ∃ c,Blk H x c 5) H H'
theorem Upd.wr {base n cap:Nat} {a:Option Addr} {xs:List Value} {H H':Heap} (ho:Own H base 5 1 a n cap xs) (hw:Wr a H H'):Upd base H H':=hw.mono fun x ⟨p,hp,e⟩=>by
 rcases ho.out with ⟨h1,_⟩|⟨g,cur,h1,hb,hg,_⟩
 ·rw[h1]at hp;cases hp
 ·rw[h1]at hp;cases hp
  exact e▸⟨hb,cur,hg⟩
theorem Upd.then {base:Nat} {A B C:Heap} (h:Upd base A B) (k:Upd base B C):Upd base A C:=Only.trans h k fun b hb ⟨h1,c,h2⟩=>by
 by_cases hf:base≤b∧ ∃ c,Blk A b c 5
 ·exact hf
 ·obtain⟨fr,e1,e2⟩:=h2.out
  exact⟨h1,c,⟨fr,by rw[←h.same b hb hf];exact e1,e2⟩⟩
theorem Upd.ext {base:Nat} {H0 H H':Heap} (k:Upd base H H') (h:Ext H0 H) (hb:H0.size≤base):Ext H0 H':=Only.trans h k fun b h1 ⟨h2,_⟩=>by omega
structure PuS where
 i:Nat
 a:Option Addr
 cap:Nat
end Go.Proofs.YtjdieklgoepdjaaGreatDoor
namespace Go.Vc
variable {P:Program}
structure Blk0 (H:Heap) (b:Nat) (c:Array Value) (t:TypeId):Prop where out:H[b]? =some (.cells c t (0,0))
theorem SemH.buildSlice0 {H:Heap} {t e:TypeId} {i:TypeInfo} {z:Value} {n:Nat} {parts:Array (Nat×Value)} {cs:Array Value} {K:Value→Heap→Prop} (ht:P.underlying t=some (.slice e)) (hi:P.info? e=some i) (hz:i.zero=some z) (hsm: ¬n*i.size > 2 ^ 24)
  (hf:Instr.fill (fun j=>some (j*i.size,i.size)) ((Array.range (n*i.size)).map ((if n*i.size=0 then #[]else z.cells)[· % (if n*i.size=0 then #[]else z.cells).size]!)) parts.toList=some cs)
  (hk: ∀ H',H'.size=H.size+1→Blk0 H' H.size cs e→Ext H H'→K (.slice (some ⟨H.size,0,none⟩) n n) H'):SemH P (Instr.buildSlice t n parts) H K:=by
 refine⟨fun w hw=>⟨.slice (some ⟨w.heap.size,0,none⟩) n n,{w with heap:=w.heap.push (.cells cs e)},?_,⟨rfl,rfl,rfl⟩,?_⟩⟩
 ·simp only[Instr.buildSlice,Sem.run_bind,underlying_of ht,Result.andThen_ok,sizeOf_of hi,if_neg hsm]
  by_cases h0:n*i.size=0
  ·simp only[if_pos h0]at hf ⊢
   simp only[Sem.run_bind,Sem.run_pure,Result.andThen_ok]
   rw[hf]
   simp only[Sem.run_bind,newRow,run_newObj,Result.andThen_ok,Sem.run_pure]
  ·simp only[if_neg h0]at hf ⊢
   simp only[Sem.run_bind,zeroValue,typeInfo_of hi,hz,Sem.run_pure,Result.andThen_ok]
   rw[hf]
   simp only[Sem.run_bind,newRow,run_newObj,Result.andThen_ok,Sem.run_pure]
 ·subst hw
  exact hk _ (by simp) ⟨push_last _ _⟩ (Only.push _ _ _)
theorem SemH.lit0 {H:Heap} {t e:TypeId} {i:TypeInfo} {z:Value} {n:Nat} {parts:Array (Nat×Value)} (vs:List Value) {K:Value→Heap→Prop} (ht:P.underlying t=some (.slice e)) (hi:P.info? e=some i) (hz:i.zero=some z) (hn:vs.length=n)
  (hp:parts.toList=(List.range' 0 vs.length).zip vs) (hsm:Nat.ble (n*i.size) 16777216=true) (hc:(vs.all fun v=>Nat.beq v.cells.size i.size)=true)
  (hk: ∀ H',H'.size=H.size+1→Blk0 H' H.size (vs.flatMap fun v=>v.cells.toList).toArray e→Ext H H'→K (.slice (some ⟨H.size,0,none⟩) n n) H'):SemH P (Instr.buildSlice t n parts) H K:=by
 have hsm:=Nat.le_of_ble_eq_true hsm
 have hc: ∀ v∈vs,v.cells.size=i.size:=fun v hv=>Nat.eq_of_beq_eq_true (List.all_eq_true.1 hc v hv)
 refine SemH.buildSlice0 (cs:=(vs.flatMap fun v=>v.cells.toList).toArray) ht hi hz (by omega) ?_ hk
 rw[hp,fill_parts i.size vs 0 _ hc (by rw[hn];simp)]
 congr 1
 have h0:0*i.size=0:=Nat.zero_mul _
 rw[h0]
 refine over_all _ (vs.flatMap fun v=>v.cells.toList).toArray ?_
 simp only[List.size_toArray,Array.size_map,Array.size_range]
 rw[flat_len hc,hn]
theorem SemH.mark0 {t e:TypeId} {A H:Heap} {g n cap:Nat} {c:Array Value} {ty:TypeId} {K:Value→Heap→Prop} (ht:P.underlying t=some (.slice e)) (he:P.underlying e=some (.int .u8)) (hb:Blk0 H g c ty) (hx:Ext A H) (hg:A.size≤g)
  (hk: ∀ H',H'.size=H.size→Blk H' g c ty→Ext A H'→K (.slice (some ⟨g,0,none⟩) n cap) H'):SemH P (convert t t (.slice (some ⟨g,0,none⟩) n cap)) H K:=by
 have h1:=hb.out
 refine⟨fun w hw=>⟨_,w.freeze ⟨g,c.size,none⟩ 1,?_,⟨rfl,rfl,rfl⟩,hk _ ?_ ?_ ?_⟩⟩
 ·have hsh:w.shape? g=some (ty,c.size):=by
   unfold World.shape?
   rw[hw,h1]
  simp[convert,underlying_of ht,underlying_of he,markStringish,hsh]
 ·subst hw;simp[World.freeze]
 ·subst hw
  refine⟨(c.size,c.size+1),?_,.inr (Nat.le_refl _)⟩
  simp[World.freeze,Array.getElem?_modify,h1]
 ·subst hw
  refine⟨by simpa [World.freeze]using hx.size,fun b h _=> ?_⟩
  rw[←hx.same b h id]
  have hne:g≠b:=by omega
  simp[World.freeze,Array.getElem?_modify,hne]
end Go.Vc
namespace Go.Arc
open Go.Scr Go.Pth Go.Tre
def entB (f:Txt×Tre.Node):Txt:=[if f.2.1=true then 1 else 0]++numB (min f.1.length 65535) 2++f.1.take 65535++(if f.2.1=true then []else numB f.2.2.length 8++f.2.2)
def packP (L:List (Txt×Tre.Node)) (i:Nat):Txt:=[80,65,75,49]++(L.take i).flatMap entB
def packF (L:List (Txt×Tre.Node)):Txt:=packP L L.length++[255]
theorem packP_snoc (L:List (Txt×Tre.Node)) (i:Nat) (f:Txt×Tre.Node) (h:L[i]? =some f):packP L (i+1)=packP L i++entB f:=by
 unfold packP
 rw[List.take_add_one,h,List.flatMap_append];simp
theorem entB_len (f:Txt×Tre.Node) (hb:f.2.2.length≤1000000):(entB f).length≤1100000:=by
 unfold entB
 simp only[List.length_append,List.length_singleton,numB_len,List.length_take]
 split
 ·simp;omega
 ·simp[numB_len];omega
theorem packP_len (L:List (Txt×Tre.Node)) (hb: ∀ f∈L,f.2.2.length≤1000000): ∀ i,i≤L.length→(packP L i).length≤4+1100000*i
 |0,_=>by simp[packP]
 |i+1,h=>by
  have hf:L[i]? =some L[i]:=List.getElem?_eq_getElem (by omega)
  have h1:=packP_len L hb i (by omega)
  have h2:=entB_len L[i] (hb _ (List.getElem_mem _))
  rw[packP_snoc L i _ hf,List.length_append];omega
end Go.Arc
namespace Go.Proofs.YtjdieklgoepdjaaGreatDoor
open Go Go.Vc Go.Scr Go.Pth Go.Tre Go.Arc
theorem NextH.appB {H:Heap} {u ty:TypeId} {a:Option Addr} {n cap base m:Nat} {l y:Bs} {x:Value} {cb:Array Bool} {K:Value→Heap→Prop}
  (hown:Own H base 5 1 a n cap (strV l)) (hsrc:Src Tryz.prog H x 1 m (strV y)) (hn:n≤1000000000000) (hm:m≤1000000000000) (hb:base≤H.size) (hu: ∃ d,Tryz.prog.underlying u=some d∧(∀ k,d≠ .int k))
  (hk: ∀ a' cap' H',Own H' base 5 1 a' (n+m) cap' (strV (l++y))→Wr a H H'→K (.slice a' (n+m) cap') H'):NextH Tryz.prog (builtin .append #[68,u] ty cb #[.slice a n cap,x]) H K:=by
 refine Go.Vc.NextH.append (i:=Tryz.t5) (z:= .int .u8 0) rfl hu rfl rfl rfl hown hsrc (by unfold maxLen;omega) ?_ hb fun a' cap' H' h1 h2 _=>hk a' cap' H' (by rw[strV_append];exact h1) h2
 show(n+m)*1≤_
 omega
structure PkS where
 i:Nat
 a:Option Addr
 cap:Nat
theorem rnumber_bytes (l:Bs) (a:Option Addr) (m cap base n k:Nat) (H:Heap) (ho:Own H base 5 1 a m cap (strV l)) (hb:base≤H.size) (hl:l.length=m) (hm:m≤1000000000000) (hn:n≤1000000000000) (hk:k≤8):
  CallH Tryz.prog 99 [.slice a m cap,.int .u64 n,.int .i64 k] H fun v H'=>(∃ a' cap',v= .slice a' (m+k) cap'∧Own H' base 5 1 a' (m+k) cap' (strV (l++numB n k)))∧Upd base H H':=by
 refine Vc.CallH.body Tryz.func99 Tryz.call99 rfl (by decide+kernel) rfl ?_
 ((conv=>whnf);repeat(any_goals((first|refine Vc.stp ?_|refine Vc.spl ?_ ?_)<;>(intros;(conv=>whnf)))))
 refine LoopH.intro (fun(s:PuS)=>[(7,.int .i64 ((k:Int)-1-s.i)),(0,.slice s.a (m+s.i) s.cap)]) (fun s H'=>s.i≤k∧Own H' base 5 1 s.a (m+s.i) s.cap (strV (l++(numB n k).take s.i))∧base≤H'.size∧Upd base H H') (fun s=>k-s.i) ⟨0,a,cap⟩ ⟨by(show Value.int .i64 ((k:Int)-1)= .int .i64 ((k:Int)-1-((0:Nat):Int)));congr 1;omega,rfl,trivial⟩ ⟨Nat.zero_le _,by simpa using ho,hb,Only.refl _ _⟩ ?_
 rintro⟨i,sa,sc⟩ H1 ⟨hi,ho1,hb1,hx1⟩
 dsimp only at hi ho1 ⊢
 by_cases hlt:i<k
 ·have hsh:=shr_byte n k i hlt hk
  have htl:((numB n k).take i).length=i:=by rw[List.length_take,numB_len];omega
  ((conv=>whnf);repeat(any_goals((first|(refine ArithH.u8m ?_;rw[hsh])|(rename_i Hl zl bl xl;refine NextH.push1b bl (ho1.ext xl) (by omega) (by omega) rfl ⟨_,rfl,fun _ h=>by cases h⟩ rfl rfl rfl rfl rfl rfl rfl ?_;intro a2 c2 H2 ho2 hz2 hw2)|refine Vc.stp ?_)<;>(intros;(conv=>whnf)))))
  refine⟨⟨i+1,a2,c2⟩,⟨by(show Value.int .i64 ((k:Int)-1-(i:Int)-1)= .int .i64 ((k:Int)-1-((i+1:Nat):Int)));congr 1;omega,rfl,trivial⟩,⟨by show i+1≤k;omega,?_,by omega,(hx1.then xl.only).then (Upd.wr (ho1.ext xl) hw2)⟩,by show k-(i+1)<k-i;omega⟩
  show Own H2 base _ 1 a2 (m+(i+1)) c2 _
  rw[numB_take n k i hlt,←List.append_assoc,strV_append,←Nat.add_assoc];exact ho2
 ·obtain rfl:i=k:=by omega
  rw[List.take_of_length_le (by rw[numB_len];exact Nat.le_refl _)]at ho1
  ((conv=>whnf);repeat(any_goals((first|refine Vc.stp ?_)<;>(intros;(conv=>whnf)))))
  exact⟨⟨sa,sc,rfl,ho1⟩,hx1⟩
set_option maxHeartbeats 1000000 in
theorem rpack_any (L:Tr) (a:Option Addr) (n cap:Nat) (H:Heap) (hr:RowF H a L) (hn:L.length=n) (hn1:n≤600) (hb: ∀ f∈L,f.2.2.length≤1000000):CallH Tryz.prog 46 [.slice a n cap] H fun v H'=>
  (∃ a' cap',v= .slice a' (packF L).length cap'∧Own H' H.size 5 1 a' (packF L).length cap' (strV (packF L)))∧Ext H H':=by
 refine Vc.CallH.body Tryz.func46 Tryz.call46 rfl (by decide+kernel) rfl ?_
 ((conv=>whnf);repeat(any_goals((first|((with_reducible apply SemH.lit0 [.int .u8 80,.int .u8 65,.int .u8 75,.int .u8 49]);rfl;rfl;rfl;rfl;rfl;rfl;rfl;(intro H1 hz1 hb1 hx1;(conv=>whnf)))|(refine SemH.mark0 rfl rfl hb1 hx1 (Nat.le_refl _) ?_;intro H2 hz2 hb2 hx2)|refine Vc.stp ?_)<;>(intros;(conv=>whnf)))))
 have ho2:Own H2 H.size 5 1 (some ⟨H.size,0,none⟩) 4 4 (strV [80,65,75,49]):=own_lit hb2 (Nat.le_refl _) rfl (by decide)
 have hpl:=packP_len L hb
 refine LoopH.intro (fun(s:PkS)=>[(4,.int .i64 s.i),(3,.slice s.a (packP L s.i).length s.cap)]) (fun s H'=>s.i≤n∧Own H' H.size 5 1 s.a (packP L s.i).length s.cap (strV (packP L s.i))∧Ext H H') (fun s=>n-s.i) ⟨0,some ⟨H.size,0,none⟩,4⟩ ⟨rfl,rfl,trivial⟩ ⟨Nat.zero_le _,ho2,hx2⟩ ?_
 rintro⟨i,sa,sc⟩ H3 ⟨hi,ho3,hx3⟩
 dsimp only at hi ho3 ⊢
 have hz3:=hx3.size
 have hpi:=hpl i (by omega)
 by_cases hlt:i<n
 ·obtain⟨f,hf⟩: ∃ f,L[i]? =some f:=⟨_,List.getElem?_eq_getElem (by omega)⟩
  have hfb:=hb f (List.mem_of_getElem? hf)
  have hsn:=packP_snoc L i f hf
  have hsz:(mkS f.1).size=f.1.length:=rfl
  by_cases hlong:f.1.length≤65535
  ·obtain⟨P0,hP0⟩: ∃ P0,P0=f.1:=⟨_,rfl⟩
   have hts:(mkS P0).size=P0.length:=rfl
   have hpl0:P0.length≤65535:=by rw[hP0];exact hlong
   have hee:entB f=[if f.2.1=true then 1 else 0]++numB P0.length 2++P0++(if f.2.1=true then []else numB f.2.2.length 8++f.2.2):=by unfold entB;rw[Nat.min_eq_left hlong,List.take_of_length_le hlong,hP0]
   by_cases hd:f.2.1=true
   ·rw[if_pos hd,if_pos hd]at hee
    obtain⟨KB,hKB⟩: ∃ k:UInt8,k=1:=⟨_,rfl⟩
    ((conv=>whnf);repeat(any_goals((first|(refine IdxA.file hr hn i f (by omega) hf ?_;intro bi oi ai ci hri hci;have hd0:=hci 0 _ rfl;have hd1:=hci 1 _ rfl;have hd2:=hci 2 _ rfl;try rw[←hP0]at hd0)|(rename_i Hl zl bl xl;have hol:=ho3.ext xl;have blk:Blk Hl H3.size (strV [KB]).toArray 5:=(by rw[hKB];exact bl);refine NextH.appB (y:=[KB]) hol (Src.row (Blk.row (c:=strV [KB]) blk) rfl (strV_plain _)) (by omega) (by decide) (by omega) ⟨_,rfl,fun _ h=>by cases h⟩ ?_;intro a4 c4 H4 ho4 hw4;have u4:=Upd.wr hol hw4;have hx04:=Upd.ext u4 (hx3.trans xl) (Nat.le_refl _);have hz4:=hx04.size)|(refine(rnumber_bytes (packP L i++[KB]) a4 _ c4 H.size P0.length 2 H4 ho4 hz4 (by simp) (by omega) (by omega) (by decide)).mono ?_;rintro _ H5 ⟨⟨a5,c5,rfl,ho5⟩,u5⟩;have hx05:=Upd.ext u5 hx04 (Nat.le_refl _);have hz5:=hx05.size)|(refine NextH.appB (y:=P0) (m:=(mkS (P0)).size) ho5 (Src.str (mkS (P0))) (by omega) (by omega) (by omega) ⟨_,rfl,fun _ h=>by cases h⟩ ?_;intro a6 c6 H6 ho6 hw6;have u6:=Upd.wr ho5 hw6;have hx06:=Upd.ext u6 hx05 (Nat.le_refl _);have hz6:=hx06.size)|((with_reducible refine Vc.DrawH.held [0,1,2,3,4,5,6,7,9,10,11,12,13,8,14,15] [(8,[13])] mixed (by decide+kernel) ?_))|refine Vc.stp ?_)<;>(intros;(conv=>whnf)))))
    have hfin:packP L (i+1)=packP L i++[KB]++numB P0.length 2++P0:=by rw[hsn,hee,hKB];simp
    have hfl:(packP L (i+1)).length=(packP L i).length+1+2+(mkS P0).size:=by rw[hfin,hts];simp[numB_len];omega
    exact⟨⟨i+1,a6,c6⟩,⟨rfl,by dsimp only;rw[hfl];rfl,trivial⟩,⟨by show i+1≤n;omega,by dsimp only;rw[hfl,hfin];exact ho6,hx06⟩,by show n-(i+1)<n-i;omega⟩
   ·rw[if_neg hd,if_neg hd]at hee
    have hdf:f.2.1=false:=by simpa using hd
    obtain⟨KB,hKB⟩: ∃ k:UInt8,k=0:=⟨_,rfl⟩
    ((conv=>whnf);repeat(any_goals((first|(refine IdxA.file hr hn i f (by omega) hf ?_;intro bi oi ai ci hri hci;have hd0:=hci 0 _ rfl;have hd1:=hci 1 _ rfl;have hd2:=hci 2 _ rfl;try rw[←hP0]at hd0)|(rename_i Hl zl bl xl;have hol:=ho3.ext xl;have blk:Blk Hl H3.size (strV [KB]).toArray 5:=(by rw[hKB];exact bl);refine NextH.appB (y:=[KB]) hol (Src.row (Blk.row (c:=strV [KB]) blk) rfl (strV_plain _)) (by omega) (by decide) (by omega) ⟨_,rfl,fun _ h=>by cases h⟩ ?_;intro a4 c4 H4 ho4 hw4;have u4:=Upd.wr hol hw4;have hx04:=Upd.ext u4 (hx3.trans xl) (Nat.le_refl _);have hz4:=hx04.size)|(refine(rnumber_bytes (packP L i++[KB]) a4 _ c4 H.size P0.length 2 H4 ho4 hz4 (by simp) (by omega) (by omega) (by decide)).mono ?_;rintro _ H5 ⟨⟨a5,c5,rfl,ho5⟩,u5⟩;have hx05:=Upd.ext u5 hx04 (Nat.le_refl _);have hz5:=hx05.size)|(refine NextH.appB (y:=P0) (m:=(mkS (P0)).size) ho5 (Src.str (mkS (P0))) (by omega) (by omega) (by omega) ⟨_,rfl,fun _ h=>by cases h⟩ ?_;intro a6 c6 H6 ho6 hw6;have u6:=Upd.wr ho5 hw6;have hx06:=Upd.ext u6 hx05 (Nat.le_refl _);have hz6:=hx06.size)|(refine(rnumber_bytes (packP L i++[KB]++numB P0.length 2++P0) a6 _ c6 H.size f.2.2.length 8 H6 ho6 hz6 (by simp[numB_len];omega) (by omega) (by omega) (by decide)).mono ?_;rintro _ H7 ⟨⟨a7,c7,rfl,ho7⟩,u7⟩;have hx07:=Upd.ext u7 hx06 (Nat.le_refl _);have hz7:=hx07.size)|(refine NextH.appB (y:=f.2.2) (m:=f.2.2.length) ho7 (Src.row (hri.ext hx07) (by rw[strV_length];exact(Nat.mul_one _).symm) (strV_plain _)) (by omega) (by omega) (by omega) ⟨_,rfl,fun _ h=>by cases h⟩ ?_;intro a8 c8 H8 ho8 hw8;have u8:=Upd.wr ho7 hw8;have hx08:=Upd.ext u8 hx07 (Nat.le_refl _))|((with_reducible refine Vc.DrawH.held [0,1,2,3,4,5,6,7,9,10,11,12,13,8,14,15] [(8,[13])] mixed (by decide+kernel) ?_))|refine Vc.stp ?_)<;>(intros;(conv=>whnf)))))
    have hfin:packP L (i+1)=packP L i++[KB]++numB P0.length 2++P0++numB f.2.2.length 8++f.2.2:=by rw[hsn,hee,hKB];simp
    have hfl:(packP L (i+1)).length=(packP L i).length+1+2+(mkS P0).size+8+f.2.2.length:=by rw[hfin,hts];simp[numB_len];omega
    exact⟨⟨i+1,a8,c8⟩,⟨rfl,by dsimp only;rw[hfl];rfl,trivial⟩,⟨by show i+1≤n;omega,by dsimp only;rw[hfl,hfin];exact ho8,hx08⟩,by show n-(i+1)<n-i;omega⟩
  ·obtain⟨P0,hP0⟩: ∃ P0,f.1.take 65535=P0:=⟨_,rfl⟩
   have hts:(mkS P0).size=P0.length:=rfl
   have hpl0:P0.length=65535:=by rw[←hP0,List.length_take];omega
   have hsl:(mkS f.1).extract 0 65535=mkS P0:=by rw[←hP0];exact mkS_take _ _
   have hee:entB f=[if f.2.1=true then 1 else 0]++numB P0.length 2++P0++(if f.2.1=true then []else numB f.2.2.length 8++f.2.2):=by unfold entB;rw[Nat.min_eq_right (by omega),hP0,hpl0]
   by_cases hd:f.2.1=true
   ·rw[if_pos hd,if_pos hd]at hee
    obtain⟨KB,hKB⟩: ∃ k:UInt8,k=1:=⟨_,rfl⟩
    ((conv=>whnf);repeat(any_goals((first|(refine IdxA.file hr hn i f (by omega) hf ?_;intro bi oi ai ci hri hci;have hd0:=hci 0 _ rfl;have hd1:=hci 1 _ rfl;have hd2:=hci 2 _ rfl;try rw[←hP0]at hd0)|(refine BndH.nat 65535 rfl (by(show 65535≤f.1.length);omega) ?_;(conv=>whnf);rw[hsl])|(rename_i Hl zl bl xl;have hol:=ho3.ext xl;have blk:Blk Hl H3.size (strV [KB]).toArray 5:=(by rw[hKB];exact bl);refine NextH.appB (y:=[KB]) hol (Src.row (Blk.row (c:=strV [KB]) blk) rfl (strV_plain _)) (by omega) (by decide) (by omega) ⟨_,rfl,fun _ h=>by cases h⟩ ?_;intro a4 c4 H4 ho4 hw4;have u4:=Upd.wr hol hw4;have hx04:=Upd.ext u4 (hx3.trans xl) (Nat.le_refl _);have hz4:=hx04.size)|(refine(rnumber_bytes (packP L i++[KB]) a4 _ c4 H.size P0.length 2 H4 ho4 hz4 (by simp) (by omega) (by omega) (by decide)).mono ?_;rintro _ H5 ⟨⟨a5,c5,rfl,ho5⟩,u5⟩;have hx05:=Upd.ext u5 hx04 (Nat.le_refl _);have hz5:=hx05.size)|(refine NextH.appB (y:=P0) (m:=(mkS (P0)).size) ho5 (Src.str (mkS (P0))) (by omega) (by omega) (by omega) ⟨_,rfl,fun _ h=>by cases h⟩ ?_;intro a6 c6 H6 ho6 hw6;have u6:=Upd.wr ho5 hw6;have hx06:=Upd.ext u6 hx05 (Nat.le_refl _);have hz6:=hx06.size)|((with_reducible refine Vc.DrawH.held [0,1,2,3,4,5,6,7,9,10,11,12,13,8,14,15] [(8,[13])] mixed (by decide+kernel) ?_))|refine Vc.stp ?_)<;>(intros;(conv=>whnf)))))
    have hfin:packP L (i+1)=packP L i++[KB]++numB P0.length 2++P0:=by rw[hsn,hee,hKB];simp
    have hfl:(packP L (i+1)).length=(packP L i).length+1+2+(mkS P0).size:=by rw[hfin,hts];simp[numB_len];omega
    exact⟨⟨i+1,a6,c6⟩,⟨rfl,by dsimp only;rw[hfl];rfl,trivial⟩,⟨by show i+1≤n;omega,by dsimp only;rw[hfl,hfin];exact ho6,hx06⟩,by show n-(i+1)<n-i;omega⟩
   ·rw[if_neg hd,if_neg hd]at hee
    have hdf:f.2.1=false:=by simpa using hd
    obtain⟨KB,hKB⟩: ∃ k:UInt8,k=0:=⟨_,rfl⟩
    ((conv=>whnf);repeat(any_goals((first|(refine IdxA.file hr hn i f (by omega) hf ?_;intro bi oi ai ci hri hci;have hd0:=hci 0 _ rfl;have hd1:=hci 1 _ rfl;have hd2:=hci 2 _ rfl;try rw[←hP0]at hd0)|(refine BndH.nat 65535 rfl (by(show 65535≤f.1.length);omega) ?_;(conv=>whnf);rw[hsl])|(rename_i Hl zl bl xl;have hol:=ho3.ext xl;have blk:Blk Hl H3.size (strV [KB]).toArray 5:=(by rw[hKB];exact bl);refine NextH.appB (y:=[KB]) hol (Src.row (Blk.row (c:=strV [KB]) blk) rfl (strV_plain _)) (by omega) (by decide) (by omega) ⟨_,rfl,fun _ h=>by cases h⟩ ?_;intro a4 c4 H4 ho4 hw4;have u4:=Upd.wr hol hw4;have hx04:=Upd.ext u4 (hx3.trans xl) (Nat.le_refl _);have hz4:=hx04.size)|(refine(rnumber_bytes (packP L i++[KB]) a4 _ c4 H.size P0.length 2 H4 ho4 hz4 (by simp) (by omega) (by omega) (by decide)).mono ?_;rintro _ H5 ⟨⟨a5,c5,rfl,ho5⟩,u5⟩;have hx05:=Upd.ext u5 hx04 (Nat.le_refl _);have hz5:=hx05.size)|(refine NextH.appB (y:=P0) (m:=(mkS (P0)).size) ho5 (Src.str (mkS (P0))) (by omega) (by omega) (by omega) ⟨_,rfl,fun _ h=>by cases h⟩ ?_;intro a6 c6 H6 ho6 hw6;have u6:=Upd.wr ho5 hw6;have hx06:=Upd.ext u6 hx05 (Nat.le_refl _);have hz6:=hx06.size)|(refine(rnumber_bytes (packP L i++[KB]++numB P0.length 2++P0) a6 _ c6 H.size f.2.2.length 8 H6 ho6 hz6 (by simp[numB_len];omega) (by omega) (by omega) (by decide)).mono ?_;rintro _ H7 ⟨⟨a7,c7,rfl,ho7⟩,u7⟩;have hx07:=Upd.ext u7 hx06 (Nat.le_refl _);have hz7:=hx07.size)|(refine NextH.appB (y:=f.2.2) (m:=f.2.2.length) ho7 (Src.row (hri.ext hx07) (by rw[strV_length];exact(Nat.mul_one _).symm) (strV_plain _)) (by omega) (by omega) (by omega) ⟨_,rfl,fun _ h=>by cases h⟩ ?_;intro a8 c8 H8 ho8 hw8;have u8:=Upd.wr ho7 hw8;have hx08:=Upd.ext u8 hx07 (Nat.le_refl _))|((with_reducible refine Vc.DrawH.held [0,1,2,3,4,5,6,7,9,10,11,12,13,8,14,15] [(8,[13])] mixed (by decide+kernel) ?_))|refine Vc.stp ?_)<;>(intros;(conv=>whnf)))))
    have hfin:packP L (i+1)=packP L i++[KB]++numB P0.length 2++P0++numB f.2.2.length 8++f.2.2:=by rw[hsn,hee,hKB];simp
    have hfl:(packP L (i+1)).length=(packP L i).length+1+2+(mkS P0).size+8+f.2.2.length:=by rw[hfin,hts];simp[numB_len];omega
    exact⟨⟨i+1,a8,c8⟩,⟨rfl,by dsimp only;rw[hfl];rfl,trivial⟩,⟨by show i+1≤n;omega,by dsimp only;rw[hfl,hfin];exact ho8,hx08⟩,by show n-(i+1)<n-i;omega⟩
 ·obtain rfl:i=n:=by omega
  ((conv=>whnf);repeat(any_goals((first|(rename_i Hl zl bl xl;refine NextH.appB (y:=[255]) (ho3.ext xl) (Src.row (Blk.row (c:=strV [255]) bl) rfl (strV_plain _)) (by omega) (by decide) (by omega) ⟨_,rfl,fun _ h=>by cases h⟩ ?_;intro a4 c4 H4 ho4 hw4)|refine Vc.stp ?_)<;>(intros;(conv=>whnf)))))
  have e:packF L=packP L L.length++[255]:=rfl
  have el:(packF L).length=(packP L L.length).length+1:=by rw[e,List.length_append];rfl
  rw[hn]at e el
  rw[el,e]
  exact⟨⟨a4,c4,rfl,ho4⟩,(hx3.trans xl).wr (ho3.ext xl) (Nat.le_refl _) hw4⟩
end Go.Proofs.YtjdieklgoepdjaaGreatDoor
