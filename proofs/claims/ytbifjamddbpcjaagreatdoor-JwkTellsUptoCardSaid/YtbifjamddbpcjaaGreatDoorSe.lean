/- The document's sums (layer 2): cut, ror of a kind. -/
import Derived.Test.YtbifjamddbpcjaaGreatDoorSd
import Derived.Test.YtbifjamddbpcjaaGreatDoorOk
namespace Go.Proofs.YtbifjamddbpcjaaGreatDoor
open Go.RowKit
def jz (x n:Nat):Nat:=(x / 2 ^ n ||| x*2 ^ (32 - n)) % 4294967296
theorem Mk (a b:Nat) (ha:a<4294967296) (hb:b<4294967296):bits .or .u32 (a:Int) (b:Int)=((a ||| b:Nat):Int):=by
 have hx:a ||| b<2 ^ 32:=Nat.or_lt_two_pow (by omega) (by omega)
 have h1:(BitVec.ofInt 32 (a:Int)).toNat=a:=by
  rw [BitVec.ofInt_natCast,BitVec.toNat_ofNat];exact Nat.mod_eq_of_lt (by omega)
 have h2:(BitVec.ofInt 32 (b:Int)).toNat=b:=by
  rw [BitVec.ofInt_natCast,BitVec.toNat_ofNat];exact Nat.mod_eq_of_lt (by omega)
 show IntKind.u32.wrap ((BitVec.ofInt 32 (a:Int) ||| BitVec.ofInt 32 (b:Int)).toNat:Int)=_;rw [BitVec.toNat_or,h1,h2,IntKind.wrap_u32];omega
theorem kW (a b:Nat) (ha:a<4294967296) (hb:b<4294967296):bits .xor .u32 (a:Int) (b:Int)=((a ^^^ b:Nat):Int):=by
 have hx:a ^^^ b<2 ^ 32:=Nat.xor_lt_two_pow (by omega) (by omega);have h1:(BitVec.ofInt 32 (a:Int)).toNat=a:=by
  rw [BitVec.ofInt_natCast,BitVec.toNat_ofNat];exact Nat.mod_eq_of_lt (by omega)
 have h2:(BitVec.ofInt 32 (b:Int)).toNat=b:=by
  rw [BitVec.ofInt_natCast,BitVec.toNat_ofNat];exact Nat.mod_eq_of_lt (by omega)
 show IntKind.u32.wrap ((BitVec.ofInt 32 (a:Int) ^^^ BitVec.ofInt 32 (b:Int)).toNat:Int)=_;rw [BitVec.toNat_xor,h1,h2,IntKind.wrap_u32];omega
theorem dB (a b:Nat) (ha:a<18446744073709551616) (hb:b<18446744073709551616):bits .xor .u64 (a:Int) (b:Int)=((a ^^^ b:Nat):Int):=by
 have hx:a ^^^ b<2 ^ 64:=Nat.xor_lt_two_pow (by omega) (by omega);have h1:(BitVec.ofInt 64 (a:Int)).toNat=a:=by
  rw [BitVec.ofInt_natCast,BitVec.toNat_ofNat];exact Nat.mod_eq_of_lt (by omega)
 have h2:(BitVec.ofInt 64 (b:Int)).toNat=b:=by
  rw [BitVec.ofInt_natCast,BitVec.toNat_ofNat];exact Nat.mod_eq_of_lt (by omega)
 show IntKind.u64.wrap ((BitVec.ofInt 64 (a:Int) ^^^ BitVec.ofInt 64 (b:Int)).toNat:Int)=_;rw [BitVec.toNat_xor,h1,h2,IntKind.wrap_u64];omega
theorem l9 (n:Nat):IntKind.u32.wrap (n:Int)=((n % 4294967296:Nat):Int):=by rw [IntKind.wrap_u32];omega
theorem dv (x n:Nat):jz x n<4294967296:=Nat.mod_lt _ (by decide)
theorem Dz (x n:Nat) (hx:x<4294967296):lN (x:Int) n=((jz x n:Nat):Int):=by
 unfold lN jz;have h1:(x:Int) / 2 ^ n=((x / 2 ^ n:Nat):Int):=by rw [Int.natCast_ediv,Int.natCast_pow];rfl
 have h2:(x:Int)*2 ^ (32 - n) % 4294967296=((x*2 ^ (32 - n) % 4294967296:Nat):Int):=by
  rw [Int.natCast_emod,Int.natCast_mul,Int.natCast_pow];rfl
 have hq:x / 2 ^ n<4294967296:=Nat.lt_of_le_of_lt (Nat.div_le_self _ _) hx;rw [h1,h2,Mk _ _ hq (Nat.mod_lt _ (by decide))];have h3:=Nat.or_mod_two_pow (a:=x / 2 ^ n) (b:=x*2 ^ (32 - n)) (n:=32);have h4:x / 2 ^ n % 2 ^ 32=x / 2 ^ n:=Nat.mod_eq_of_lt hq;rw [h4] at h3;have h5:(x / 2 ^ n ||| x*2 ^ (32 - n) % 4294967296)=(x / 2 ^ n ||| x*2 ^ (32 - n)) % 4294967296:=h3.symm;rw [h5]
def oZ (x a b c:Nat) (sh:Bool):Nat:=jz x a ^^^ jz x b ^^^ (if sh then x / 2 ^ c else jz x c)
theorem yr (x a b c:Nat) (sh:Bool) (hx:x<4294967296):jM (x:Int) a b c sh=((oZ x a b c sh:Nat):Int):=by
 have h1:jz x a ^^^ jz x b<2 ^ 32:=Nat.xor_lt_two_pow (dv x a) (dv x b);unfold jM oZ;rw [Dz x a hx,Dz x b hx,kW _ _ (dv x a) (dv x b)];cases sh with
 | true=>
  have h2:(x:Int) / 2 ^ c=((x / 2 ^ c:Nat):Int):=by rw [Int.natCast_ediv,Int.natCast_pow];rfl
  simp only [if_true];rw [h2,kW _ _ h1 (Nat.lt_of_le_of_lt (Nat.div_le_self _ _) hx)]
 | false=>
  simp only [Bool.false_eq_true,if_false];rw [Dz x c hx,kW _ _ h1 (dv x c)]
def cz (l:List Nat):List Int:=l.map (fun x:Nat=>(x:Int))
theorem yb (l:List Nat):(cz l).length=l.length:=by simp [cz]
theorem tC (l:List Nat) (i:Nat):(cz l).getD i 0=((l.getD i 0:Nat):Int):=by
 simp only [cz,List.getD_eq_getElem?_getD,List.getElem?_map];cases l[i]?<;>rfl
theorem T9 (l:List Nat) (i x:Nat):(cz l).set i (x:Int)=cz (l.set i x):=by simp [cz,List.map_set]
def iQ (l:List Nat):Prop:=∀ x∈l,x<4294967296
theorem iQ.at {l:List Nat} (h:iQ l) (i:Nat):l.getD i 0<4294967296:=by
 rw [List.getD_eq_getElem?_getD];cases e:l[i]? with
 | none=>decide
 | some x=>exact h x (List.mem_of_getElem? e)
theorem iQ.set {l:List Nat} (h:iQ l) (i x:Nat) (hx:x<4294967296):iQ (l.set i x):=fun y hy=>by
 rcases List.mem_or_eq_of_mem_set hy with h1|h1
 ·exact h y h1
 ·rw [h1];exact hx
def yE (B:Bs) (i:Nat):Nat->Nat
 | 0=>0
 | m+1=>yE B i m*256 ||| (B.getD (4*i+m) 0).toNat
theorem yd (B:Bs) (i:Nat):∀ m,yE B i m<256 ^ m
 | 0=>Nat.zero_lt_one
 | m+1=>by
  have h:=yd B i m;have hb:(B.getD (4*i+m) 0).toNat<2 ^ 8:=(B.getD (4*i+m) 0).toNat_lt;have e:=Nat.shiftLeft_add_eq_or_of_lt (i:=8) (b:=(B.getD (4*i+m) 0).toNat) hb (yE B i m);rw [Nat.shiftLeft_eq] at e;rw [yE,show (256:Nat)=2 ^ 8 from rfl,<- e,Nat.pow_succ (n:=2 ^ 8)];have h2:yE B i m+1<=(2 ^ 8) ^ m:=h;have h3:=Nat.mul_le_mul_right (2 ^ 8) h2;omega
theorem QF (B:Bs) (i:Nat):∀ m,m<=4->jC B i m=((yE B i m:Nat):Int)
 | 0,_=>rfl
 | m+1,hm=>by
  have h:=yd B i m;have hp:(256:Nat) ^ m<=256 ^ 3:=Nat.pow_le_pow_right (by decide) (by omega);have h3:(256:Nat) ^ 3=16777216:=rfl;have hb:(B.getD (4*i+m) 0).toNat<256:=(B.getD (4*i+m) 0).toNat_lt;have e1:((yE B i m:Nat):Int)*256 % 4294967296=((yE B i m*256:Nat):Int):=by omega
  rw [jC,QF B i m (by omega),e1,Mk _ _ (by omega) (by omega),yE]
def gG (B:Bs) (i:Nat):List Nat:=(List.range i).map (fun k=>yE B k 4)++List.replicate (64 - i) 0
theorem AO {B:Bs} {i:Nat} (h:i<=64):(gG B i).length=64:=by simp [gG];omega
theorem Ua (B:Bs) (i:Nat):bS B i=cz (gG B i):=by
 simp only [bS,gG,cz,List.map_append,List.map_map,List.map_replicate]
 congr 1
 refine List.map_congr_left (fun k _ => ?_);exact QF B k 4 (Nat.le_refl _)
theorem yf (B:Bs) (i:Nat):iQ (gG B i):=fun x hx=>by
 rcases List.mem_append.1 hx with h|h
 ·obtain ⟨k,_,rfl⟩:=List.mem_map.1 h;exact yd B k 4
 ·rw [List.eq_of_mem_replicate h];decide
theorem H8 {B:Bs} {i:Nat} (h:i<64):(gG B i).set i (yE B i 4)=gG B (i+1):=by
 unfold gG;rw [List.set_append_right _ _ (by simp)];rw [List.range_succ,List.map_append,List.append_assoc]
 congr 1
 obtain ⟨k,hk⟩:∃ k,64 - i=k+1:=⟨64 - i - 1,by omega⟩;rw [hk,show 64 - (i+1)=k by omega];simp [List.replicate_succ]
theorem PE {B:Bs} {i:Nat}:(gG B i).getD i 0=0:=by
 unfold gG;rw [List.getD_eq_getElem?_getD,List.getElem?_append_right (by simp),List.length_map,List.length_range,Nat.sub_self,List.getElem?_replicate];split<;>rfl
theorem H7 {B:Bs} {i:Nat} (h:i<64):(gG B i).set i (yE B i 0)=gG B i:=by
 have hl:i<(gG B i).length:=by rw [AO (by omega)];omega
 have h0:(gG B i)[i]=0:=by
  have:=PE (B:=B) (i:=i);rw [List.getD_eq_getElem?_getD,List.getElem?_eq_getElem hl] at this;exact this
 have:=List.set_getElem_self hl;rw [h0] at this;exact this
def ye (L:List Nat) (i:Nat):Nat:=(L.getD (i - 16) 0+oZ (L.getD (i - 15) 0) 7 18 3 true+L.getD (i - 7) 0+oZ (L.getD (i - 2) 0) 17 19 10 true) % 4294967296
def ku (L:List Nat):Nat->List Nat
 | 0=>L
 | m+1=>if m<16 then L else (ku L m).set m (ye (ku L m) m)
theorem O5 (L:List Nat):ku L 16=L:=by rw [ku,if_pos (by decide)]
theorem H9 (L:List Nat) {m:Nat} (h:16<=m):(ku L m).set m (ye (ku L m) m)=ku L (m+1):=by rw [ku,if_neg (by omega)]
theorem PF (L:List Nat) (i:Nat):ye L i<4294967296:=Nat.mod_lt _ (by decide)
theorem ri {L:List Nat} (h:iQ L):∀ m,iQ (ku L m)
 | 0=>h
 | m+1=>by
  rw [ku];split
  ·exact h
  ·exact (ri h m).set _ _ (PF _ _)
theorem PG {L:List Nat} (h:iQ L) (i:Nat):rF (cz L) i=((ye L i:Nat):Int):=by
 unfold rF ye;rw [tC,tC,tC,tC,yr _ _ _ _ _ (h.at _),yr _ _ _ _ _ (h.at _)];rw [<- Int.natCast_add,l9,<- Int.natCast_add,l9,<- Int.natCast_add,l9]
 congr 1
 omega
theorem Ml {L:List Nat} (h:iQ L):∀ m,di (cz L) m=cz (ku L m)
 | 0=>rfl
 | m+1=>by
  rw [di,ku];split
  ·rfl
  ·rw [Ml h m,PG (ri h m),T9]
def tN (e f g h k x:Nat):Nat:=h+oZ e 6 11 25 false+((e &&& f) ^^^ ((4294967295 ^^^ e) &&& g))+k+x
def uN (a b c:Nat):Nat:=oZ a 2 13 22 false+((a &&& b) ^^^ (a &&& c) ^^^ (b &&& c))
theorem dE {a b:Nat} (h:a<4294967296):a &&& b<4294967296:=Nat.lt_of_le_of_lt Nat.and_le_left h
theorem cL {a b:Nat} (h:a<4294967296) (h2:b<4294967296):a ^^^ b<4294967296:=Nat.xor_lt_two_pow (n:=32) h h2
theorem Yf (e f g h k x:Nat) (he:e<4294967296) (hf:f<4294967296) (hg:g<4294967296):tP e f g h k x=((tN e f g h k x % 4294967296:Nat):Int):=by
 unfold tP tN;have hx:IntKind.u32.max=((4294967295:Nat):Int):=rfl;rw [yr _ _ _ _ _ he,hx,kW _ _ (by decide) he,mJ _ _ he hf,mJ _ _ (cL (by decide) he) hg,kW _ _ (dE he) (dE (cL (by decide) he))];rw [<- Int.natCast_add,l9,<- Int.natCast_add,l9,<- Int.natCast_add,l9,<- Int.natCast_add,l9]
 congr 1
 omega
theorem Yg (a b c:Nat) (ha:a<4294967296) (hb:b<4294967296) (hc:c<4294967296):uP a b c=((uN a b c % 4294967296:Nat):Int):=by
 unfold uP uN;rw [yr _ _ _ _ _ ha,mJ _ _ ha hb,mJ _ _ ha hc,mJ _ _ hb hc,kW _ _ (dE ha) (dE ha),kW _ _ (cL (dE ha) (dE ha)) (dE hb)];rw [<- Int.natCast_add,l9]
def yg (k x:Nat):List Nat->List Nat
 | [a,b,c,d,e,f,g,h]=>[(tN e f g h k x+uN a b c) % 4294967296,a,b,c,(d+tN e f g h k x) % 4294967296,e,f,g]
 | l=>l
theorem Mm (k x:Nat) (l:List Nat):(yg k x l).length=l.length:=by unfold yg;split<;>rfl
theorem PH (k x:Nat) {l:List Nat} (h:iQ l):iQ (yg k x l):=by
 unfold yg;split
 ·rename_i a b c d e f g hh
  intro y hy;have hm:∀ z,z∈[a,b,c,e,f,g]->z<4294967296:=fun z hz=>h z (by simp at hz ⊢;omega);simp only [List.mem_cons,List.not_mem_nil,or_false] at hy;rcases hy with h1|h1|h1|h1|h1|h1|h1|h1
  ·rw [h1];exact Nat.mod_lt _ (by decide)
  ·exact hm _ (by simp [h1])
  ·exact hm _ (by simp [h1])
  ·exact hm _ (by simp [h1])
  ·rw [h1];exact Nat.mod_lt _ (by decide)
  ·exact hm _ (by simp [h1])
  ·exact hm _ (by simp [h1])
  ·exact hm _ (by simp [h1])
 ·exact h
theorem Ub (k x:Nat) {l:List Nat} (h:iQ l):lG (k:Int) (x:Int) (cz l)=cz (yg k x l):=by
 by_cases hl:l.length=8
 ·match l,hl with
  | [a,b,c,d,e,f,g,y],_=>
   have hm:∀ z,z∈[a,b,c,d,e,f,g,y]->z<4294967296:=h;show [IntKind.u32.wrap (tP e f g y k x+uP a b c),(a:Int),(b:Int),(c:Int),IntKind.u32.wrap ((d:Int)+tP e f g y k x),(e:Int),(f:Int),(g:Int)]=[(((tN e f g y k x+uN a b c) % 4294967296:Nat):Int),(a:Int),(b:Int),(c:Int),(((d+tN e f g y k x) % 4294967296:Nat):Int),(e:Int),(f:Int),(g:Int)];rw [Yf _ _ _ _ _ _ (hm e (by simp)) (hm f (by simp)) (hm g (by simp)),Yg _ _ _ (hm a (by simp)) (hm b (by simp)) (hm c (by simp))];rw [<- Int.natCast_add,l9,<- Int.natCast_add,l9];have e1:(tN e f g y k x % 4294967296+uN a b c % 4294967296) % 4294967296=(tN e f g y k x+uN a b c) % 4294967296:=by omega
   have e2:(d+tN e f g y k x % 4294967296) % 4294967296=(d+tN e f g y k x) % 4294967296:=by omega
   rw [e1,e2]
 ·have h1:(cz l).length≠8:=by rw [yb];exact hl
  have h2:yg k x l=l:=by
   unfold yg;split
   ·simp at hl
   ·rfl
  have h3:lG (k:Int) (x:Int) (cz l)=cz l:=by
   unfold lG;split
   ·rename_i he;rw [he] at h1;simp at h1
   ·rfl
  rw [h2,h3]
def mS (L st:List Nat):Nat->List Nat
 | 0=>st
 | m+1=>yg (KL.getD m 0) (L.getD m 0) (mS L st m)
theorem tF (L st:List Nat):∀ m,(mS L st m).length=st.length
 | 0=>rfl
 | m+1=>by rw [mS,Mm,tF L st m]
theorem rj (L:List Nat) {st:List Nat} (h:iQ st):∀ m,iQ (mS L st m)
 | 0=>h
 | m+1=>PH _ _ (rj L h m)
theorem ER (hK:cz KL=jf) (L:List Nat) {st:List Nat} (h:iQ st):∀ m,eZ (cz L) (cz st) m=cz (mS L st m)
 | 0=>rfl
 | m+1=>by rw [eZ,ER hK L h m,<- hK,tC,tC,Ub _ _ (rj L h m),mS]
def yG (st V:List Nat):Nat->List Nat
 | 0=>st
 | m+1=>(yG st V m).set m ((st.getD m 0+V.getD m 0) % 4294967296)
theorem ES (st V:List Nat):∀ m,(yG st V m).length=st.length
 | 0=>rfl
 | m+1=>by rw [yG,List.length_set,ES st V m]
theorem Mn {st:List Nat} (V:List Nat) (h:iQ st):∀ m,iQ (yG st V m)
 | 0=>h
 | m+1=>(Mn V h m).set _ _ (Nat.mod_lt _ (by decide))
theorem LJ (st V:List Nat):∀ m i,m<=i->(yG st V m).getD i 0=st.getD i 0
 | 0,_,_=>rfl
 | m+1,i,h=>by
  rw [yG,List.getD_eq_getElem?_getD,List.getElem?_set_ne (by omega),<- List.getD_eq_getElem?_getD];exact LJ st V m i (by omega)
theorem Yh {st V:List Nat} (h1:st.length=8) (h2:V.length=8):mM (cz st) (cz V) 8=cz (yG st V 8):=by
 match st,h1,V,h2 with
 | [a0,a1,a2,a3,a4,a5,a6,a7],_,[b0,b1,b2,b3,b4,b5,b6,b7],_=>
  have hw:∀ x y:Nat,IntKind.u32.wrap ((y:Int)+(x:Int))=(((x+y) % 4294967296:Nat):Int):=fun x y=>by
   rw [<- Int.natCast_add,l9,Nat.add_comm]
  simp only [mM,yG,cz,List.map_cons,List.map_nil,List.set_cons_zero,List.set_cons_succ,List.getD_cons_zero,List.getD_cons_succ,hw]
def Qp (st:List Nat) (B:Bs):List Nat:=yG st (mS (ku (gG B 16) 64) st 64) 8
theorem PI (st:List Nat) (B:Bs):(Qp st B).length=st.length:=by rw [Qp,ES]
theorem Uc {st:List Nat} (B:Bs) (h:iQ st):iQ (Qp st B):=Mn _ h 8
theorem Yi (hK:cz KL=jf) {st:List Nat} (B:Bs) (h:iQ st) (hl:st.length=8):jg (cz st) B=cz (Qp st B):=by
 rw [jg,Qp,Ua,Ml (yf B 16),ER hK _ h,Yh hl (by rw [tF,hl])]
def pU (M:Bs):Nat->List Nat
 | 0=>FL
 | k+1=>Qp (pU M k) ((M.drop (64*k)).take 64)
theorem lZ:FL.length=8:=by simp [FL]
theorem LG:KL.length=64:=by simp [KL]
theorem Yj:iQ FL:=fun x hx=>by
 obtain ⟨i,_,rfl⟩:=List.mem_map.1 hx;exact Nat.mod_lt _ (by decide)
theorem Xo:iQ KL:=fun x hx=>by
 obtain ⟨i,_,rfl⟩:=List.mem_map.1 hx;exact Nat.mod_lt _ (by decide)
theorem tG (M:Bs):∀ k,(pU M k).length=8
 | 0=>lZ
 | k+1=>by rw [pU,PI,tG M k]
theorem rh (M:Bs):∀ k,iQ (pU M k)
 | 0=>Yj
 | k+1=>Uc _ (rh M k)
theorem LF (hK:cz KL=jf) (hF:cz FL=initP) (M:Bs):∀ k,blocksP initP M k=cz (pU M k)
 | 0=>hF.symm
 | k+1=>by rw [blocksP,LF hK hF M k,Yi hK _ (rh M k) (tG M k),pU]
end Go.Proofs.YtbifjamddbpcjaaGreatDoor
namespace Go.Proofs.YtbifjamddbpcjaaGreatDoor
set_option maxRecDepth 100000
set_option maxHeartbeats 25600000
open Go.RowKit
theorem UZ (n:Nat) (h:n<18446744073709551616):bits .and .u64 (n:Int) 4294967295=((n % 4294967296:Nat):Int):=by
 have:=iL n 4294967295 h (by decide);rw [show ((4294967295:Nat):Int)=4294967295 from rfl] at this;rw [this,show (4294967295:Nat)=2 ^ 32 - 1 from rfl,Nat.and_two_pow_sub_one_eq_mod]
theorem iR (vK vF:Value) (x:Nat) (w:World) (hx:x<18446744073709551616):Calls Tryz.prog 114 #[.agg (kndC vK vF),.int .u64 x] w fun e w'=>e=.returned (dV .u64 (x % 4294967296))/\Fr NoB w w':=by
 have e1:=UZ x hx;obtain ⟨r,hr⟩:∃ r,r=x % 4294967296:=⟨_,rfl⟩;rw [<- hr] at e1 ⊢;clear hr;have b0:=Blk.new w 104 (kndC vK vF);have f0:Fr NoB w (w.alloc (.cells (kndC vK vF) 104)):=(Fr.refl _ _).alloc _;go_enter Tryz.func114,Tryz.ntmps114;go_upto_region 1 with fail;generalize w.alloc (.cells (kndC vK vF) 104)=W at *;obtain ⟨c0,-,-,-,-,-⟩:=ml b0;clear b0;go_wp2_with fail;go_ret;exact ⟨rfl,f0⟩
theorem Nf (a b r:Nat) (ha:a<4294967296) (hb:b<18446744073709551616) (h:r=a ||| b):bits .or .u64 (a:Int) (b:Int)=(r:Int):=by
 rw [h,qN a b (by omega) hb]
theorem Jb {u:World} {g:Nat} {x y:Value} (h:Blk u g 104 (kndC x y)):(Instr.loadAt 104 (.pointer (some ⟨g,0,none⟩))).run Tryz.prog u=.ok (.agg (kndC x y)) u:=by
 simp only [Instr.loadAt,Instr.sureAddr,Sem.run_bind,Sem.run_pure,Result.andThen_ok,run_loadVar_row u g 104 104 (kndC x y) (0,0) _ h Tryz.underlying104 rfl (by rw [jY];rfl)]
def Sat (T:World->Prop) (u:World):Prop:=T u
end Go.Proofs.YtbifjamddbpcjaaGreatDoor
