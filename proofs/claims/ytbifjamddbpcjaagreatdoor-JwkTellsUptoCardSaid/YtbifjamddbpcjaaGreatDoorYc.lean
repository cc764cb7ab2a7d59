/- text.FromBase64, the program's: numbers. -/
import Derived.Test.YtbifjamddbpcjaaGreatDoorVd
import Derived.Test.YtbifjamddbpcjaaGreatDoorYb
import Derived.Laws.AppendOwnNone
namespace Go.Proofs.YtbifjamddbpcjaaGreatDoor
set_option maxRecDepth 100000
set_option maxHeartbeats 25600000
open Go.RowKit
abbrev nV (k:Nat):Value:=.int .u8 (k:Int)
theorem yV:∀ c:UInt8,lf c<64:=by
 intro c;have h:=eF (p:=fun c=>decide (lf c<64)) (by decide +kernel) c;exact of_decide_eq_true h
theorem Fm (l:List Nat) (n k:Nat) (h:l.length<n):((l.map nV++List.replicate (n - l.length) (Value.int .u8 0)).toArray).setIfInBounds l.length (nV k)=((l++[k]).map nV++List.replicate (n - (l++[k]).length) (Value.int .u8 0)).toArray:=by
 rw [List.setIfInBounds_toArray]
 congr 1
 have e:n - l.length=(n - (l++[k]).length)+1:=by simp;omega
 rw [List.set_append_right _ _ (by simp),e,List.replicate_succ];simp
theorem BS (n:Nat):madeCells #[Value.int .u8 0] n=Array.replicate n (Value.int .u8 0):=by
 unfold madeCells;apply Array.ext_getElem?;intro j;by_cases h:j<n
 ·simp [h,Nat.mod_one]
 ·simp [h]
def xl (o:Option (List Nat)) (w:World) (e:Ending) (w':World):Prop:=Fr NoB w w'/\match o with
 | some l=>∃ g,e=.returned (.tuple #[.slice (some ⟨g,0,none⟩) l.length l.length,.nilIface])/\w.heap.size<=g/\Blk w' g 5 (l.map nV).toArray
 | none=>∃ p,e=.returned (.tuple #[.slice none 0 0,jN p 11])
theorem rJ:∀ {s:Bs} {l:List Nat},cQ s=some l->l.length=s.length
 | [],l,h=>by simp [cQ] at h;subst h;rfl
 | c::r,l,h=>by
  rw [cQ] at h;split at h
  ·cases h
  ·cases hr:cQ r with
   | none=>rw [hr] at h;cases h
   | some q=>
    rw [hr] at h;simp only [Option.map_some,Option.some.injEq] at h;subst h;simp [rJ hr]
theorem DN:∀ {s:Bs} {l:List Nat},cQ s=some l->∀ k∈l,k<64
 | [],l,h=>by simp [cQ] at h;subst h;simp
 | c::r,l,h=>by
  rw [cQ] at h;split at h
  ·cases h
  ·rename_i h0
   cases hr:cQ r with
   | none=>rw [hr] at h;cases h
   | some q=>
    rw [hr] at h;simp only [Option.map_some,Option.some.injEq] at h;subst h;intro k hk;rcases List.mem_cons.1 hk with rfl|hk
    ·have:=yV c;omega
    ·exact DN hr k hk
theorem yX {B:Nat} (s:Bs) (w:World) (hx:Cx B w) (hl:s.length<=17592186044416) :
  Calls Tryz.prog 52 #[.string ⟨s.toArray⟩,.string ⟨Jc.toArray⟩,.int .i64 11] w (xl (cQ s) w):=by
 have mV:=run_make_row' (P:=Tryz.prog) 81 5 (.int .u8 0) 1 Tryz.underlying81 cO rfl .i64 .i64 s.length (by omega) (by omega);rw [BS] at mV;obtain ⟨A,hA⟩:∃ A,A=Jc.toArray:=⟨_,rfl⟩;have HI:Hid (∀ (c:UInt8) (u:World),Calls Tryz.prog 87 #[.string ⟨A⟩,.int .u8 (c.toNat:Int)] u fun e w'=>e=.returned (.int .i64 (lf c))/\u=w'):=hd' (fun c u=>by
  subst hA;have:=bq Jc (c.toNat:Int) u;simpa [lf] using this)
 rw [<- hA];obtain ⟨o,ho⟩:∃ o,o=cQ s:=⟨_,rfl⟩;rw [<- ho];have HO:=hd' ho;clear ho hA;have hsz:(⟨s.toArray⟩:ByteArray).size=s.length:=rfl;have f1:Fr NoB w (w.alloc (.cells (Array.replicate s.length (Value.int .u8 0)) 5)):=(Fr.refl _ _).alloc _;have gb:=Blk.new w 5 (Array.replicate s.length (Value.int .u8 0));go_enter Tryz.func52,Tryz.ntmps52;go_upto_region 2 with fail;generalize w.alloc (.cells (Array.replicate s.length (Value.int .u8 0)) 5)=W at *;go_wp2_with fail;go_loopw [16] (fun v wr=>∃ l:List Nat,l.length<=s.length/\v=.int .i64 l.length/\cQ s=(cQ (s.drop l.length)).map (l ++ ·)/\Blk wr w.heap.size 5 (l.map nV++List.replicate (s.length - l.length) (Value.int .u8 0)).toArray/\Fr NoB w wr) (fun v _=>s.length - (intOf v).toNat)
 case atStart=>exact ⟨[],Nat.zero_le _,rfl,by simp,by simpa using gb,f1⟩
 case round=>
  clear gb f1;obtain ⟨l,iB,rfl,Yw,hb,hf⟩:=hrel;by_cases hlt:l.length<s.length
  ·have k1:(0:Int)<=l.length:=by omega
   have k2:(l.length:Int)<s.length:=by omega
   have hg:=aM s l.length hlt;have hd:s.drop l.length=s[l.length]::s.drop (l.length+1):=List.drop_eq_getElem_cons hlt;rw [hd,cQ] at Yw;generalize s[l.length]=c at *;have HN:=hd' Yw;have QS:=yV c;clear Yw hd;by_cases hz:lf c<0
   ·have qc:Hid (o=none):=hd' (by rw [HO.out,HN.out,if_pos hz];rfl);have yt:=hx.eG hf;go_wp2_with (first|(go_at_call 87;((with_reducible refine (HI.out c _).mono ?_);rintro e w1 ⟨rfl,rfl⟩))|(go_at_call 88;((with_reducible refine (ji (B:=B) l.length 11 _ yt (by omega) (by omega)).mono ?_);rintro e w2 ⟨rfl,f2⟩)));go_ret2;exact (show xl o w _ _ by rw [qc.out];exact ⟨hf.trans f2,_,rfl⟩)
   ·have qc:Hid (cQ s=(cQ (s.drop (l++[(lf c).toNat]).length)).map ((l++[(lf c).toNat]) ++ ·)):=hd' (by
     rw [HN.out,if_neg hz,Option.map_map];(have e:(l++[(lf c).toNat]).length=l.length+1:=by simp);rw [e]
     congr 1
     funext x
     simp)
    obtain ⟨k,hk⟩:∃ k,k=(lf c).toNat:=⟨_,rfl⟩;(have hkz:lf c=(k:Int):=by omega);rw [<- hk] at qc;(have k3:¬ (k:Int)<0:=by omega);(have k4:(k:Int) % 256=(k:Int):=by omega);have yu:=hd' (HI.out c);rw [hkz] at yu;have Jd:=hb.frozen l.length;have PQ:∃ u,wr.cell? ⟨w.heap.size,l.length,none⟩=some u:=by
     rw [hb.cell,List.getElem?_toArray];exact ⟨_,List.getElem?_eq_getElem (by simp;omega)⟩
    obtain ⟨u,hu⟩:=PQ;have uk:=hb.aS l.length (nV k);rw [Fm l s.length k hlt] at uk;have HB:=hd' uk;have HF:=hd' (hf.setCell_new (p:=⟨w.heap.size,l.length,none⟩) (Nat.le_refl _) (nV k));clear hb uk hf hk hkz hz QS HI;go_wp2_with (go_at_call 87;((with_reducible refine (yu.out _).mono ?_);rintro e w1 ⟨rfl,rfl⟩));go_roundw
    case rel=>exact ⟨l++[k],by simp;omega,by simp,qc.out,HB.out,HF.out⟩
    case measure=>simp [intOf];omega
  ·have QT:l.length=s.length:=by omega
   have yw:Hid (o=some l):=hd' (by rw [HO.out,Yw,QT,List.drop_length];simp [cQ]);have iD:Blk wr w.heap.size 5 (l.map nV).toArray:=by rw [QT] at hb;simpa using hb
   rw [<- QT] at *;go_wp2_with fail;go_ret2;exact (show xl o w _ _ by rw [yw.out];exact ⟨hf,_,rfl,Nat.le_refl _,iD⟩)
theorem xm {ops:Array Oper} {o:Oper} {a:Act} {K:Act->World->Prop} {Q:Exit->Act->World->Prop} {E:Prop} {w:World} (hgd:o.guard=none) (sl x:Operand)
  (ho:o.op=.call { callee:=.builtin .append,args := #[sl,x],argTypes := #[81,81] }) (lo:Nat) (v:Value) (s:Bs) (hs:a.eval sl=v) (hown:BR lo w v s) (hx:a.eval x=.slice none 0 0) (h:K (a.put o.dst v) w) :
  if Region.wanted o (yielded ops a.tmps)=true then Oper.wp Tryz.prog o a w K Q else E:=by
 have hw:Region.wanted o (yielded ops a.tmps)=true:=by simp [Region.wanted,hgd]
 rw [if_pos hw];obtain ⟨i0,jv,hz0,hz1,hz2⟩:=info_parts cO;have hrun:=run_append_owned_none (P:=Tryz.prog) (w:=w) lo 81 o.type 5 i0 1 Tryz.underlying81 jv v s.length (bC s) hown;unfold Oper.wp;simp [execOp,ho,resolve,invoke,builtin,hs,hx,hrun,Result.andThen];exact h
theorem Ng {ops:Array Oper} {rest:List Oper} {o:Oper} {a:Act} {Q:Exit->Act->World->Prop} {w:World} (hgd:o.guard=none) (sl x:Operand)
  (ho:o.op=.call { callee:=.builtin .append,args := #[sl,x],argTypes := #[81,81] }) (lo:Nat) (v:Value) (s:Bs) (hs:a.eval sl=v) (hown:BR lo w v s) (hx:a.eval x=.slice none 0 0) (h:wpList Tryz.prog ops Q rest (a.put o.dst v) w):wpList Tryz.prog ops Q (o::rest) a w:=by
 obtain ⟨i0,jv,hz0,hz1,hz2⟩:=info_parts cO;exact wpList_append_own_none hgd sl x 81 ho lo 5 i0 1 Tryz.underlying81 jv v s.length (bC s) hs hown hx h
theorem BR.form {lo:Nat} {w:World} {v:Value} {s:Bs} (h:BR lo w v s):∃ ao c,v=.slice ao s.length c:=by
 rcases h.2 with ⟨rfl,h0⟩|⟨g,cap,cur,rfl,_⟩
 ·exact ⟨none,0,by rw [h0]⟩
 ·exact ⟨_,_,rfl⟩
theorem uS (a b k n:Nat) (ha:a*2 ^ k<256) (hb:b<2 ^ k) (hk:2 ^ k<=256) (hn:n=a*2 ^ k+b):bits .or .u8 ((a*2 ^ k:Nat):Int) (b:Int)=(n:Int):=by
 rw [U0 _ _ ha (by omega),ry _ _ _ hb,hn]
def NR (w:World) (v:Value) (l:List Nat):Prop:=∃ g o c,v=.slice (some ⟨g,o,none⟩) l.length c/\l.length<=c/\g<w.heap.size/\∀ (i:Nat) k,l[i]?=some k->w.cell? ⟨g,o+i,none⟩=some (nV k)
theorem NR.fr {w u:World} {v:Value} {l:List Nat} (h:NR w v l) (f:Fr NoB w u):NR u v l:=by
 obtain ⟨g,o,c,h1,h2,h3,h4⟩:=h;exact ⟨g,o,c,h1,h2,Nat.lt_of_lt_of_le h3 f.size,fun i k hk=>(f.cell (p:=⟨g,o+i,none⟩) h3 (fun e=>e)).trans (h4 i k hk)⟩
def qd (o:Option Bs) (w:World) (e:Ending) (w':World):Prop:=Fr NoB w w'/\match o with
 | some t=>∃ v,e=.returned (.tuple #[v,.nilIface])/\BR w.heap.size w' v t
 | none=>∃ p,e=.returned (.tuple #[.slice none 0 0,jN p 11])
def PR:Value->Nat | .slice _ n _=>n|_=>0
theorem xn {B:Nat} (l:List Nat) (v:Value) (w:World) (hx:Cx B w) (hl:l.length<=17592186044416) (hv:NR w v l) (QS:∀ k∈l,k<64) :
  Calls Tryz.prog 53 #[v] w (qd (eR l) w):=by
 obtain ⟨o,ho⟩:∃ o,o=eR l:=⟨_,rfl⟩;rw [<- ho];have HO:=hd' ho;clear ho;have HV:=hd' hv;clear hv;go_enter Tryz.func53,Tryz.ntmps53;go_wp2_with fail;go_loopw [0,4] (fun v0 v4 wr=>∃ (r:List Nat) (acc:Bs),r.length<=l.length/\NR w v0 r/\BR w.heap.size wr v4 acc/\eR l=(eR r).map (acc ++ ·)/\(∀ k∈r,k<64)/\acc.length<=l.length - r.length/\Fr NoB w wr) (fun v0 _ _=>PR v0)
 case atStart=>exact ⟨l,[],Nat.le_refl _,HV.out,World.ownsRow_nil _ _ _ _,by simp,QS,by simp,Fr.refl _ _⟩
 case round=>
  obtain ⟨r,acc,Nb,xh,Uh,hun,pz,My,hf⟩:=hrel;have Fo:=hd' Uh;have PS:=hd' hun;have ZT:=hd' xh;have HF:=hd' hf;obtain ⟨g,lA,c,rfl,hrc,hg,hcell⟩:=xh;clear Uh hun QS HV hf;rcases r with _|⟨a,_|⟨b,_|⟨e2,_|⟨d,r'⟩⟩⟩⟩
  ·have yw:Hid (o=some acc):=hd' (by rw [HO.out,PS.out];simp [eR]);go_wp2_with (at_builtin;refine Ng rfl _ _ rfl w.heap.size _ acc rfl Fo.out rfl ?_);go_ret2;exact (show qd o w _ _ by rw [yw.out];exact ⟨HF.out,_,rfl,Fo.out⟩)
  ·have yw:Hid (o=none):=hd' (by rw [HO.out,PS.out];simp [eR]);obtain ⟨ao,ca,rfl⟩:=Fo.out.form;have yt:=hx.eG HF.out;simp only [List.length_cons,List.length_nil] at My Nb;go_wp2_with (go_at_call 88;((with_reducible refine (ji (B:=B) acc.length 11 _ yt (by omega) (by omega)).mono ?_);rintro e w2 ⟨rfl,f2⟩));go_ret2;exact (show qd o w _ _ by rw [yw.out];exact ⟨HF.out.trans f2,_,rfl⟩)
  ·have y0:=hcell 0 a rfl;have y1:=hcell 1 b rfl;have bu:Hid (∀ u,Fr NoB w u->u.cell? ⟨g,lA,none⟩=some (nV a)/\u.cell? ⟨g,lA+1,none⟩=some (nV b)):=hd' (fun u f=>⟨(f.cell (p:=⟨g,lA,none⟩) hg (fun e=>e)).trans y0,(f.cell (p:=⟨g,lA+1,none⟩) hg (fun e=>e)).trans y1⟩);clear y0 y1;obtain ⟨x0,x1⟩:=bu.out wr HF.out;have a64:=pz a (by simp);have U7:=pz b (by simp);obtain ⟨y1,um⟩:∃ y,y=a*4+b / 16:=⟨_,rfl⟩;obtain ⟨p1,yx⟩:∃ y,y=a*4:=⟨_,rfl⟩;obtain ⟨p2,yY⟩:∃ y,y=b / 16:=⟨_,rfl⟩;obtain ⟨p4,xo⟩:∃ y,y=b % 16*16:=⟨_,rfl⟩;have s1:IntKind.u8.wrap ((a:Int)*4)=(p1:Int):=by rw [IntKind.wrap_u8];omega
   have s2:(b:Int) / 16=(p2:Int):=by omega
   have s4:IntKind.u8.wrap ((b:Int)*16)=(p4:Int):=by rw [IntKind.wrap_u8];omega
   have s4':((b:Int)*16) % 256=(p4:Int):=by omega
   have s3:bits .or .u8 (p1:Int) (p2:Int)=(y1:Int):=by rw [yx];exact uS a p2 2 y1 (by omega) (by omega) (by omega) (by omega)
   have b1:y1.toUInt8.toNat=y1:=by simp;omega
   have lz:bC [y1.toUInt8]=[nV y1]:=by simp [bC,b1]
   have yw:Hid (o=if p4=0 then some (acc++[y1.toUInt8]) else none):=hd' (by
    rw [HO.out,PS.out,eR,<- um];by_cases hb:b % 16=0
    ·rw [if_pos hb,if_pos (by omega)];rfl
    ·rw [if_neg hb,if_neg (by omega)];rfl)
   simp only [List.length_cons,List.length_nil] at My Nb hrc ⊢;obtain ⟨ao,ca,rfl⟩:=Fo.out.form;clear hcell pz ZT PS HO um yx yY xo b1 a64 U7;go_upto_region 14 with fail;go_region_held3 (fun w'=>w'.cell? ⟨g,lA,none⟩=some (nV a)/\w'.cell? ⟨g,lA+1,none⟩=some (nV b)) (first|(with_reducible exact bu.out _ HF.out)|(with_reducible exact bu.out _ HF.out.drew)|(with_reducible exact bu.out _ (HF.out.drew.alloc _))|(with_reducible exact bu.out _ (HF.out.alloc _).drew)|go_keep) (first|(refine xm (by rfl) _ _ (by rfl) wr.heap.size (.slice (some ⟨wr.heap.size,0,none⟩) 1 1) [y1.toUInt8] (by rfl) (by first|exact (BR.first wr #[nV y1] [y1.toUInt8] (by rw [lz]) (by unfold maxLen;simp)).fr ((Fr.refl NoB _).drew)) (by rfl) ?_));have U8:=hd' (HF.out.alloc (.cells #[nV y1] 5)).drew;have hbv:BR w.heap.size (wr.alloc (.cells #[nV y1] 5)).drew (.slice ao acc.length ca) acc:=Fo.out.fr ((Fr.refl NoB wr).alloc _).drew;have rH:∀ (i:Nat) u,(bC [y1.toUInt8])[i]?=some u->(wr.alloc (.cells #[nV y1] 5)).drew.cell? ⟨wr.heap.size,i,none⟩=some u:=fun i u hu=>aF wr #[nV y1] [y1.toUInt8] (by rw [lz]) i u hu;obtain ⟨x0,x1⟩:=bu.out _ U8.out;have QU:w.heap.size<=(wr.alloc (.cells #[nV y1] 5)).drew.heap.size:=U8.out.size;clear HF Fo bu lz;generalize (wr.alloc (.cells #[nV y1] 5)).drew=V at *;generalize wr.heap.size=gw at *;by_cases xo:p4=0
   ·subst xo;have s5:IntKind.u8.wrap ((b:Int)*16)=0:=s4;have s5':((b:Int)*16) % 256=0:=s4';rw [if_pos rfl] at yw;clear s4 s4';go_wp2_with (at_builtin;go_loud (refine dL rfl _ _ rfl w.heap.size (.slice ao acc.length ca) acc rfl hbv gw 1 1 [y1.toUInt8] rfl rfl rH (by simp;omega) QU ?_;intro v' w2 hv' Bk));go_ret2;exact (show qd o w _ _ by rw [yw.out];exact ⟨hbv.grown U8.out Bk (Nat.le_refl _),_,rfl,hv'⟩)
   ·(have ahm:¬ (p4:Int)=0:=by omega);rw [if_neg xo] at yw;have yt:=hx.eG U8.out;go_wp2_with (go_at_call 88;((with_reducible refine (ji (B:=B) acc.length 11 _ yt (by omega) (by omega)).mono ?_);rintro e w2 ⟨rfl,f2⟩));go_ret2;exact (show qd o w _ _ by rw [yw.out];exact ⟨U8.out.trans f2,_,rfl⟩)
  ·have y0:=hcell 0 a rfl;have y1:=hcell 1 b rfl;have y2:=hcell 2 e2 rfl;have bu:Hid (∀ u,Fr NoB w u->u.cell? ⟨g,lA,none⟩=some (nV a)/\u.cell? ⟨g,lA+1,none⟩=some (nV b)/\u.cell? ⟨g,lA+2,none⟩=some (nV e2)):=hd' (fun u f=>⟨(f.cell (p:=⟨g,lA,none⟩) hg (fun e=>e)).trans y0,(f.cell (p:=⟨g,lA+1,none⟩) hg (fun e=>e)).trans y1,(f.cell (p:=⟨g,lA+2,none⟩) hg (fun e=>e)).trans y2⟩);clear y0 y1 y2;obtain ⟨x0,x1,x2⟩:=bu.out wr HF.out;have a64:=pz a (by simp);have U7:=pz b (by simp);have ZU:=pz e2 (by simp);obtain ⟨y1,um⟩:∃ y,y=a*4+b / 16:=⟨_,rfl⟩;obtain ⟨y2,yy⟩:∃ y,y=b % 16*16+e2 / 4:=⟨_,rfl⟩;obtain ⟨p1,yx⟩:∃ y,y=a*4:=⟨_,rfl⟩;obtain ⟨p2,yY⟩:∃ y,y=b / 16:=⟨_,rfl⟩;obtain ⟨p4,xo⟩:∃ y,y=b % 16*16:=⟨_,rfl⟩;obtain ⟨p5,PT⟩:∃ y,y=e2 / 4:=⟨_,rfl⟩;obtain ⟨p7,QV⟩:∃ y,y=e2 % 4*64:=⟨_,rfl⟩;have s1:IntKind.u8.wrap ((a:Int)*4)=(p1:Int):=by rw [IntKind.wrap_u8];omega
   have s2:(b:Int) / 16=(p2:Int):=by omega
   have s4:IntKind.u8.wrap ((b:Int)*16)=(p4:Int):=by rw [IntKind.wrap_u8];omega
   have s5:(e2:Int) / 4=(p5:Int):=by omega
   have s7:IntKind.u8.wrap ((e2:Int)*64)=(p7:Int):=by rw [IntKind.wrap_u8];omega
   have s7':((e2:Int)*64) % 256=(p7:Int):=by omega
   have s3:bits .or .u8 (p1:Int) (p2:Int)=(y1:Int):=by rw [yx];exact uS a p2 2 y1 (by omega) (by omega) (by omega) (by omega)
   have s6:bits .or .u8 (p4:Int) (p5:Int)=(y2:Int):=by rw [xo];exact uS (b % 16) p5 4 y2 (by omega) (by omega) (by omega) (by omega)
   have b1:y1.toUInt8.toNat=y1:=by simp;omega
   have b2:y2.toUInt8.toNat=y2:=by simp;omega
   have lz:bC [y1.toUInt8]=[nV y1]:=by simp [bC,b1]
   have iD:bC [y2.toUInt8]=[nV y2]:=by simp [bC,b2]
   have yw:Hid (o=if p7=0 then some (acc++[y1.toUInt8,y2.toUInt8]) else none):=hd' (by
    rw [HO.out,PS.out,eR,<- um,<- yy];by_cases hb:e2 % 4=0
    ·rw [if_pos hb,if_pos (by omega)];rfl
    ·rw [if_neg hb,if_neg (by omega)];rfl)
   simp only [List.length_cons,List.length_nil] at My Nb hrc ⊢;obtain ⟨ao,ca,rfl⟩:=Fo.out.form;have hwr:=HF.out.size;clear hcell pz ZT PS HO um yy yx yY xo PT QV b1 b2 a64 U7 ZU;go_upto_region 12 with fail;go_region_held3 (fun w'=>w'.cell? ⟨g,lA,none⟩=some (nV a)/\w'.cell? ⟨g,lA+1,none⟩=some (nV b)/\w'.cell? ⟨g,lA+2,none⟩=some (nV e2)) (first|(with_reducible exact bu.out _ t2)|(with_reducible exact bu.out _ HF.out)|(with_reducible exact bu.out _ HF.out.drew)|(with_reducible exact bu.out _ (HF.out.drew.alloc _))|(with_reducible exact bu.out _ (HF.out.alloc _).drew)|go_keep) (first|(refine ir (by rfl) _ _ (by rfl) w.heap.size (.slice none 0 0) [] (by rfl) (World.ownsRow_nil _ _ _ _) wr.heap.size 1 1 [y2.toUInt8] (by rfl) rfl (fun i u hu=>aF wr #[nV y2] [y2.toUInt8] (by rw [iD]) i u hu) (by simp) (by have:=HF.out.size;simp;omega) ?_;intro v5 w5 mO PN;(have t2:Fr NoB w w5:=(HF.out.alloc _).drew.grown PN (fun j hj hlt=>by simp [Value.ownBlock] at hj))));have QQ:BR w.heap.size w5 (.slice ao acc.length ca) acc:=by
    have h1:=Fo.out.fr ((Fr.refl NoB wr).alloc (.cells #[nV y2] 5)).drew;exact World.ownsRow.kept h1 PN (by
     cases hj:(Value.slice ao acc.length ca).ownBlock with
     | none=>exact Or.inl rfl
     | some j=>exact Or.inr (fun e=>by simp [Value.ownBlock] at e))
   have IA:=hd' t2;obtain ⟨g5,c5,rfl,ZS,QR,xk⟩:=mO.sl (by simp);have HC5:=hd' xk;have U9:(([]:Bs)++[y2.toUInt8]).length=1:=rfl;rw [U9] at *;obtain ⟨x0,x1,x2⟩:=bu.out w5 IA.out;clear mO PN t2 HF Fo xk hwr;go_upto_region 14 with fail;go_region_held3 (fun w'=>w'.cell? ⟨g,lA,none⟩=some (nV a)/\w'.cell? ⟨g,lA+1,none⟩=some (nV b)) (first|(with_reducible exact ⟨(bu.out _ t6).1,(bu.out _ t6).2.1⟩)|(with_reducible exact ⟨(bu.out _ IA.out).1,(bu.out _ IA.out).2.1⟩)|(with_reducible exact ⟨(bu.out _ IA.out.drew).1,(bu.out _ IA.out.drew).2.1⟩)|(with_reducible exact ⟨(bu.out _ (IA.out.drew.alloc _)).1,(bu.out _ (IA.out.drew.alloc _)).2.1⟩)|(with_reducible exact ⟨(bu.out _ (IA.out.alloc _).drew).1,(bu.out _ (IA.out.alloc _).drew).2.1⟩)|go_keep) (first|(refine ir (by rfl) _ _ (by rfl) w5.heap.size (.slice (some ⟨w5.heap.size,0,none⟩) 1 1) [y1.toUInt8] (by rfl) ((BR.first w5 #[nV y1] [y1.toUInt8] (by rw [lz]) (by unfold maxLen;simp)).fr ((Fr.refl NoB _).drew)) g5 1 c5 [y2.toUInt8] (by rfl) rfl (fun i u hu=>(((Fr.refl NoB w5).alloc (.cells #[nV y1] 5)).drew.cell (p:=⟨g5,i,none⟩) QR (fun e=>e)).trans (HC5.out i u hu)) (by simp) (by simp) ?_;intro v6 w6 hv6 ZV;(have t6:Fr NoB w w6:=(IA.out.alloc _).drew.grown ZV (fun j hj hlt=>by simp [Value.ownBlock] at hj;have:=IA.out.size;omega))));have PU:BR w.heap.size w6 (.slice ao acc.length ca) acc:=by
    have h1:=QQ.fr ((Fr.refl NoB w5).alloc (.cells #[nV y1] 5)).drew;exact World.ownsRow.kept h1 ZV (by
     cases hj:(Value.slice ao acc.length ca).ownBlock with
     | none=>exact Or.inl rfl
     | some j=>exact Or.inr (fun e=>by simp [Value.ownBlock] at e;have:=(QQ.lt hj).2;omega))
   have Yx:=hd' t6;obtain ⟨g6,c6,rfl,aho,ahp,Je⟩:=hv6.sl (by simp);have HC6:=hd' Je;have Va:([y1.toUInt8]++[y2.toUInt8]).length=2:=rfl;rw [Va] at *;have QU:w.heap.size<=w6.heap.size:=Yx.out.size;clear hv6 ZV t6 bu Je QQ IA HC5;by_cases QV:p7=0
   ·subst QV;rw [if_pos rfl] at yw;clear s7 s7';go_wp2_with (at_builtin;go_loud (refine dL rfl _ _ rfl w.heap.size (.slice ao acc.length ca) acc rfl PU g6 2 c6 [y1.toUInt8,y2.toUInt8] rfl rfl HC6.out (by simp;omega) QU ?_;intro v' w2 hv' Bk));go_ret2;exact (show qd o w _ _ by rw [yw.out];exact ⟨PU.grown Yx.out Bk (Nat.le_refl _),_,rfl,hv'⟩)
   ·(have ahr:¬ (p7:Int)=0:=by omega);rw [if_neg QV] at yw;have yt:=hx.eG Yx.out;go_wp2_with (go_at_call 88;((with_reducible refine (ji (B:=B) acc.length 11 _ yt (by omega) (by omega)).mono ?_);rintro e w2 ⟨rfl,f2⟩));go_ret2;exact (show qd o w _ _ by rw [yw.out];exact ⟨Yx.out.trans f2,_,rfl⟩)
  ·have y0:=hcell 0 a rfl;have y1:=hcell 1 b rfl;have y2:=hcell 2 e2 rfl;have y3:=hcell 3 d rfl;have bu:Hid (∀ u,Fr NoB w u->u.cell? ⟨g,lA,none⟩=some (nV a)/\u.cell? ⟨g,lA+1,none⟩=some (nV b)/\u.cell? ⟨g,lA+2,none⟩=some (nV e2)/\u.cell? ⟨g,lA+3,none⟩=some (nV d)):=hd' (fun u f=>⟨(f.cell (p:=⟨g,lA,none⟩) hg (fun e=>e)).trans y0,(f.cell (p:=⟨g,lA+1,none⟩) hg (fun e=>e)).trans y1,(f.cell (p:=⟨g,lA+2,none⟩) hg (fun e=>e)).trans y2,(f.cell (p:=⟨g,lA+3,none⟩) hg (fun e=>e)).trans y3⟩);clear y0 y1 y2 y3;obtain ⟨x0,x1,x2,x3⟩:=bu.out wr HF.out;have a64:=pz a (by simp);have U7:=pz b (by simp);have ZU:=pz e2 (by simp);have d64:=pz d (by simp);have k4:(4:Int)<=((a::b::e2::d::r').length:Int):=by simp;omega
   have k0:(0:Int)<((a::b::e2::d::r').length:Int):=by omega
   have k0n:0<(a::b::e2::d::r').length:=by simp
   have k1:(1:Int)<((a::b::e2::d::r').length:Int):=by omega
   have k2:(2:Int)<((a::b::e2::d::r').length:Int):=by omega
   have k3:(3:Int)<((a::b::e2::d::r').length:Int):=by omega
   obtain ⟨y1,um⟩:∃ y,y=a*4+b / 16:=⟨_,rfl⟩;obtain ⟨y2,yy⟩:∃ y,y=b % 16*16+e2 / 4:=⟨_,rfl⟩;obtain ⟨y3,hy3⟩:∃ y,y=e2 % 4*64+d:=⟨_,rfl⟩;obtain ⟨p1,yx⟩:∃ y,y=a*4:=⟨_,rfl⟩;obtain ⟨p2,yY⟩:∃ y,y=b / 16:=⟨_,rfl⟩;obtain ⟨p4,xo⟩:∃ y,y=b % 16*16:=⟨_,rfl⟩;obtain ⟨p5,PT⟩:∃ y,y=e2 / 4:=⟨_,rfl⟩;obtain ⟨p7,QV⟩:∃ y,y=e2 % 4*64:=⟨_,rfl⟩;have s1:IntKind.u8.wrap ((a:Int)*4)=(p1:Int):=by rw [IntKind.wrap_u8];omega
   have s2:(b:Int) / 16=(p2:Int):=by omega
   have s4:IntKind.u8.wrap ((b:Int)*16)=(p4:Int):=by rw [IntKind.wrap_u8];omega
   have s5:(e2:Int) / 4=(p5:Int):=by omega
   have s7:IntKind.u8.wrap ((e2:Int)*64)=(p7:Int):=by rw [IntKind.wrap_u8];omega
   have s3:bits .or .u8 (p1:Int) (p2:Int)=(y1:Int):=by rw [yx];exact uS a p2 2 y1 (by omega) (by omega) (by omega) (by omega)
   have s6:bits .or .u8 (p4:Int) (p5:Int)=(y2:Int):=by rw [xo];exact uS (b % 16) p5 4 y2 (by omega) (by omega) (by omega) (by omega)
   have s8:bits .or .u8 (p7:Int) (d:Int)=(y3:Int):=by rw [QV];exact uS (e2 % 4) d 6 y3 (by omega) (by omega) (by omega) (by omega)
   have b1:y1.toUInt8.toNat=y1:=by simp;omega
   have b2:y2.toUInt8.toNat=y2:=by simp;omega
   have b3:y3.toUInt8.toNat=y3:=by simp;omega
   have QW:Hid (eR l=(eR r').map ((acc++[y1.toUInt8,y2.toUInt8,y3.toUInt8]) ++ ·)):=hd' (by rw [PS.out,eR,Option.map_map,um,yy,hy3];congr 1;funext x;simp);have ug:bC [y1.toUInt8,y2.toUInt8,y3.toUInt8]=[nV y1,nV y2,nV y3]:=by simp [bC,b1,b2,b3]
   have Yy:Hid ((a::b::e2::d::r').length=r'.length+4):=hd' rfl;have ZW:Hid (∀ k∈r',k<64):=hd' (fun k hk=>pz k (by simp [hk]));have Nh:Hid (∀ (i:Nat) k,r'[i]?=some k->w.cell? ⟨g,lA+4+i,none⟩=some (nV k)):=hd' (fun i k hk=>by have:=hcell (i+4) k (by simpa using hk);rwa [show lA+(i+4)=lA+4+i by omega] at this);clear hcell pz ZT PS um yy hy3 yx yY xo PT QV b1 b2 b3 a64 U7 ZU d64;generalize (a::b::e2::d::r').length=n at *;go_wp2_with fail;go_region_held3 (fun w'=>w'.cell? ⟨g,lA,none⟩=some (nV a)/\w'.cell? ⟨g,lA+1,none⟩=some (nV b)/\w'.cell? ⟨g,lA+2,none⟩=some (nV e2)/\w'.cell? ⟨g,lA+3,none⟩=some (nV d)) (first|(with_reducible exact bu.out _ t2)|(with_reducible exact bu.out _ HF.out)|(with_reducible exact bu.out _ HF.out.drew)|(with_reducible exact bu.out _ (HF.out.drew.alloc _))|(with_reducible exact bu.out _ (HF.out.alloc _).drew)|go_keep) (first|(refine ir (by rfl) _ _ (by rfl) w.heap.size _ acc (by rfl) (by first|exact Fo.out.fr ((Fr.refl NoB wr).alloc _).drew|exact Fo.out.fr ((Fr.refl NoB wr).drew.alloc _)) wr.heap.size 3 3 [y1.toUInt8,y2.toUInt8,y3.toUInt8] (by rfl) rfl (by rw [ug];first|exact World.news_of_block (cs := #[nV y1,nV y2,nV y3]) (t:=5) (fr:=(0,0)) (heap_alloc_new wr _)|(simp;done)) (by simp;omega) (by have:=HF.out.size;simp;omega) ?_;intro v' w2 hv' Bk;(have t2:Fr NoB w w2:=(HF.out.alloc _).drew.grown Bk (fun j hj hlt=>absurd (Fo.out.lt hj).1 (by omega)))));have qA:=hd' t2;have lF:=hd' hv';have Fp:n=r'.length+4:=Yy.out;clear hv' Bk t2 HF Fo x0 x1 x2 x3;go_wp2_with fail;have ZX:Hid (NR w (.slice (if c=4 then some ⟨g,lA,none⟩ else some ⟨g,lA+4,none⟩) r'.length (c - 4)) r'):=hd' (by
    by_cases Fq:c=4
    ·rw [if_pos Fq];have h0:r'=[]:=List.eq_nil_of_length_eq_zero (by omega);subst h0;exact ⟨g,lA,c - 4,rfl,by simp,hg,by simp⟩
    ·rw [if_neg Fq];exact ⟨g,lA+4,c - 4,rfl,by omega,hg,Nh.out⟩)
   go_roundw
   case rel=>exact ⟨r',_,by omega,ZX.out,lF.out,QW.out,ZW.out,by simp;omega,qA.out⟩
   case measure=>simp [PR];omega
theorem BU {B:Nat} (s:Bs) (w:World) (hx:Cx B w) (hl:s.length<=17592186044416) :
  Calls Tryz.prog 21 #[.string ⟨s.toArray⟩] w fun e w'=>e=.returned (.tuple #[.string ⟨((fE s).getD []).toArray⟩,.int .i64 (if (fE s).isSome then 0 else 11)])/\Fr NoB w w':=by
 have HN:Hid (Calls Tryz.prog 52 #[.string ⟨s.toArray⟩,.string ⟨#[65,66,67,68,69,70,71,72,73,74,75,76,77,78,79,80,81,82,83,84,85,86,87,88,89,90,97,98,99,100,101,102,103,104,105,106,107,108,109,110,111,112,113,114,115,116,117,118,119,120,121,122,48,49,50,51,52,53,54,55,56,57,45,95]⟩,.int .i64 11] w (xl (cQ s) w)):=hd' (yX s w hx hl);obtain ⟨o,ho⟩:∃ o,o=fE s:=⟨_,rfl⟩;rw [<- ho];rw [fE] at ho;cases hn:cQ s with
 | none=>
  rw [hn] at HN ho;have QX:o=none:=ho;subst QX;clear ho hn;go_enter Tryz.func21,Tryz.ntmps21;go_wp2_with (first|(go_at_call 52;((with_reducible refine HN.out.mono ?_);rintro e w1 ⟨f1,p,rfl⟩;unfold jN))|(go_at_call 54;((with_reducible refine (rK (B:=B) (.string ⟨p.toArray⟩) 11 _ (hx.eG f1)).mono ?_);rintro e w2 ⟨rfl,f2⟩)));go_ret2;exact ⟨rfl,f1.trans f2⟩
 | some l=>
  rw [hn] at HN ho;have QX:o=eR l:=ho;have iB:=rJ hn;have QS:=DN hn;have HU:Hid (∀ (g:Nat) (u:World),Fr NoB w u->Blk u g 5 (l.map nV).toArray->Calls Tryz.prog 53 #[.slice (some ⟨g,0,none⟩) l.length l.length] u (qd o u)):=hd' (fun g u f hb=>by
   rw [QX];exact xn l _ u (hx.eG f) (by omega) ⟨g,0,l.length,rfl,Nat.le_refl _,hb.lt,fun i k hk=>by rw [Nat.zero_add,hb.cell,List.getElem?_toArray,List.getElem?_map,hk];rfl⟩ QS)
  clear ho QX hn QS iB;cases o with
  | none=>
   go_enter Tryz.func21,Tryz.ntmps21;go_wp2_with (first|(go_at_call 52;((with_reducible refine HN.out.mono ?_);rintro e w1 ⟨f1,g,rfl,hg,hb⟩))|(go_at_call 53;((with_reducible refine (HU.out g _ f1 hb).mono ?_);rintro e w2 ⟨f2,p,rfl⟩;unfold jN))|(go_at_call 54;((with_reducible refine (rK (B:=B) (.string ⟨p.toArray⟩) 11 _ (hx.eG (f1.trans f2))).mono ?_);rintro e w3 ⟨rfl,f3⟩)));go_ret2;exact ⟨rfl,(f1.trans f2).trans f3⟩
  | some t=>
   go_enter Tryz.func21,Tryz.ntmps21;go_wp2_with (first|(go_at_call 52;((with_reducible refine HN.out.mono ?_);rintro e w1 ⟨f1,g,rfl,hg,hb⟩))|(go_at_call 53;((with_reducible refine (HU.out g _ f1 hb).mono ?_);rintro e w2 ⟨f2,v,rfl,hv⟩;have iE:=hv.conv)));go_ret2;exact ⟨rfl,f1.trans f2⟩
end Go.Proofs.YtbifjamddbpcjaaGreatDoor
