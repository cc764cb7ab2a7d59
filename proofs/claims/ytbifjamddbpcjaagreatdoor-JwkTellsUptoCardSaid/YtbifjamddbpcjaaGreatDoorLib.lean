/- The library's functions at this dump, in the words of my frames; the variables that they read. -/
import Derived.Test.YtbifjamddbpcjaaGreatDoorJl
import Derived.Test.YtbifjamddbpcjaaGreatDoorShelfA
import Derived.Lib.OthersKept
namespace Go.Proofs.YtbifjamddbpcjaaGreatDoor
set_option maxRecDepth 100000
set_option maxHeartbeats 25600000
open Go.RowKit
theorem Fr.iw {w w':World} (h:Below w.heap.size w w'):Fr NoB w w':=
 ⟨h.os,h.tape,h.output,h.size,fun k hk _=>h.block k hk⟩
theorem Fr.toBelow {w w':World} (h:Fr NoB w w'):Below w.heap.size w w':=h.below (Nat.le_refl _) (fun _ hj=>hj.elim)
theorem Fr.grow (w:World) (n:Nat) (os:Array Obj):Fr NoB w (Sort.grow (w.drewN n) os):=
 ⟨rfl,rfl,rfl,by simp [Sort.grow,World.drewN],fun k hk _=>by
  show (w.heap++os)[k]?=w.heap[k]?;rw [Array.getElem?_append_left hk]⟩
structure Cx (B:Nat) (w:World):Prop where
 nine:9<=B
 le:B<=w.heap.size
 pow:Lib.TabIs Tryz.prog w "internal/strconv.uint64pow10" .u64 Lib.pow10Tab
 syn:∃ te pe,w.cell? ⟨5,0,none⟩=some (.iface te pe)
 rng:∃ te pe,w.cell? ⟨6,0,none⟩=some (.iface te pe)
 ety:w.cell? ⟨1,0,none⟩=some (.iface 258 (.agg #[.pointer (some ⟨9,71,none⟩)]))
theorem VD:Tryz.prog.globalNamed "internal/strconv.uint64pow10" = some 2:=by kernel_rfl
theorem Cx.fr {B:Nat} {S:Nat->Prop} {w w':World} (h:Cx B w) (f:Fr S w w') (hs:∀ k,S k->B<=k):Cx B w':=by
 obtain ⟨h9,hle,hp,⟨t1,p1,h1⟩,⟨t2,p2,h2⟩,h3⟩:=h;have hn:∀ k,k<B->¬ S k:=fun k hk e=>by have:=hs k e;omega
 refine ⟨h9,Nat.le_trans hle f.size,?_,⟨t1,p1,?_⟩,⟨t2,p2,?_⟩,?_⟩
 ·unfold Lib.TabIs at hp ⊢;rw [<- hp];unfold World.var?;rw [VD];have hb:=f.block 2 (by omega) (hn _ (by omega));simp only [Option.bind_some,hb]
 ·rw [f.cell (p:=⟨5,0,none⟩) (show 5<_ by omega) (hn 5 (by omega))];exact h1
 ·rw [f.cell (p:=⟨6,0,none⟩) (show 6<_ by omega) (hn 6 (by omega))];exact h2
 ·rw [f.cell (p:=⟨1,0,none⟩) (show 1<_ by omega) (hn 1 (by omega))];exact h3
theorem Cx.eG {B:Nat} {w w':World} (h:Cx B w) (f:Fr NoB w w'):Cx B w':=h.fr f (fun _ e=>e.elim)
theorem kH (s cs:Bs) (w:World) (hcs:cs.length<4294967281) (ha:cs.all (fun b=>decide (b.toNat<128))=true) :
  Calls Tryz.prog 173 #[.string ⟨s.toArray⟩,.string ⟨cs.toArray⟩] w fun e w'=>e=.returned (.string ⟨(Lib.trimLeftS s cs).toArray⟩)/\Fr NoB w w':=by
 refine (Any.strings_TrimLeft_laid Tryz.lays161 (by kernel_rfl) ⟨s.toArray⟩ ⟨cs.toArray⟩ w (by show cs.toArray.size<_;simpa using hcs) (ascii_of_all ha)).mono ?_;rintro e w' ⟨rfl,hb⟩;exact ⟨by simp,Fr.iw hb⟩
theorem zA (s cs:Bs) (w:World) (hs:s.length<=9223372036854775807) (hcs:cs.length<4294967281) (ha:cs.all (fun b=>decide (b.toNat<128))=true) :
  Calls Tryz.prog 262 #[.string ⟨s.toArray⟩,.string ⟨cs.toArray⟩] w fun e w'=>e=.returned (.string ⟨(Lib.trimS s cs).toArray⟩)/\Fr NoB w w':=by
 refine (Any.strings_Trim_laid Tryz.lays160 (by kernel_rfl) ⟨s.toArray⟩ ⟨cs.toArray⟩ w (by show s.toArray.size<=_;simpa using hs) (by show cs.toArray.size<_;simpa using hcs) (ascii_of_all ha)).mono ?_;rintro e w' ⟨rfl,hb⟩;exact ⟨by simp,Fr.iw hb⟩
theorem aI (s p:Bs) (w:World) :
  Calls Tryz.prog 174 #[.string ⟨s.toArray⟩,.string ⟨p.toArray⟩] w fun e w'=>e=.returned (.bool (Lib.hasPrefix s p))/\w=w':=
 (Tryz.strings_HasPrefix ⟨s.toArray⟩ ⟨p.toArray⟩ w).mono fun _ _ ⟨he,hw⟩=>⟨he,hw.symm⟩
theorem eT (s p:Bs) (w:World) (h:Lib.hasPrefix s p=true) :
  Calls Tryz.prog 211 #[.string ⟨s.toArray⟩,.string ⟨p.toArray⟩] w fun e w'=>e=.returned (.tuple #[.string ⟨(s.drop p.length).toArray⟩,.bool true])/\w=w':=
 (Tryz.strings_CutPrefix ⟨s.toArray⟩ ⟨p.toArray⟩ w).mono fun _ _ ⟨he,hw⟩=>⟨by rw [he];simp [Lib.trimPrefix,h],hw.symm⟩
theorem kL (s p:Bs) (w:World) (h:Lib.hasPrefix s p=false) :
  Calls Tryz.prog 211 #[.string ⟨s.toArray⟩,.string ⟨p.toArray⟩] w fun e w'=>e=.returned (.tuple #[.string ⟨s.toArray⟩,.bool false])/\w=w':=
 (Tryz.strings_CutPrefix ⟨s.toArray⟩ ⟨p.toArray⟩ w).mono fun _ _ ⟨he,hw⟩=>⟨by rw [he];simp [Lib.trimPrefix,h],hw.symm⟩
theorem bq (s:Bs) (c:Int) (w:World) :
  Calls Tryz.prog 87 #[.string ⟨s.toArray⟩,.int .u8 c] w fun e w'=>e=.returned (.int .i64 (Lib.indexByte s c.toNat.toUInt8))/\w=w':=
 (Tryz.strings_IndexByte ⟨s.toArray⟩ c w).mono fun _ _ ⟨he,hw⟩=>⟨he,hw.symm⟩
theorem zB (a b:Bs) (w:World) :
  Calls Tryz.prog 25 #[.string ⟨a.toArray⟩,.string ⟨b.toArray⟩] w fun e w'=>e=.returned (.int .i64 (Lib.compareBytes a b))/\w=w':=
 (Tryz.strings_Compare ⟨a.toArray⟩ ⟨b.toArray⟩ w).mono fun _ _ ⟨he,hw⟩=>⟨he,hw.symm⟩
theorem om {B:Nat} (n:Int) (h0 : -9223372036854775808<=n) (h1:n<=9223372036854775807) (w:World) (hx:Cx B w) :
  Calls Tryz.prog 100 #[.int .i64 n] w fun e w'=>e=.returned (.string ⟨(Lib.itoa n).toArray⟩)/\Fr NoB w w':=by
 refine (Tryz.strconv_Itoa n h0 h1 w hx.pow).mono ?_;rintro e w' ⟨rfl,k,os,rfl⟩;exact ⟨rfl,Fr.grow w k os⟩
theorem D6 (s:Bs) (w:World) (hs:s.length<=281474976710656) (n:Int) (h:Lib.atoiAll s=.ok n) :
  Calls Tryz.prog 215 #[.string ⟨s.toArray⟩] w fun e w'=>e=.returned (.tuple #[.int .i64 n,.nilIface])/\Fr NoB w w':=by
 refine (Tryz.strconv_Atoi_ok ⟨s.toArray⟩ (by show s.toArray.size<=_;simp;omega) n h w).mono ?_;rintro e w' ⟨rfl,rfl|⟨t,rfl⟩⟩
 ·exact ⟨rfl,Fr.refl _ _⟩
 ·exact ⟨rfl,Fr.iw (Lib.below_freeze (((Below.refl _ w).drew).alloc (Nat.le_refl _) _) (Nat.le_refl _) _)⟩
def Rt (w:World) (e:Ending) (w':World):Prop:=∃ x T p,e=.returned (.tuple #[.int .i64 x,.iface T p])/\Fr NoB w w'
theorem N0 {B:Nat} (s:Bs) (w:World) (hx:Cx B w) (hs:s.length<=281474976710656) (h:∀ n,Lib.atoiAll s≠.ok n) :
  Calls Tryz.prog 215 #[.string ⟨s.toArray⟩] w (Rt w):=by
 cases hq:Lib.atoiAll s with
 | ok n=>exact (h n hq).elim
 | range=>
  obtain ⟨te,pe,hc⟩:=hx.rng;refine (Tryz.strconv_Atoi_range ⟨s.toArray⟩ (by show s.toArray.size<=_;simpa using hs) hq _ w hc (Or.inr ⟨_,_,rfl⟩)).mono ?_;rintro e w' ⟨N,rfl,_,_,hb⟩;exact ⟨_,_,_,rfl,Fr.iw hb⟩
 | _=>
  obtain ⟨te,pe,hc⟩:=hx.syn;refine (Tryz.strconv_Atoi_syntax ⟨s.toArray⟩ (by show s.toArray.size<=_;simpa using hs) (hq.trans rfl) _ w hc (Or.inr ⟨_,_,rfl⟩)).mono ?_;rintro e w' ⟨N,rfl,_,_,hb⟩;exact ⟨_,_,_,rfl,Fr.iw hb⟩
def Bd (w:World) (B b:Nat) (l:Bs):Prop:=Lib.IsBuilderF 93 5 B b (Lib.byteCells l) w
def From (B:Nat):Nat->Prop:=fun k=>B<=k
theorem Fr.xD {B:Nat} {w w':World} (h:Below B w w'):Fr (From B) w w':=
 ⟨h.os,h.tape,h.output,h.size,fun k _ hn=>h.block k (Nat.lt_of_not_le hn)⟩
theorem Fr.behind {S:Nat->Prop} {B:Nat} {a w w':World} (h:Fr S a w) (k:Fr (From B) w w') (hB:a.heap.size<=B):Fr S a w':=
 h.andThen k (fun j hj e=>by have:B<=j:=e;omega)
theorem Bd.new (w:World):Bd (w.alloc (.cells #[.pointer none,.slice none 0 0] 93)) w.heap.size w.heap.size []:=
 Lib.IsBuilderF.of (Lib.fresh_isBuilder _ _ w)
theorem N3 {S:Nat->Prop} {w w':World} {base:Nat} {e:TypeId} {size:Nat} {v:Value} {n:Nat} {xs:List Value} (f:Fr S w w') (ho:w.ownsRowF base e size v n xs) (hs:∀ k,base<=k->¬ S k):w'.ownsRowF base e size v n xs:=by
 obtain ⟨h1,h2⟩:=ho;refine ⟨h1,?_⟩;rcases h2 with h2|⟨g,cap,cur,fz,hv,hg,hh,r⟩
 ·exact Or.inl h2
 ·exact Or.inr ⟨g,cap,cur,fz,hv,hg,(f.block g (lt_of_block hh) (hs g hg)).trans hh,r⟩
theorem D7 {S:Nat->Prop} {w w':World} {T e:TypeId} {B b:Nat} {p:Value} {bs:List Value} (f:Fr S w w') (h:Lib.BuilderAtF T e B b p bs w) (hs:∀ k,B<=k->¬ S k):Lib.BuilderAtF T e B b p bs w':=by
 have hlt:=h.lt;obtain ⟨hB,v,hb,hown,hne⟩:=h;exact ⟨hB,v,(f.block b hlt (hs b hB)).trans hb,N3 f hown hs,hne⟩
theorem Bd.fr {S:Nat->Prop} {w w':World} {B b:Nat} {l:Bs} (h:Bd w B b l) (f:Fr S w w') (hs:∀ k,B<=k->¬ S k):Bd w' B b l:=
 h.elim (fun x=>Or.inl (D7 f x hs)) (fun x=>Or.inr (D7 f x hs))
theorem Bd.lt {w:World} {B b:Nat} {l:Bs} (h:Bd w B b l):b<w.heap.size:=h.elim (fun x=>x.lt) (fun x=>x.lt)
theorem Bd.le {w:World} {B b:Nat} {l:Bs} (h:Bd w B b l):B<=b:=h.elim (fun x=>x.1) (fun x=>x.1)
def JS (B b:Nat) (w w':World):Prop:=Fr (From B) w w'/\Lib.OthersKept 5 (some b) w w'
theorem ur (B b:Nat) (l:Bs) (c:UInt8) (w:World) (h:Bd w B b l) (hl:l.length+1<=140737488355328) (hB:B<=w.heap.size) :
  Calls Tryz.prog 102 #[.pointer (some ⟨b,0,none⟩),.int .u8 (c.toNat:Int)] w fun e w'=>e=.returned .nilIface/\Bd w' B b (l++[c])/\JS B b w w':=by
 refine (Tryz.Builder_WriteByte_k B b _ (c.toNat:Int) w h (by rw [Lib.byteCells_length];exact hl) hB).mono ?_;rintro e w' ⟨rfl,h1,h2,h3⟩;exact ⟨rfl,by unfold Bd;rw [Lib.byteCells_append];exact Or.inr h1,Fr.xD h2,h3⟩
theorem kZ (B b:Nat) (l t:Bs) (w:World) (h:Bd w B b l) (hl:l.length+t.length<=140737488355328) (hB:B<=w.heap.size) :
  Calls Tryz.prog 62 #[.pointer (some ⟨b,0,none⟩),.string ⟨t.toArray⟩] w fun e w'=>e=.returned (.tuple #[.int .i64 t.length,.nilIface])/\Bd w' B b (l++t)/\JS B b w w':=by
 refine (Tryz.Builder_WriteString_k B b _ ⟨t.toArray⟩ w h (by rw [Lib.byteCells_length];exact hl) hB).mono ?_;rintro e w' ⟨rfl,h1,h2,h3⟩;exact ⟨rfl,by unfold Bd;rw [Lib.byteCells_append];exact Or.inr h1,Fr.xD h2,h3⟩
theorem ef (B b:Nat) (l:Bs) (w:World) (h:Bd w B b l) (hB:B<=w.heap.size) :
  Calls Tryz.prog 61 #[.pointer (some ⟨b,0,none⟩)] w fun e w'=>e=.returned (.string ⟨l.toArray⟩)/\Bd w' B b l/\JS B b w w':=by
 refine (Tryz.Builder_String_any_k B b l w h hB).mono ?_;rintro e w' ⟨rfl,h1,h2,h3⟩;exact ⟨rfl,h1,Fr.xD h2,h3⟩
theorem zC (B b:Nat) (l:Bs) (w:World) (h:Bd w B b l) :
  Calls Tryz.prog 60 #[.pointer (some ⟨b,0,none⟩)] w fun e w'=>e=.returned (.int .i64 l.length)/\w=w':=by
 refine (Tryz.Builder_Len_f B b _ w h).mono ?_;rintro e w' ⟨rfl,rfl⟩;exact ⟨by rw [Lib.byteCells_length],rfl⟩
def zD (w:World) (v v':Value):Prop:=v'.ownBlock=v.ownBlock\/∀ k,v'.ownBlock=some k->w.heap.size<=k
section
variable {P:Program} (w:World)
theorem xE (base:Nat) (t ty e:TypeId) (i:TypeInfo) (z:Value) (size bytes:Nat) (ht:P.underlying t=some (.slice e)) (hi:P.info? e=some i) (hz:i.zero=some z)
  (lj:i.size=size) (D8:i.bytes=bytes) (NM:z.cells.size=size) (hsz:0<size)
  (v:Value) (n:Nat) (xs:List Value) (hown:w.ownsRowF base e size v n xs)
  (a:Addr) (m c:Nat) (news:List Value) (hl:news.length=m*size) (hnews:∀ j u,news[j]?=some u->w.cell? (a.add j)=some u) (h1:∀ u∈news,u.oneCell'=true)
  (JT:n+m<=maxLen) (dM:(n+m)*bytes<=140737488355328) (v':Value) (w':World)
  (hr:(Builtin.append_ #[t,t] ty #[v,.slice (some a) m c]).run P w=.ok v' w'):zD w v v':=by
 rcases hown.2 with ⟨rfl,rfl⟩|⟨g,cap,cur,fz,rfl,hbg,hg,Jd,Ur,PQ,hcs,VE⟩
 ·obtain ⟨v2,w2,r1,r2,_,_⟩:=run_append_own (P:=P) w w.heap.size t ty e i z size bytes ht hi hz lj D8 NM hsz (.slice none 0 0) 0 xs ⟨hown.1,.inl ⟨rfl,rfl⟩⟩ a m c news hl hnews h1 JT dM (Nat.le_refl _);rw [hr] at r1;injection r1 with e1 e2
  subst e1;refine Or.inr (fun k hk => ?_);rcases r2.2 with ⟨rfl,_⟩|⟨g,cap,cur,rfl,hg,_⟩
  ·simp [Value.ownBlock] at hk
  ·simp [Value.ownBlock] at hk;omega
 ·subst lj;subst D8;by_cases hroom:n+m<=cap
  ·have gm:n*i.size+news.length<=cur.size:=by rw [hl,hcs,<- Nat.add_mul];exact Nat.mul_le_mul_right _ hroom
   have h2:=run_append_roomF (P:=P) w t ty e i ht hi g n cap cur fz hg Jd a m c news hl hnews h1 hroom gm;rw [hr] at h2;injection h2 with e1 e2
   subst e1;exact Or.inl rfl
  ·have Ru:n+m<=9223372036854775807:=by simp only [maxLen] at JT;omega
   have holds:∀ j u,xs[j]?=some u->w.cell? ((⟨g,0,none⟩:Addr).add j)=some u:=hown.cells (g:=g) rfl;have h2:=run_append_grow (P:=P) w t ty e i z ht hi hz ⟨g,0,none⟩ n cap xs hown.1 holds a m c news hl hnews (by omega) (by omega) (growslice_fits (by omega) dM);rw [hr] at h2;injection h2 with e1 e2
   subst e1;exact Or.inr (fun k hk=>by simp [Value.ownBlock] at hk;omega)
theorem mP (base:Nat) (t u ty e:TypeId) (i:TypeInfo) (ht:P.underlying t=some (.slice e)) (hu:P.underlying u=some .string) (hi:P.info? e=some i) (hz:i.zero=some (.int .u8 0))
  (lj:i.size=1) (D8:i.bytes=1)
  (v:Value) (n:Nat) (xs:List Value) (hown:w.ownsRowF base e 1 v n xs) (s:ByteArray)
  (JT:n+s.size<=maxLen) (dM:n+s.size<=140737488355328) (v':Value) (w':World)
  (hr:(Builtin.append_ #[t,u] ty #[v,.string s]).run P w=.ok v' w'):zD w v v':=by
 rcases hown.2 with ⟨rfl,rfl⟩|⟨g,cap,cur,fz,rfl,hbg,hg,Jd,Ur,PQ,hcs,VE⟩
 ·obtain ⟨v2,w2,r1,r2,_,_⟩:=Lib.run_append_own_string (P:=P) w w.heap.size t u ty e i ht hu hi hz lj D8 (.slice none 0 0) 0 xs ⟨hown.1,.inl ⟨rfl,rfl⟩⟩ s JT dM (Nat.le_refl _);rw [hr] at r1;injection r1 with e1 e2
  subst e1;refine Or.inr (fun k hk => ?_);rcases r2.2 with ⟨rfl,_⟩|⟨g,cap,cur,rfl,hg,_⟩
  ·simp [Value.ownBlock] at hk
  ·simp [Value.ownBlock] at hk;omega
 ·by_cases hroom:n+s.size<=cap
  ·have ahO:cur.size=cap:=by simpa using hcs
   have h2:=Lib.run_append_room_stringF (P:=P) w t u ty e i ht hu hi lj g n cap cur fz hg (by simpa using Jd) s hroom (by omega);rw [hr] at h2;injection h2 with e1 e2
   subst e1;exact Or.inl rfl
  ·have Ru:n+s.size<=9223372036854775807:=by simp only [maxLen] at JT;omega
   have ja:xs.length=n:=by simpa using hown.1
   have holds:∀ j u,xs[j]?=some u->w.cell? ((⟨g,0,none⟩:Addr).add j)=some u:=hown.cells (g:=g) rfl;have h2:=Lib.run_append_grow_string (P:=P) w t u ty e i (.int .u8 0) ht hu hi hz ⟨g,0,none⟩ n cap xs (by rw [lj];simpa using ja) holds s (by omega) (by omega) (by rw [D8];exact growslice_fits (by omega) (by omega));rw [hr] at h2;injection h2 with e1 e2
   subst e1;exact Or.inr (fun k hk=>by simp [Value.ownBlock] at hk;omega)
variable {w}
theorem jh {ops:Array Oper} {rest:List Oper} {o:Oper} {a:Act} {Q:Exit->Act->World->Prop} (hgd:o.guard=none) (s x:Operand) (t:TypeId)
  (ho:o.op=.call { callee:=.builtin .append,args := #[s,x],argTypes := #[t,t] })
  (base:Nat) (e:TypeId) (i:TypeInfo) (z:Value) (size bytes:Nat) (ht:P.underlying t=some (.slice e)) (hi:P.info? e=some i) (hz:i.zero=some z)
  (lj:i.size=size) (D8:i.bytes=bytes) (NM:z.cells.size=size) (hsz:0<size)
  (v:Value) (n:Nat) (xs:List Value) (hs:a.eval s=v) (hown:w.ownsRowF base e size v n xs)
  (ad:Addr) (m c:Nat) (news:List Value) (hx:a.eval x=.slice (some ad) m c) (hl:news.length=m*size) (hnews:∀ j u,news[j]?=some u->w.cell? (ad.add j)=some u) (h1:∀ u∈news,u.oneCell'=true)
  (JT:n+m<=maxLen) (dM:(n+m)*bytes<=140737488355328) (hbase:base<=w.heap.size)
  (h:∀ v' w',w'.ownsRowF base e size v' (n+m) (xs++news)->w.grownBy w' v.ownBlock->zD w v v'->wpList P ops Q rest (a.put o.dst v') w'):wpList P ops Q (o::rest) a w:=by
 refine wpList_plain hgd fun K hK => ?_;obtain ⟨v',w',hr,h2,h3,h4⟩:=run_append_ownF (P:=P) w base t o.type e i z size bytes ht hi hz lj D8 NM hsz v n xs hown ad m c news hl hnews h1 JT dM hbase;have h5:=xE (P:=P) w base t o.type e i z size bytes ht hi hz lj D8 NM hsz v n xs hown ad m c news hl hnews h1 JT dM v' w' hr;unfold Oper.wp execOp;simp only [ho,resolve,invoke,builtin,Sem.run_bind,Sem.run_pure,Result.andThen_ok,List.map_toArray,List.map_cons,List.map_nil,hs,hx,hr];exact hK _ _ (h v' w' h2 h3 h5)
theorem jx {ops:Array Oper} {rest:List Oper} {o:Oper} {a:Act} {Q:Exit->Act->World->Prop} (hgd:o.guard=none) (sl x:Operand) (t u:TypeId)
  (ho:o.op=.call { callee:=.builtin .append,args := #[sl,x],argTypes := #[t,u] })
  (base:Nat) (e:TypeId) (i:TypeInfo) (ht:P.underlying t=some (.slice e)) (hu:P.underlying u=some .string) (hi:P.info? e=some i) (hz:i.zero=some (.int .u8 0))
  (lj:i.size=1) (D8:i.bytes=1)
  (v:Value) (n:Nat) (xs:List Value) (hs:a.eval sl=v) (hown:w.ownsRowF base e 1 v n xs) (s:ByteArray) (hx:a.eval x=.string s)
  (JT:n+s.size<=maxLen) (dM:n+s.size<=140737488355328) (hbase:base<=w.heap.size)
  (h:∀ v' w',w'.ownsRowF base e 1 v' (n+s.size) (xs++Lib.strCells s)->w.grownBy w' v.ownBlock->zD w v v'->wpList P ops Q rest (a.put o.dst v') w'):wpList P ops Q (o::rest) a w:=by
 refine wpList_plain hgd fun K hK => ?_;obtain ⟨v',w',hr,h2,h3,h4⟩:=Lib.run_append_own_stringF (P:=P) w base t u o.type e i ht hu hi hz lj D8 v n xs hown s JT dM hbase;have h5:=mP (P:=P) w base t u o.type e i ht hu hi hz lj D8 v n xs hown s JT dM v' w' hr;unfold Oper.wp execOp;simp only [ho,resolve,invoke,builtin,Sem.run_bind,Sem.run_pure,Result.andThen_ok,List.map_toArray,List.map_cons,List.map_nil,hs,hx,hr];exact hK _ _ (h v' w' h2 h3 h5)
end
def BdS (b:Nat) (w:World) (k:Nat):Prop:=k=b\/∃ p v,w.heap[b]?=some (.cells #[p,v] 93 (0,0))/\v.ownBlock=some k
structure Wts (b:Nat) (w w':World):Prop where
 fr:Fr (BdS b w) w w'
 back:∀ k,k<w.heap.size->BdS b w' k->BdS b w k
theorem Wts.refl (b:Nat) (w:World):Wts b w w:=⟨Fr.refl _ _,fun _ _ h=>h⟩
theorem Wts.trans {b:Nat} {a c d:World} (h:Wts b a c) (k:Wts b c d):Wts b a d:=
 ⟨h.fr.andThen k.fr (fun j hj e=>h.back j hj e),fun j hj e=>h.back j hj (k.back j (Nat.lt_of_lt_of_le hj h.fr.size) e)⟩
theorem BdS.same {b k:Nat} {w w':World} (h:BdS b w' k) (he:w'.heap[b]?=w.heap[b]?):BdS b w k:=by
 rcases h with h|⟨p,v,h1,h2⟩
 ·exact Or.inl h
 ·exact Or.inr ⟨p,v,he.symm.trans h1,h2⟩
theorem Wts.over {b:Nat} {S:Nat->Prop} {a w w':World} (h:Wts b a w) (f:Fr S w w') (hb:b<w.heap.size) (hS:∀ k,S k->a.heap.size<=k/\k≠b):Wts b a w':=
 ⟨h.fr.andThen f (fun j hj e=>by have:=(hS j e).1;omega),fun k hk e=>h.back k hk (e.same (f.block b hb (fun s=>(hS b s).2 rfl)))⟩
theorem Wts.cT {b:Nat} {a w w':World} (h:Wts b a w) (f:Fr NoB w w') (hb:b<w.heap.size):Wts b a w':=h.over f hb (fun _ e=>e.elim)
theorem Wts.not {b k:Nat} {a w:World} (h:Wts b a w) (hk:k<a.heap.size) (hn:¬ BdS b a k):¬ BdS b w k:=fun e=>hn (h.back k hk e)
theorem Bd.UW {w:World} {B b k:Nat} {l:Bs} (h:Bd w B b l) (hk:BdS b w k):k<w.heap.size/\B<=k:=by
 have main:∀ p,Lib.BuilderAtF 93 5 B b p (Lib.byteCells l) w->k<w.heap.size/\B<=k:=by
  intro p h;have hlt:=h.lt;obtain ⟨hB,v,hb,hown,hne⟩:=h;rcases hk with rfl|⟨p2,v2,h1,h2⟩
  ·exact ⟨hlt,hB⟩
  ·rw [hb] at h1;simp at h1;obtain ⟨rfl,rfl⟩:=h1;rcases hown.2 with ⟨rfl,_⟩|⟨g,cap,cur,fz,rfl,hg,hh,_⟩
   ·simp [Value.ownBlock] at h2
   ·simp [Value.ownBlock] at h2;subst h2;exact ⟨lt_of_block hh,hg⟩
 rcases h with h|h
 ·exact main _ h
 ·exact main _ h
theorem Bd.far {w w':World} {B b k:Nat} {l:Bs} (h:Bd w B b l) (f:Fr NoB w w') (hk:w.heap.size<=k):¬ BdS b w' k:=fun e=>by
 have:=(h.UW (e.same (f.block b h.lt (fun e=>e)))).1;omega
theorem Bd.keep {w w':World} {S:Nat->Prop} {B b:Nat} {l:Bs} (h:Bd w B b l) (f:Fr S w w') (hs:∀ k,BdS b w k->¬ S k):Bd w' B b l:=by
 have main:∀ p,Lib.BuilderAtF 93 5 B b p (Lib.byteCells l) w->Lib.BuilderAtF 93 5 B b p (Lib.byteCells l) w':=by
  intro p h;have hlt:=h.lt;obtain ⟨hB,v,hb,hown,hne⟩:=h;refine ⟨hB,v,(f.block b hlt (hs b (Or.inl rfl))).trans hb,⟨hown.1,?_⟩,hne⟩;rcases hown.2 with h2|⟨g,cap,cur,fz,hv,hg,hh,r⟩
  ·exact Or.inl h2
  ·exact Or.inr ⟨g,cap,cur,fz,hv,hg,(f.block g (lt_of_block hh) (hs g (Or.inr ⟨p,v,hb,by rw [hv];rfl⟩))).trans hh,r⟩
 exact h.elim (fun x=>Or.inl (main _ x)) (fun x=>Or.inr (main _ x))
def Bv (w:World) (B b:Nat) (v:Value) (l:Bs):Prop:=
 B<=b/\Blk w b 93 #[.pointer (some ⟨b,0,none⟩),v]/\w.ownsRowF B 5 1 v (Lib.byteCells l).length (Lib.byteCells l)/\v.ownBlock≠some b
theorem lH (B b:Nat) (l:Bs) (w:World) (h:Bd w B b l) :
  Calls Tryz.prog 104 #[.pointer (some ⟨b,0,none⟩)] w fun e w'=>e=.returned (.tuple #[])/\∃ v,Bv w' B b v l/\Fr (Only b) w w'/\∃ p,w.heap[b]?=some (.cells #[p,v] 93 (0,0)):=by
 rcases h with h|h
 ·refine (Any.Builder_copyCheck_fresh (P:=Tryz.prog) (ρ:=Tryz.lays167_ren) { Tryz.lays167 with } Tryz.Builder_Extra_167.toX72 b w h.cell0 h.shape h.frozen0).mono ?_;rintro e w' ⟨rfl,rfl⟩;obtain ⟨hB,v,hb,hown,hne⟩:=h;have f:Fr (Only b) w (w.setCell ⟨b,0,none⟩ (.pointer (some ⟨b,0,none⟩))):=(Fr.refl (Only b) w).only (o:=0) _;refine ⟨rfl,v,⟨hB,(show Blk w b 93 _ from hb).aS 0 _,⟨hown.1,?_⟩,hne⟩,f,_,hb⟩;rcases hown.2 with h2|⟨g,cap,cur,fz,hv,hg,hh,r⟩
  ·exact Or.inl h2
  ·exact Or.inr ⟨g,cap,cur,fz,hv,hg,(f.block g (lt_of_block hh) (fun e=>hne (by rw [hv,show g=b from e];rfl))).trans hh,r⟩
 ·refine (Any.Builder_copyCheck_used (P:=Tryz.prog) (ρ:=Tryz.lays167_ren) { Tryz.lays167 with } Tryz.Builder_Extra_167.toX72 b w h.cell0).mono ?_;rintro e w' ⟨rfl,rfl⟩;obtain ⟨hB,v,hb,hown,hne⟩:=h;exact ⟨rfl,v,⟨hB,hb,hown,hne⟩,Fr.refl _ _,_,hb⟩
theorem Bv.ZR {B b:Nat} {v v':Value} {l l':Bs} {w w1 w2:World} (f1:Fr (Only b) w w1) {p:Value} (hp:w.heap[b]?=some (.cells #[p,v] 93 (0,0))) (h1:Bv w1 B b v l) {w3:World} (f3:Fr NoB w1 w3)
  (hg:w3.grownBy w2 v.ownBlock) (hn:zD w3 v v') (hown:w2.ownsRowF B 5 1 v' (Lib.byteCells l').length (Lib.byteCells l')) (aau:∀ cs,Blk w2 b 93 cs->v'.ownBlock≠some b) :
  Bd (w2.setCell ⟨b,1,none⟩ v') B b l'/\Wts b w (w2.setCell ⟨b,1,none⟩ v'):=by
 obtain ⟨hB,hb,ho,hne⟩:=h1;have ug:=f3.blk hb (fun e=>e);have iD:Blk w2 b 93 #[.pointer (some ⟨b,0,none⟩),v]:=(hg.block b ug.lt (fun e=>hne e.symm)).trans ug;have VF:=aau _ iD;have hbS:=iD.aS 1 v';have fS:Fr (Only b) w2 (w2.setCell ⟨b,1,none⟩ v'):=(Fr.refl (Only b) w2).only (o:=1) v';have f12:Fr (BdS b w) w w2:=((f1.mono (fun k _ e=>Or.inl e)).andThen f3 (fun _ _ e=>e.elim)).grown hg (fun j hj hlt=>Or.inr ⟨p,v,hp,hj⟩);refine ⟨Or.inr ⟨hB,v',hbS,⟨hown.1,?_⟩,VF⟩,f12.andThen fS (fun k _ e=>Or.inl e),?_⟩
 ·rcases hown.2 with h2|⟨g,cap,cur,fz,hv,hg,hh,r⟩
  ·exact Or.inl h2
  ·exact Or.inr ⟨g,cap,cur,fz,hv,hg,(fS.block g (lt_of_block hh) (fun e=>VF (by rw [hv,show g=b from e];rfl))).trans hh,r⟩
 ·intro k hk e;rcases e with e|⟨p2,v2,e1,e2⟩
  ·exact Or.inl e
  ·have e3:(w2.setCell ⟨b,1,none⟩ v').heap[b]?=some (.cells #[.pointer (some ⟨b,0,none⟩),v'] 93 (0,0)):=hbS;rw [e3] at e1;simp at e1;obtain ⟨rfl,rfl⟩:=e1;rcases hn with hn|hn
   ·exact Or.inr ⟨p,v,hp,by rw [<- hn];exact e2⟩
   ·have h4:=hn k e2;have h5:=f1.size;have h6:=f3.size;omega
theorem xi {w:World} {B b n:Nat} {v:Value} {xs:List Value} (hown:w.ownsRowF B 5 1 v n xs):∀ cs,Blk w b 93 cs->v.ownBlock≠some b:=by
 intro cs hb e;rcases hown.2 with ⟨rfl,_⟩|⟨g,cap,cur,fz,rfl,hg,hh,_⟩
 ·simp [Value.ownBlock] at e
 ·simp [Value.ownBlock] at e;subst e;unfold Blk at hb;rw [hh] at hb;simp at hb
theorem uO {w:World} {B n:Nat} {v:Value} {xs:List Value} (h:w.ownsRowF B 5 1 v n xs):∃ ao n' cap,v=.slice ao n' cap:=by
 rcases h.2 with ⟨hv,_⟩|⟨g,cap,cur,fz,hv,_⟩
 ·exact ⟨_,_,_,hv⟩
 ·exact ⟨_,_,_,hv⟩
theorem JU {w:World} {B n:Nat} {v:Value} {xs:List Value} (h:w.ownsRowF B 5 1 v (n+1) xs):∃ g cap,v=.slice (some ⟨g,0,none⟩) (n+1) cap:=by
 rcases h.2 with ⟨_,h0⟩|⟨g,cap,cur,fz,hv,_⟩
 ·omega
 ·exact ⟨g,cap,hv⟩
theorem cJ (B b:Nat) (l:Bs) (c:UInt8) (w:World) (h:Bd w B b l) (hl:l.length+1<=140737488355328) (hB:B<=w.heap.size) :
  Calls Tryz.prog 102 #[.pointer (some ⟨b,0,none⟩),.int .u8 (c.toNat:Int)] w fun e w'=>e=.returned .nilIface/\Bd w' B b (l++[c])/\Wts b w w':=by
 obtain ⟨i0,hi,hz0,hz1,hz2⟩:=info_parts (P:=Tryz.prog) (e:=5) (Tryz.Builder_Extra_167.infoByte);have HC:=hd' (lH B b l w h);clear h;go_enter Tryz.func102,Tryz.ntmps102;go_wp2_with (first|(go_at_call 104;((with_reducible refine HC.out.mono ?_);rintro e w1 ⟨rfl,v,h1,f1,p,hp⟩;have H1:=hd' h1;have c0:w1.cell? ⟨b,0,none⟩=some (.pointer (some ⟨b,0,none⟩)):=(h1.2.1.cell 0).trans rfl;have c1:w1.cell? ⟨b,1,none⟩=some v:=(h1.2.1.cell 1).trans rfl;clear h1))|(at_builtin;go_loud (refine jh rfl _ _ 81 rfl B 5 i0 (.int .u8 0) 1 1 Tryz.underlying81 hi hz0 hz1 hz2 rfl (by decide) _ _ _ rfl (H1.out.2.2.1.alloc _) ⟨w1.heap.size,0,none⟩ 1 1 [.int .u8 (c.toNat:Int)] rfl rfl (by intro j u hj;match j,hj with|0,hj=>simp at hj;subst hj;simp [Addr.add]) (by intro u hu;rw [List.mem_singleton] at hu;subst hu;rfl) (by rw [Lib.byteCells_length];unfold maxLen;omega) (by rw [Lib.byteCells_length];omega) (by have:=f1.size;simp;omega) ?_;intro v' w2 lI mX rH;have gh:w2.ownsRowF B 5 1 v' (Lib.byteCells (l++[c])).length (Lib.byteCells (l++[c])):=(by have h9:=lI;rw [Lib.byteCells_append,List.length_append];exact h9);obtain ⟨g,cap,rfl⟩:∃ g cap,v'=.slice (some ⟨g,0,none⟩) ((Lib.byteCells l).length+1) cap:=JU lI;have iD:Blk w2 b 93 #[.pointer (some ⟨b,0,none⟩),v]:=(mX.block b (Nat.lt_of_lt_of_le H1.out.2.1.lt ((Fr.refl NoB w1).alloc _).size) (fun e=>H1.out.2.2.2 e.symm)).trans (H1.out.2.1.alloc _);have d0:w2.cell? ⟨b,0,none⟩=some (.pointer (some ⟨b,0,none⟩)):=(iD.cell 0).trans rfl;have d1:w2.cell? ⟨b,1,none⟩=some v:=(iD.cell 1).trans rfl;have z1:w2.frozen? ⟨b,1,none⟩=false:=iD.frozen 1)));have iq:=Bv.ZR f1 hp H1.out ((Fr.refl NoB w1).alloc (.cells #[.int .u8 (c.toNat:Int)] 5)) mX rH gh (xi gh);go_ret;exact ⟨rfl,iq⟩
theorem jR (B b:Nat) (l t:Bs) (w:World) (h:Bd w B b l) (hl:l.length+t.length<=140737488355328) (hB:B<=w.heap.size) :
  Calls Tryz.prog 62 #[.pointer (some ⟨b,0,none⟩),.string ⟨t.toArray⟩] w fun e w'=>e=.returned (.tuple #[.int .i64 t.length,.nilIface])/\Bd w' B b (l++t)/\Wts b w w':=by
 obtain ⟨i0,hi,hz0,hz1,hz2⟩:=info_parts (P:=Tryz.prog) (e:=5) (Tryz.Builder_Extra_167.infoByte);have HC:=hd' (lH B b l w h);have hsz:(⟨t.toArray⟩:ByteArray).size=t.length:=by show t.toArray.size=_;simp
 clear h;go_enter Tryz.func62,Tryz.ntmps62;go_wp2_with (first|(go_at_call 104;((with_reducible refine HC.out.mono ?_);rintro e w1 ⟨rfl,v,h1,f1,p,hp⟩;have H1:=hd' h1;have c0:w1.cell? ⟨b,0,none⟩=some (.pointer (some ⟨b,0,none⟩)):=(h1.2.1.cell 0).trans rfl;have c1:w1.cell? ⟨b,1,none⟩=some v:=(h1.2.1.cell 1).trans rfl;clear h1))|(at_builtin;go_loud (refine jx rfl _ _ 81 9 rfl B 5 i0 Tryz.underlying81 Tryz.underlying9 hi hz0 hz1 hz2 _ _ _ rfl H1.out.2.2.1 ⟨t.toArray⟩ rfl (by simp only [hsz,Lib.byteCells_length,maxLen];omega) (by simp only [hsz,Lib.byteCells_length];omega) (by have:=f1.size;omega) ?_;intro v' w2 lI mX rH;have gh:w2.ownsRowF B 5 1 v' (Lib.byteCells (l++t)).length (Lib.byteCells (l++t)):=(by have h9:=lI;rw [hsz] at h9;rw [Lib.byteCells_append,List.length_append,Lib.byteCells_length t];exact h9);obtain ⟨ao,n',cap,rfl⟩:∃ ao n' cap,v'=.slice ao n' cap:=uO lI;have iD:Blk w2 b 93 #[.pointer (some ⟨b,0,none⟩),v]:=(mX.block b H1.out.2.1.lt (fun e=>H1.out.2.2.2 e.symm)).trans H1.out.2.1;have d0:w2.cell? ⟨b,0,none⟩=some (.pointer (some ⟨b,0,none⟩)):=(iD.cell 0).trans rfl;have d1:w2.cell? ⟨b,1,none⟩=some v:=(iD.cell 1).trans rfl;have z1:w2.frozen? ⟨b,1,none⟩=false:=iD.frozen 1)));have iq:=Bv.ZR f1 hp H1.out (Fr.refl NoB w1) mX rH gh (xi gh);go_ret2;exact ⟨by first|rfl|rw [hsz],iq⟩
end Go.Proofs.YtbifjamddbpcjaaGreatDoor
