/- text.Base64, the program's. -/
import Derived.Test.YtbifjamddbpcjaaGreatDoorLib
import Derived.Test.YtbifjamddbpcjaaGreatDoorEa
import Derived.Test.YtbifjamddbpcjaaGreatDoorRs
namespace Go.Proofs.YtbifjamddbpcjaaGreatDoor
set_option maxRecDepth 100000
set_option maxHeartbeats 25600000
open Go.RowKit
theorem write_row (B b:Nat) (l t:Bs) (g c:Nat) (w:World) (h:Bd w B b l) (hgb:g≠b) (hm:∀ (i:Nat) u,(bC t)[i]?=some u→w.cell? ⟨g,i,none⟩=some u) (hl:l.length+t.length≤140737488355328) (hB:B≤w.heap.size) :
  Calls Tryz.prog 63 #[.pointer (some ⟨b,0,none⟩),.slice (some ⟨g,0,none⟩) t.length c] w fun e w'=>e=.returned (.tuple #[.int .i64 t.length,.nilIface])∧Bd w' B b (l++t)∧Fr (From B) w w':=by
 obtain ⟨i0,hi,hz0,hz1,hz2⟩:=info_parts (P:=Tryz.prog) (e:=5) (Tryz.Builder_Extra_167.infoByte)
 have HC:=Lib.hid (copyCheck_x B b l w h)
 have HH:=Lib.hid h
 have HM:=Lib.hid hm
 have hbc:Lib.byteCells t=bC t:=rfl
 clear h hm
 go_enter Tryz.func63,Tryz.ntmps63
 go_wp2_with (first|(go_at_call 104;((with_reducible refine HC.out.mono ?_);rintro e w1 ⟨rfl,v,h1,f1,p,hp⟩;have H1:=Lib.hid h1;have c0:w1.cell? ⟨b,0,none⟩=some (.pointer (some ⟨b,0,none⟩)):=(h1.2.1.cell 0).trans rfl;have c1:w1.cell? ⟨b,1,none⟩=some v:=(h1.2.1.cell 1).trans rfl;clear h1))|(at_builtin;go_loud (refine wpList_append_ownX rfl _ _ 81 rfl B 5 i0 (.int .u8 0) 1 1 Tryz.underlying81 hi hz0 hz1 hz2 rfl (by decide) _ _ _ rfl H1.out.2.2.1 ⟨g,0,none⟩ t.length c (bC t) rfl (by simp) (by intro j u hj;rw [add_at,Nat.zero_add];exact (f1.cell (p:=⟨g,j,none⟩) (World.block_lt_of_cell? w ⟨g,j,none⟩ (HM.out j u hj)) (fun e=>hgb e)).trans (HM.out j u hj)) (bC_one t) (by rw [Lib.byteCells_length];unfold maxLen;omega) (by rw [Lib.byteCells_length];omega) (by have:=f1.size;omega) ?_;intro v' w2 hown' hgrow hnew;have hown2:w2.ownsRowF B 5 1 v' (Lib.byteCells (l++t)).length (Lib.byteCells (l++t)):=(by have h9:=hown';rw [Lib.byteCells_append,List.length_append,Lib.byteCells_length t];exact h9);obtain ⟨ao,n',cap,rfl⟩:∃ ao n' cap,v'=.slice ao n' cap:=own_slice hown';have hb2:Blk w2 b 93 #[.pointer (some ⟨b,0,none⟩),v]:=(hgrow.block b H1.out.2.1.lt (fun e=>H1.out.2.2.2 e.symm)).trans H1.out.2.1;have d0:w2.cell? ⟨b,0,none⟩=some (.pointer (some ⟨b,0,none⟩)):=(hb2.cell 0).trans rfl;have d1:w2.cell? ⟨b,1,none⟩=some v:=(hb2.cell 1).trans rfl;have z1:w2.frozen? ⟨b,1,none⟩=false:=hb2.frozen 1)))
 have hfin:=Bv.wts f1 hp H1.out (Fr.refl NoB w1) hgrow hnew hown2 (row_not hown2)
 go_ret2
 exact ⟨rfl,hfin.1,hfin.2.fr.mono (fun k _ hk=>(HH.out.bdS hk).2)⟩
theorem step_br_row {ops:Array Oper} {o:Oper} {a:Act} {K:Act→World→Prop} {Q:Exit→Act→World→Prop} {E:Prop} {w:World} (hgd:o.guard=none) (sl x:Operand)
  (ho:o.op=.call { callee:=.builtin .append,args := #[sl,x],argTypes := #[81,81] }) (lo:Nat) (v:Value) (s:Bs) (hs:a.eval sl=v) (hown:BR lo w v s) (g m c:Nat) (t:Bs) (hx:a.eval x=.slice (some ⟨g,0,none⟩) m c) (hm:t.length=m)
  (hc:∀ (i:Nat) u,(bC t)[i]?=some u→w.cell? ⟨g,i,none⟩=some u)
  (hsz:s.length+t.length≤140737488355328) (hlo:lo≤w.heap.size) (h:∀ v' w',BR lo w' v' (s++t)→w.grownBy w' v.ownBlock→K (a.put o.dst v') w') :
  if Region.wanted o (yielded ops a.tmps)=true then Oper.wp Tryz.prog o a w K Q else E:=by
 have hw:Region.wanted o (yielded ops a.tmps)=true:=by simp [Region.wanted,hgd]
 rw [if_pos hw]
 obtain ⟨i0,hi0,hz0,hz1,hz2⟩:=info_parts info_byteD
 subst hm
 refine wp_append_own w sl x 81 ho lo 5 i0 (.int .u8 0) 1 1 Tryz.underlying81 hi0 hz0 hz1 hz2 rfl (by decide) v s.length (bC s) hs hown ⟨g,0,none⟩ t.length c (bC t) hx (by simp) (fun j u hu=>by rw [add_at,Nat.zero_add];exact hc j u hu) (bC_one t) (by unfold maxLen;omega) (by omega) hlo (fun v' w' h1 h2 _=>h v' w' ?_ h2)
 unfold BR
 simpa using h1
theorem or_top (a b:UInt8):bits .or .i64 ((b.toNat:Int)*256) ((a.toNat:Int)*65536)=((a.toNat*65536+b.toNat*256:Nat):Int):=by
 have ha:=a.toNat_lt
 have hb:=b.toNat_lt
 have e1:=or_i64 (b.toNat*256) (a.toNat*65536) (by omega) (by omega)
 have e2:=or_sum a.toNat (b.toNat*256) 16 (by omega)
 rw [Nat.or_comm] at e1
 simp only [Nat.reducePow] at e2
 rw [e2] at e1
 simpa using e1
theorem or_top0 (a:UInt8):bits .or .i64 0 ((a.toNat:Int)*65536)=((a.toNat*65536:Nat):Int):=by
 have ha:=a.toNat_lt
 have e1:=or_i64 0 (a.toNat*65536) (by omega) (by omega)
 rw [Nat.zero_or] at e1
 simpa using e1
def szOf:Value→Nat | .string b=>b.size|_=>0
theorem L64_get (i:Nat) (h:i<64):((⟨#[65,66,67,68,69,70,71,72,73,74,75,76,77,78,79,80,81,82,83,84,85,86,87,88,89,90,97,98,99,100,101,102,103,104,105,106,107,108,109,110,111,112,113,114,115,116,117,118,119,120,121,122,48,49,50,51,52,53,54,55,56,57,45,95]⟩:ByteArray)[i]'h)=b64C i:=by
 have:∀ i:Fin 64,((⟨#[65,66,67,68,69,70,71,72,73,74,75,76,77,78,79,80,81,82,83,84,85,86,87,88,89,90,97,98,99,100,101,102,103,104,105,106,107,108,109,110,111,112,113,114,115,116,117,118,119,120,121,122,48,49,50,51,52,53,54,55,56,57,45,95]⟩:ByteArray)[i.val]'i.isLt)=b64C i.val:=by decide +kernel
 exact this ⟨i,h⟩
theorem base64_any (s:Bs) (w:World) (hl:s.length≤17592186044416) :
  Calls Tryz.prog 30 #[.string ⟨s.toArray⟩] w fun e w'=>e=.returned (.string ⟨(b64P s).toArray⟩)∧Fr NoB w w':=by
 obtain ⟨res,hres⟩:∃ r,r=b64P s:=⟨_,rfl⟩
 rw [← hres]
 have hlen:=b64_len s
 rw [← hres] at hlen
 have HRS:=Lib.hid hres
 clear hres
 have bd0:=Bd.new w
 have f0:Fr (From w.heap.size) w (w.alloc (.cells #[.pointer none,.slice none 0 0] 93)):=(Fr.refl _ _).alloc _
 go_enter Tryz.func30,Tryz.ntmps30
 go_upto_region 2 with fail
 generalize w.alloc (.cells #[.pointer none,.slice none 0 0] 93)=W at *
 go_loopw [0] (fun v wr=>∃ acc r:Bs,v=.string ⟨r.toArray⟩∧Bd wr w.heap.size w.heap.size acc∧Fr (From w.heap.size) w wr∧acc++b64P r=res∧r.length≤s.length) (fun v _=>szOf v)
 case atStart=>exact ⟨[],s,rfl,bd0,f0,HRS.out.symm,Nat.le_refl _⟩
 case round=>
  clear bd0 f0 HRS
  obtain ⟨acc,r,rfl,hb,hf,hacc,hrl⟩:=hrel
  have hsz:(⟨r.toArray⟩:ByteArray).size=r.length:=rfl
  by_cases h3:3≤r.length
  ·have k1:(3:Int)≤r.length:=by omega
   have g0:=get_list r 0 (by omega)
   have g1:=get_list r 1 (by omega)
   have g2:=get_list r 2 (by omega)
   have hal:acc.length≤res.length:=by rw [← hacc];simp
   have HA:=Lib.hid hacc
   clear hacc
   obtain ⟨x0,hx0⟩:∃ x,x=r[0]:=⟨_,rfl⟩
   obtain ⟨x1,hx1⟩:∃ x,x=r[1]:=⟨_,rfl⟩
   obtain ⟨x2,hx2⟩:∃ x,x=r[2]:=⟨_,rfl⟩
   rw [← hx0] at g0
   rw [← hx1] at g1
   rw [← hx2] at g2
   have hdr:r=x0::x1::x2::r.drop 3:=by
    rcases r with _|⟨a,_|⟨b,_|⟨c,r'⟩⟩⟩
    ·simp at h3
    ·simp at h3
    ·simp at h3
    ·simp at hx0 hx1 hx2;subst hx0 hx1 hx2;rfl
   have HB:Hid (b64P r=[b64C (x0.toNat / 4),b64C ((x0.toNat*16+x1.toNat / 16) % 64),b64C ((x1.toNat*4+x2.toNat / 64) % 64),b64C (x2.toNat % 64)]++b64P (r.drop 3)):=Lib.hid (by rw [hdr,b64P];rfl)
   clear hx0 hx1 hx2 hdr
   have l0:=x0.toNat_lt
   have l1:=x1.toNat_lt
   have l2:=x2.toNat_lt
   have o1:=or_three x0 x1 x2
   have wa:IntKind.i64.wrap ((x0.toNat:Int)*65536)=(x0.toNat:Int)*65536:=IntWalk.i64_in _ (by omega)
   have wb:IntKind.i64.wrap ((x1.toNat:Int)*256)=(x1.toNat:Int)*256:=IntWalk.i64_in _ (by omega)
   have j0:(0:Int)<r.length:=by omega
   have j1:(1:Int)<r.length:=by omega
   have j2:(2:Int)<r.length:=by omega
   go_wp2_with fail
   go_quiet (fail)
   obtain ⟨n,hn⟩:∃ n:Nat,n=x0.toNat*65536+x1.toNat*256+x2.toNat:=⟨_,rfl⟩
   have hni:(x0.toNat:Int)*65536+(x1.toNat:Int)*256+(x2.toNat:Int)=(n:Int):=by omega
   rw [hni]
   obtain ⟨a1,ha1⟩:∃ x,x=n / 262144:=⟨_,rfl⟩
   obtain ⟨m2,hm2⟩:∃ x,x=n / 4096:=⟨_,rfl⟩
   obtain ⟨m3,hm3⟩:∃ x,x=n / 64:=⟨_,rfl⟩
   obtain ⟨a2,ha2⟩:∃ x,x=m2 % 64:=⟨_,rfl⟩
   obtain ⟨a3,ha3⟩:∃ x,x=m3 % 64:=⟨_,rfl⟩
   obtain ⟨a4,ha4⟩:∃ x,x=n % 64:=⟨_,rfl⟩
   have d1:(n:Int) / 262144=(a1:Int):=by omega
   have d2:(n:Int) / 4096=(m2:Int):=by omega
   have d3:(n:Int) / 64=(m3:Int):=by omega
   have e2:=and63 m2 (by omega)
   have e3:=and63 m3 (by omega)
   have e4:=and63 n (by omega)
   rw [← ha2] at e2
   rw [← ha3] at e3
   rw [← ha4] at e4
   have w1:a1<64:=by omega
   have w2:a2<64:=by omega
   have w3:a3<64:=by omega
   have w4:a4<64:=by omega
   have q1:x0.toNat / 4=a1:=by omega
   have q2:(x0.toNat*16+x1.toNat / 16) % 64=a2:=by omega
   have q3:(x1.toNat*4+x2.toNat / 64) % 64=a3:=by omega
   have q4:x2.toNat % 64=a4:=by omega
   have HB2:Hid (b64P r=[b64C a1,b64C a2,b64C a3,b64C a4]++b64P (r.drop 3)):=Lib.hid (by rw [← q1,← q2,← q3,← q4];exact HB.out)
   have t1:=L64_get a1 w1
   have t2:=L64_get a2 w2
   have t3:=L64_get a3 w3
   have t4:=L64_get a4 w4
   have z1:(0:Int)≤a1:=by omega
   have z2:(0:Int)≤a2:=by omega
   have z3:(0:Int)≤a3:=by omega
   have z4:(0:Int)≤a4:=by omega
   have y1:(a1:Int)<64:=by omega
   have y2:(a2:Int)<64:=by omega
   have y3:(a3:Int)<64:=by omega
   have y4:(a4:Int)<64:=by omega
   clear hn hni ha1 hm2 hm3 ha2 ha3 ha4 q1 q2 q3 q4 HB o1 wa wb g0 g1 g2 l0 l1 l2
   generalize b64C a1=c1 at *
   generalize b64C a2=c2 at *
   generalize b64C a3=c3 at *
   generalize b64C a4=c4 at *
   have hb1:=hb.fr ((Fr.refl NoB wr).drewN nq) (fun _ _ e=>e)
   have hf1:=hf.drewN nq
   clear hb hf
   generalize wr.drewN nq=w5 at *
   go_wp2_with fail
   go_still_tail 14,(by kernel_rfl)
   obtain ⟨C,hC⟩:∃ C,C=(w5.alloc (.cells #[.int .u8 (c1.toNat:Int),.int .u8 (c2.toNat:Int),.int .u8 (c3.toNat:Int),.int .u8 (c4.toNat:Int)] 5)).drew:=⟨_,rfl⟩
   have fC:Fr NoB w5 C:=by rw [hC];exact ((Fr.refl NoB w5).alloc _).drew
   have hb2:=hb1.fr fC (fun _ _ e=>e)
   have hf2:=hf1.trans fC.noB
   have hcv:(convert 81 9 (.slice (some ⟨w5.heap.size,0,none⟩) 4 4)).run Tryz.prog C=.ok (.string ⟨#[c1,c2,c3,c4]⟩) C:=by
    refine run_convert_bytes_back (P:=Tryz.prog) C 81 9 5 ⟨w5.heap.size,0,none⟩ 4 [c1,c2,c3,c4] Tryz.underlying81 Tryz.underlying5 Tryz.underlying9 (fun j hj => ?_)
    rw [add_at,Nat.zero_add,hC]
    exact new_cells w5 #[.int .u8 (c1.toNat:Int),.int .u8 (c2.toNat:Int),.int .u8 (c3.toNat:Int),.int .u8 (c4.toNat:Int)] [c1,c2,c3,c4] rfl j _ (by unfold bC;rw [List.getElem?_map,List.getElem?_eq_getElem hj];rfl)
   rw [hC] at hcv
   have HC:=Lib.hid hC
   clear hC
   go_wp2_with (go_at_call 62;(rw [← HC.out];(with_reducible refine (writeString_any w.heap.size w.heap.size acc [c1,c2,c3,c4] C hb2 (by simp;omega) hf2.size).mono ?_);rintro e w7 ⟨rfl,b7,o7,_⟩))
   go_roundw
   case rel=>exact ⟨acc++[c1,c2,c3,c4],r.drop 3,by rw [ext_drop],b7,hf2.trans o7,by rw [List.append_assoc,← HB2.out];exact HA.out,by simp;omega⟩
   case measure=>simp [szOf,hsz];omega
  ·have k3:¬ (3:Int)≤r.length:=by omega
   have hal:acc.length≤res.length:=by rw [← hacc];simp
   rcases r with _|⟨x0,_|⟨x1,_|⟨x2,r'⟩⟩⟩
   ·simp only [b64P,List.append_nil] at hacc
    subst hacc
    have hlt:=hb.lt
    have f1:Fr NoB wr (wr.alloc (.cells #[] 5)):=(Fr.refl _ _).alloc _
    have hb1:=hb.fr f1 (fun _ _ e=>e)
    have hW:Hid (Calls Tryz.prog 63 #[.pointer (some ⟨w.heap.size,0,none⟩),.slice (some ⟨wr.heap.size,0,none⟩) 0 0] (wr.alloc (.cells #[] 5)) fun e w'=>e=.returned (.tuple #[.int .i64 0,.nilIface])∧Bd w' w.heap.size w.heap.size acc∧Fr (From w.heap.size) (wr.alloc (.cells #[] 5)) w'):=Lib.hid (by
     have:=write_row w.heap.size w.heap.size acc [] wr.heap.size 0 _ hb1 (by omega) (by simp [bC]) (by simp;omega) (Nat.le_trans (Nat.le_of_lt hlt) f1.size)
     rwa [List.append_nil] at this)
    have hf1:=hf.alloc (.cells #[] 5)
    go_wp2_with (first|(go_at_call 63;((with_reducible refine hW.out.mono ?_);rintro e w2 ⟨rfl,b2,o2⟩;have F2:=hf1.trans o2))|(go_at_call 61;((with_reducible refine (bstring_any w.heap.size w.heap.size _ _ b2 F2.size).mono ?_);rintro e w3 ⟨rfl,b3,o3,_⟩)))
    go_ret
    exact ⟨rfl,(F2.trans o3).mono (fun k hk e=>absurd (show w.heap.size≤k from e) (by omega))⟩
   ·have l0:=x0.toNat_lt
    have g0:=get_list [x0] 0 (by simp)
    obtain ⟨n,hn⟩:∃ n:Nat,n=x0.toNat*65536:=⟨_,rfl⟩
    have hni:(x0.toNat:Int)*65536=(n:Int):=by omega
    have o1:bits .or .i64 0 (n:Int)=(n:Int):=by rw [← hni,or_top0];omega
    obtain ⟨a1,ha1⟩:∃ x,x=n / 262144:=⟨_,rfl⟩
    obtain ⟨m2,hm2⟩:∃ x,x=n / 4096:=⟨_,rfl⟩
    obtain ⟨a2,ha2⟩:∃ x,x=m2 % 64:=⟨_,rfl⟩
    have d1:(n:Int) / 262144=(a1:Int):=by omega
    have d2:(n:Int) / 4096=(m2:Int):=by omega
    have e2:=and63 m2 (by omega)
    rw [← ha2] at e2
    have w1:a1<64:=by omega
    have w2:a2<64:=by omega
    have q1:x0.toNat / 4=a1:=by omega
    have q2:x0.toNat*16 % 64=a2:=by omega
    have hacc2:acc++([b64C a1,b64C a2]++[])=res:=by rw [← q1,← q2,List.append_nil];exact hacc
    have t1:=L64_get a1 w1
    have t2:=L64_get a2 w2
    have z1:(0:Int)≤a1:=by omega
    have z2:(0:Int)≤a2:=by omega
    have y1:(a1:Int)<64:=by omega
    have y2:(a2:Int)<64:=by omega
    clear hn ha1 hm2 ha2 q1 q2 l0 hacc
    generalize b64C a1=c1 at *
    generalize b64C a2=c2 at *
    go_upto_region 14 with fail
    have f1:Fr NoB wr (wr.alloc (.cells #[] 5)):=(Fr.refl _ _).alloc _
    have br0:BR wr.heap.size (wr.alloc (.cells #[] 5)) (.slice (some ⟨wr.heap.size,0,none⟩) 0 0) []:=BR.first wr #[] [] rfl (by simp)
    have hb1:=hb.fr f1 (fun _ _ e=>e)
    have hf1:=hf.trans f1.noB
    clear hb hf f1 g0
    generalize wr.alloc (.cells #[] 5)=w1' at *
    go_region_law (first|(refine step_br_row (by rfl) _ _ (by rfl) w1'.heap.size (.slice (some ⟨w1'.heap.size,0,none⟩) 2 2) [c1,c2] (by rfl) (BR.first w1' #[.int .u8 (c1.toNat:Int),.int .u8 (c2.toNat:Int)] [c1,c2] rfl (by unfold maxLen;simp)) wr.heap.size 0 0 [] (by rfl) rfl (by simp [bC]) (by simp) (by simp) ?_;intro v' w2 hv hg))
    all_goals
     have F2:Fr NoB w1' w2:=by first|exact ((Fr.refl NoB w1').alloc _).grown hg (fun j hj hlt=>by simp [Value.ownBlock] at hj;omega)|exact ((Fr.refl NoB w1').drew.alloc _).grown hg (fun j hj hlt=>by simp [Value.ownBlock] at hj;omega)
     have hb2:=hb1.fr F2 (fun _ _ e=>e)
     have hf2:=hf1.trans F2.noB
     have hlt:=hb1.lt
     obtain ⟨T,hT⟩:∃ T:Bs,T=[c1,c2]++[]:=⟨_,rfl⟩
     rw [← hT] at hv hacc2
     obtain ⟨g,c,rfl,hlo,hgl,hcell⟩:=hv.sl (by rw [hT];simp)
     have hTl:T.length≤3:=by rw [hT];simp
     have hW:=Lib.hid (write_row w.heap.size w.heap.size acc T g c w2 hb2 (by omega) hcell (by omega) (Nat.le_trans (Nat.le_of_lt hlt) F2.size))
     rw [hacc2] at hW
     clear hv hg hb1 hf1 hcell hb2 hT
     go_wp2_with (first|(go_at_call 63;((with_reducible refine hW.out.mono ?_);rintro e w3 ⟨rfl,b3,o3⟩;have F3:=hf2.trans o3))|(go_at_call 61;((with_reducible refine (bstring_any w.heap.size w.heap.size _ _ b3 F3.size).mono ?_);rintro e w4 ⟨rfl,b4,o4,_⟩)))
     go_ret
     exact ⟨rfl,(F3.trans o4).mono (fun k hk e=>absurd (show w.heap.size≤k from e) (by omega))⟩
   ·have l0:=x0.toNat_lt
    have l1:=x1.toNat_lt
    have g0:=get_list [x0,x1] 0 (by simp)
    have g1:=get_list [x0,x1] 1 (by simp)
    obtain ⟨n,hn⟩:∃ n:Nat,n=x0.toNat*65536+x1.toNat*256:=⟨_,rfl⟩
    obtain ⟨p,hp⟩:∃ p:Nat,p=x1.toNat*256:=⟨_,rfl⟩
    obtain ⟨m0,hm0⟩:∃ m0:Nat,m0=x0.toNat*65536:=⟨_,rfl⟩
    have hni:(x0.toNat:Int)*65536=(m0:Int):=by omega
    have hnp:(x1.toNat:Int)*256=(p:Int):=by omega
    have o1:bits .or .i64 (p:Int) (m0:Int)=(n:Int):=by rw [← hni,← hnp,or_top];omega
    obtain ⟨m3,hm3⟩:∃ x,x=p / 64:=⟨_,rfl⟩
    obtain ⟨a3,ha3⟩:∃ x,x=m3 % 64:=⟨_,rfl⟩
    have d3:(p:Int) / 64=(m3:Int):=by omega
    have e3:=and63 m3 (by omega)
    rw [← ha3] at e3
    have w3:a3<64:=by omega
    have q3:x1.toNat*4 % 64=a3:=by omega
    obtain ⟨a1,ha1⟩:∃ x,x=n / 262144:=⟨_,rfl⟩
    obtain ⟨m2,hm2⟩:∃ x,x=n / 4096:=⟨_,rfl⟩
    obtain ⟨a2,ha2⟩:∃ x,x=m2 % 64:=⟨_,rfl⟩
    have d1:(n:Int) / 262144=(a1:Int):=by omega
    have d2:(n:Int) / 4096=(m2:Int):=by omega
    have e2:=and63 m2 (by omega)
    rw [← ha2] at e2
    have w1:a1<64:=by omega
    have w2:a2<64:=by omega
    have q1:x0.toNat / 4=a1:=by omega
    have q2:(x0.toNat*16+x1.toNat / 16) % 64=a2:=by omega
    have hacc2:acc++([b64C a1,b64C a2]++[b64C a3])=res:=by rw [← q1,← q2,← q3];exact hacc
    have t1:=L64_get a1 w1
    have t2:=L64_get a2 w2
    have z1:(0:Int)≤a1:=by omega
    have z2:(0:Int)≤a2:=by omega
    have y1:(a1:Int)<64:=by omega
    have y2:(a2:Int)<64:=by omega
    have t3:=L64_get a3 w3
    have z3:(0:Int)≤a3:=by omega
    have y3:(a3:Int)<64:=by omega
    clear hn hp hm0 hm3 ha3 ha1 hm2 ha2 q1 q2 q3 hacc
    generalize b64C a1=c1 at *
    generalize b64C a2=c2 at *
    generalize b64C a3=c3 at *
    have f1:Fr NoB wr (wr.alloc (.cells #[] 5)):=(Fr.refl _ _).alloc _
    have br0:BR wr.heap.size (wr.alloc (.cells #[] 5)) (.slice (some ⟨wr.heap.size,0,none⟩) 0 0) []:=BR.first wr #[] [] rfl (by simp)
    have brA:=br0.fr ((Fr.refl NoB _).alloc (.cells #[.int .u8 (c3.toNat:Int)] 5))
    have hb1:=hb.fr f1 (fun _ _ e=>e)
    have hf1:=hf.trans f1.noB
    go_upto_region 14 with (at_builtin;go_loud (refine br_row rfl _ _ rfl wr.heap.size (.slice (some ⟨wr.heap.size,0,none⟩) 0 0) [] rfl brA (wr.heap.size+1) 1 1 [c3] rfl rfl (by simp) (by simp) (by simp;omega) ?_;intro v5 w5 h5 hg5))
    have F5:Fr NoB wr w5:=(f1.alloc _).grown hg5 (fun j hj hlt=>by simp [Value.ownBlock] at hj;omega)
    have hb5:=hb.fr F5 (fun _ _ e=>e)
    have hf5:=hf.trans F5.noB
    obtain ⟨g5,c5,rfl,hlo5,hgl5,hcell5⟩:=h5.sl (by simp)
    clear hb1 hf1 brA br0 f1 h5 hg5 F5
    go_region_law (first|(refine step_br_row (by rfl) _ _ (by rfl) w5.heap.size (.slice (some ⟨w5.heap.size,0,none⟩) 2 2) [c1,c2] (by rfl) (BR.first w5 #[.int .u8 (c1.toNat:Int),.int .u8 (c2.toNat:Int)] [c1,c2] rfl (by unfold maxLen;simp)) g5 1 c5 [c3] (by rfl) rfl (fun i u hu=>(((Fr.refl NoB w5).alloc _).cell (p:=⟨g5,i,none⟩) hgl5 (fun e=>e)).trans (hcell5 i u hu)) (by simp) (by simp) ?_;intro v' w2 hv hg))
    all_goals
     have F2:Fr NoB w5 w2:=by first|exact ((Fr.refl NoB w5).alloc _).grown hg (fun j hj hlt=>by simp [Value.ownBlock] at hj;omega)|exact ((Fr.refl NoB w5).drew.alloc _).grown hg (fun j hj hlt=>by simp [Value.ownBlock] at hj;omega)
     have hb2:=hb5.fr F2 (fun _ _ e=>e)
     have hf2:=hf5.trans F2.noB
     have hlt:=hb5.lt
     obtain ⟨T,hT⟩:∃ T:Bs,T=[c1,c2]++[c3]:=⟨_,rfl⟩
     rw [← hT] at hv hacc2
     obtain ⟨g,c,rfl,hlo,hgl,hcell⟩:=hv.sl (by rw [hT];simp)
     have hTl:T.length≤3:=by rw [hT];simp
     have hW:=Lib.hid (write_row w.heap.size w.heap.size acc T g c w2 hb2 (by omega) hcell (by omega) (Nat.le_trans (Nat.le_of_lt hlt) F2.size))
     rw [hacc2] at hW
     clear hv hg hb5 hf5 hcell hb2 hT
     go_wp2_with (first|(go_at_call 63;((with_reducible refine hW.out.mono ?_);rintro e w3 ⟨rfl,b3,o3⟩;have F3:=hf2.trans o3))|(go_at_call 61;((with_reducible refine (bstring_any w.heap.size w.heap.size _ _ b3 F3.size).mono ?_);rintro e w4 ⟨rfl,b4,o4,_⟩)))
     go_ret
     exact ⟨rfl,(F3.trans o4).mono (fun k hk e=>absurd (show w.heap.size≤k from e) (by omega))⟩
   ·simp at h3
end Go.Proofs.YtbifjamddbpcjaaGreatDoor
