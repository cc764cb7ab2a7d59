/- JSON: quoted: a text's form. -/
import Derived.Test.YtbifjamddbpcjaaGreatDoorLib
import Derived.Lib.ConvBytes
namespace Go.Proofs.YtbifjamddbpcjaaGreatDoor
set_option maxRecDepth 100000
set_option maxHeartbeats 25600000
open Go.RowKit
theorem q_cases (c:UInt8):(c=34∨c=92∨c=8∨c=9∨c=10∨c=12∨c=13∨c=0∨c=1∨c=2∨c=3∨c=4∨c=5∨c=6∨c=7∨c=11∨c=14∨c=15∨c=16∨c=17∨c=18∨c=19∨c=20∨c=21∨c=22∨c=23∨c=24∨c=25∨c=26∨c=27∨c=28∨c=29∨c=30∨c=31)∨(32≤c.toNat∧Lib.indexByte [34,92,8,9,10,12,13] c = -1∧quoteC c=[c]):=by
 have h:=forall_u8 (p:=fun c=>[34,92,8,9,10,12,13,0,1,2,3,4,5,6,7,11,14,15,16,17,18,19,20,21,22,23,24,25,26,27,28,29,30,31].contains c || (decide (32≤c.toNat)&&decide (Lib.indexByte [34,92,8,9,10,12,13] c = -1)&&decide (quoteC c=[c]))) (by decide +kernel) c
 simp only [Bool.or_eq_true,Bool.and_eq_true,decide_eq_true_eq,List.contains_eq_mem,List.mem_cons,List.mem_nil_iff,or_false] at h
 rcases h with h|h
 ·exact Or.inl h
 ·exact Or.inr ⟨h.1.1,h.1.2,h.2⟩
theorem Bd.drew {w:World} {B b:Nat} {l:Bs} (h:Bd w B b l):Bd w.drew B b l:=h
theorem Bd.drewN {w:World} {B b:Nat} {l:Bs} (h:Bd w B b l) (n:Nat):Bd (w.drewN n) B b l:=h
theorem Wts.drew {b:Nat} {w w':World} (h:Wts b w.drew w'):Wts b w w':=⟨⟨h.fr.os,h.fr.tape,h.fr.output,h.fr.size,h.fr.block⟩,h.back⟩
theorem fr_bytes (w:World) (s:ByteArray):Fr NoB w (Lib.bytesWorld w 5 s):=
 ⟨rfl,rfl,rfl,by rw [Lib.bytesWorld_size];omega,fun k hk _=>Lib.bytesWorld_at_old w _ s k hk⟩
theorem quoted_any (B b:Nat) (l s:Bs) (w:World) (h:Bd w B b l) (hl:l.length+6*s.length+2≤140737488355328) (hB:B≤w.heap.size) :
  Calls Tryz.prog 101 #[.pointer (some ⟨b,0,none⟩),.string ⟨s.toArray⟩] w fun e w'=>e=.returned (.tuple #[])∧Bd w' B b (l++quoteP s)∧Wts b w w':=by
 have hcv:=fun w=>Lib.run_convert_string_bytes (P:=Tryz.prog) w 9 81 5 ⟨s.toArray⟩ Tryz.underlying9 Tryz.underlying81 Tryz.underlying5
 have hsz:(⟨s.toArray⟩:ByteArray).size=s.length:=by show s.toArray.size=_;simp
 rw [hsz] at hcv
 have HB:Hid (Calls Tryz.prog 102 #[.pointer (some ⟨b,0,none⟩),.int .u8 34] w fun e w'=>e=.returned .nilIface∧Bd w' B b (l++[34])∧Wts b w w'):=Lib.hid (writeByte_x B b l 34 w h (by omega) hB)
 clear h
 go_enter Tryz.func101,Tryz.ntmps101
 go_wp2_with (go_at_call 102;((with_reducible refine HB.out.mono ?_);rintro e w1 ⟨rfl,h1,t1⟩;have H1:=Lib.hid h1;clear h1))
 have f2:=fr_bytes w1 ⟨s.toArray⟩
 have hk:=H1.out.far f2 (Nat.le_refl _)
 have hcell:∀ m (hm:m<s.length),(Lib.bytesWorld w1 5 ⟨s.toArray⟩).cell? ⟨w1.heap.size,m,none⟩=some (.int .u8 (s[m].toNat:Int)):=fun m hm=>by
  rw [Lib.bytesWorld_cell w1 _ ⟨s.toArray⟩ m (by rw [hsz];exact hm)]
  simp [List.getD,hm]
 have hW2:w1.heap.size<(Lib.bytesWorld w1 5 ⟨s.toArray⟩).heap.size:=by rw [Lib.bytesWorld_size];omega
 generalize Lib.bytesWorld w1 5 ⟨s.toArray⟩=W at f2 hk hcell hW2 ⊢
 have HC:=Lib.hid hcell
 have HK:=Lib.hid hk
 clear hcell hk
 go_loopw [12] (fun v wr=>∃ m:Nat,m≤s.length∧v=.int .i64 m∧Hid (Bd wr B b (l++34::(s.take m).flatMap quoteC))∧Wts b W wr) (fun v _=>s.length - (intOf v).toNat)
 case atStart=>exact ⟨0,Nat.zero_le _,rfl,Lib.hid (by simpa using H1.out.keep f2 (fun _ _ e=>e)),Wts.refl _ _⟩
 case round=>
  obtain ⟨m,hm,rfl,HBd,ht⟩:=hrel
  by_cases hlt:m<s.length
  ·have d:=(ht.fr.cell (p:=⟨w1.heap.size,m,none⟩) hW2 HK.out).trans (HC.out m hlt)
   have hlen:(l++34::(s.take m).flatMap quoteC).length+6≤140737488355328:=by
    have:=flat_len (s.take m)
    simp only [List.length_append,List.length_cons,List.length_take] at this ⊢
    omega
   have hnx:(l++34::(s.take m).flatMap quoteC)++quoteC s[m]=l++34::(s.take (m+1)).flatMap quoteC:=by
    have e:s.take (m+1)=s.take m++[s[m]]:=(List.take_append_getElem hlt).symm
    rw [e,List.flatMap_append]
    simp only [List.flatMap_cons,List.flatMap_nil,List.append_nil,List.append_assoc,List.cons_append]
   have hBr:B≤wr.heap.size:=by have a:=t1.fr.size;have b:=f2.size;have c:=ht.fr.size;omega
   generalize s[m]=c at d hnx
   generalize (l++34::(s.take m).flatMap quoteC)=A at HBd hlen hnx
   have HN:=Lib.hid hnx
   clear hnx
   rcases q_cases c with hq|⟨h32,hi,hqc⟩
   ·rcases hq with rfl|rfl|rfl|rfl|rfl|rfl|rfl|rfl|rfl|rfl|rfl|rfl|rfl|rfl|rfl|rfl|rfl|rfl|rfl|rfl|rfl|rfl|rfl|rfl|rfl|rfl|rfl|rfl|rfl|rfl|rfl|rfl|rfl|rfl
    ·have d':wr.cell? ⟨w1.heap.size,m,none⟩=some (.int .u8 34):=d
     have Hi:Hid (Lib.indexByte [34,92,8,9,10,12,13] (((34:Int).toNat).toUInt8)=0):=Lib.hid (by decide)
     have HW:Hid (∀ x:ByteArray,x=⟨#[92,34]⟩→Calls Tryz.prog 62 #[.pointer (some ⟨b,0,none⟩),.string x] wr fun e w'=>e=.returned (.tuple #[.int .i64 2,.nilIface])∧Bd w' B b (A++[92,34])∧Wts b wr w'):=Lib.hid (fun x hx=>by subst hx;exact writeString_x B b A [92,34] wr HBd.out (by simp only [List.length_cons,List.length_nil];omega) hBr)
     have HN3:Hid (A++[92,34]=l++34::(s.take (m+1)).flatMap quoteC):=Lib.hid HN.out
     clear d HN
     go_wp2_with (first|(go_at_call 87;((with_reducible refine (indexByte_any [34,92,8,9,10,12,13] _ _).mono ?_);rintro e w2 ⟨rfl,rfl⟩;rw [Hi.out]))|(go_at_call 62;((with_reducible refine (HW.out _ (by first|rfl|exact ByteArray.ext (by decide))).mono ?_);rintro e w3 ⟨rfl,h3,t3⟩)))
     go_roundw
     case rel=>exact ⟨m+1,by omega,by simp,Lib.hid (by rw [← HN3.out];exact h3),ht.trans t3⟩
     case measure=>simp [intOf];omega
    ·have d':wr.cell? ⟨w1.heap.size,m,none⟩=some (.int .u8 92):=d
     have Hi:Hid (Lib.indexByte [34,92,8,9,10,12,13] (((92:Int).toNat).toUInt8)=1):=Lib.hid (by decide)
     have HW:Hid (∀ x:ByteArray,x=⟨#[92,92]⟩→Calls Tryz.prog 62 #[.pointer (some ⟨b,0,none⟩),.string x] wr fun e w'=>e=.returned (.tuple #[.int .i64 2,.nilIface])∧Bd w' B b (A++[92,92])∧Wts b wr w'):=Lib.hid (fun x hx=>by subst hx;exact writeString_x B b A [92,92] wr HBd.out (by simp only [List.length_cons,List.length_nil];omega) hBr)
     have HN3:Hid (A++[92,92]=l++34::(s.take (m+1)).flatMap quoteC):=Lib.hid HN.out
     clear d HN
     go_wp2_with (first|(go_at_call 87;((with_reducible refine (indexByte_any [34,92,8,9,10,12,13] _ _).mono ?_);rintro e w2 ⟨rfl,rfl⟩;rw [Hi.out]))|(go_at_call 62;((with_reducible refine (HW.out _ (by first|rfl|exact ByteArray.ext (by decide))).mono ?_);rintro e w3 ⟨rfl,h3,t3⟩)))
     go_roundw
     case rel=>exact ⟨m+1,by omega,by simp,Lib.hid (by rw [← HN3.out];exact h3),ht.trans t3⟩
     case measure=>simp [intOf];omega
    ·have d':wr.cell? ⟨w1.heap.size,m,none⟩=some (.int .u8 8):=d
     have Hi:Hid (Lib.indexByte [34,92,8,9,10,12,13] (((8:Int).toNat).toUInt8)=2):=Lib.hid (by decide)
     have HW:Hid (∀ x:ByteArray,x=⟨#[92,98]⟩→Calls Tryz.prog 62 #[.pointer (some ⟨b,0,none⟩),.string x] wr fun e w'=>e=.returned (.tuple #[.int .i64 2,.nilIface])∧Bd w' B b (A++[92,98])∧Wts b wr w'):=Lib.hid (fun x hx=>by subst hx;exact writeString_x B b A [92,98] wr HBd.out (by simp only [List.length_cons,List.length_nil];omega) hBr)
     have HN3:Hid (A++[92,98]=l++34::(s.take (m+1)).flatMap quoteC):=Lib.hid HN.out
     clear d HN
     go_wp2_with (first|(go_at_call 87;((with_reducible refine (indexByte_any [34,92,8,9,10,12,13] _ _).mono ?_);rintro e w2 ⟨rfl,rfl⟩;rw [Hi.out]))|(go_at_call 62;((with_reducible refine (HW.out _ (by first|rfl|exact ByteArray.ext (by decide))).mono ?_);rintro e w3 ⟨rfl,h3,t3⟩)))
     go_roundw
     case rel=>exact ⟨m+1,by omega,by simp,Lib.hid (by rw [← HN3.out];exact h3),ht.trans t3⟩
     case measure=>simp [intOf];omega
    ·have d':wr.cell? ⟨w1.heap.size,m,none⟩=some (.int .u8 9):=d
     have Hi:Hid (Lib.indexByte [34,92,8,9,10,12,13] (((9:Int).toNat).toUInt8)=3):=Lib.hid (by decide)
     have HW:Hid (∀ x:ByteArray,x=⟨#[92,116]⟩→Calls Tryz.prog 62 #[.pointer (some ⟨b,0,none⟩),.string x] wr fun e w'=>e=.returned (.tuple #[.int .i64 2,.nilIface])∧Bd w' B b (A++[92,116])∧Wts b wr w'):=Lib.hid (fun x hx=>by subst hx;exact writeString_x B b A [92,116] wr HBd.out (by simp only [List.length_cons,List.length_nil];omega) hBr)
     have HN3:Hid (A++[92,116]=l++34::(s.take (m+1)).flatMap quoteC):=Lib.hid HN.out
     clear d HN
     go_wp2_with (first|(go_at_call 87;((with_reducible refine (indexByte_any [34,92,8,9,10,12,13] _ _).mono ?_);rintro e w2 ⟨rfl,rfl⟩;rw [Hi.out]))|(go_at_call 62;((with_reducible refine (HW.out _ (by first|rfl|exact ByteArray.ext (by decide))).mono ?_);rintro e w3 ⟨rfl,h3,t3⟩)))
     go_roundw
     case rel=>exact ⟨m+1,by omega,by simp,Lib.hid (by rw [← HN3.out];exact h3),ht.trans t3⟩
     case measure=>simp [intOf];omega
    ·have d':wr.cell? ⟨w1.heap.size,m,none⟩=some (.int .u8 10):=d
     have Hi:Hid (Lib.indexByte [34,92,8,9,10,12,13] (((10:Int).toNat).toUInt8)=4):=Lib.hid (by decide)
     have HW:Hid (∀ x:ByteArray,x=⟨#[92,110]⟩→Calls Tryz.prog 62 #[.pointer (some ⟨b,0,none⟩),.string x] wr fun e w'=>e=.returned (.tuple #[.int .i64 2,.nilIface])∧Bd w' B b (A++[92,110])∧Wts b wr w'):=Lib.hid (fun x hx=>by subst hx;exact writeString_x B b A [92,110] wr HBd.out (by simp only [List.length_cons,List.length_nil];omega) hBr)
     have HN3:Hid (A++[92,110]=l++34::(s.take (m+1)).flatMap quoteC):=Lib.hid HN.out
     clear d HN
     go_wp2_with (first|(go_at_call 87;((with_reducible refine (indexByte_any [34,92,8,9,10,12,13] _ _).mono ?_);rintro e w2 ⟨rfl,rfl⟩;rw [Hi.out]))|(go_at_call 62;((with_reducible refine (HW.out _ (by first|rfl|exact ByteArray.ext (by decide))).mono ?_);rintro e w3 ⟨rfl,h3,t3⟩)))
     go_roundw
     case rel=>exact ⟨m+1,by omega,by simp,Lib.hid (by rw [← HN3.out];exact h3),ht.trans t3⟩
     case measure=>simp [intOf];omega
    ·have d':wr.cell? ⟨w1.heap.size,m,none⟩=some (.int .u8 12):=d
     have Hi:Hid (Lib.indexByte [34,92,8,9,10,12,13] (((12:Int).toNat).toUInt8)=5):=Lib.hid (by decide)
     have HW:Hid (∀ x:ByteArray,x=⟨#[92,102]⟩→Calls Tryz.prog 62 #[.pointer (some ⟨b,0,none⟩),.string x] wr fun e w'=>e=.returned (.tuple #[.int .i64 2,.nilIface])∧Bd w' B b (A++[92,102])∧Wts b wr w'):=Lib.hid (fun x hx=>by subst hx;exact writeString_x B b A [92,102] wr HBd.out (by simp only [List.length_cons,List.length_nil];omega) hBr)
     have HN3:Hid (A++[92,102]=l++34::(s.take (m+1)).flatMap quoteC):=Lib.hid HN.out
     clear d HN
     go_wp2_with (first|(go_at_call 87;((with_reducible refine (indexByte_any [34,92,8,9,10,12,13] _ _).mono ?_);rintro e w2 ⟨rfl,rfl⟩;rw [Hi.out]))|(go_at_call 62;((with_reducible refine (HW.out _ (by first|rfl|exact ByteArray.ext (by decide))).mono ?_);rintro e w3 ⟨rfl,h3,t3⟩)))
     go_roundw
     case rel=>exact ⟨m+1,by omega,by simp,Lib.hid (by rw [← HN3.out];exact h3),ht.trans t3⟩
     case measure=>simp [intOf];omega
    ·have d':wr.cell? ⟨w1.heap.size,m,none⟩=some (.int .u8 13):=d
     have Hi:Hid (Lib.indexByte [34,92,8,9,10,12,13] (((13:Int).toNat).toUInt8)=6):=Lib.hid (by decide)
     have HW:Hid (∀ x:ByteArray,x=⟨#[92,114]⟩→Calls Tryz.prog 62 #[.pointer (some ⟨b,0,none⟩),.string x] wr fun e w'=>e=.returned (.tuple #[.int .i64 2,.nilIface])∧Bd w' B b (A++[92,114])∧Wts b wr w'):=Lib.hid (fun x hx=>by subst hx;exact writeString_x B b A [92,114] wr HBd.out (by simp only [List.length_cons,List.length_nil];omega) hBr)
     have HN3:Hid (A++[92,114]=l++34::(s.take (m+1)).flatMap quoteC):=Lib.hid HN.out
     clear d HN
     go_wp2_with (first|(go_at_call 87;((with_reducible refine (indexByte_any [34,92,8,9,10,12,13] _ _).mono ?_);rintro e w2 ⟨rfl,rfl⟩;rw [Hi.out]))|(go_at_call 62;((with_reducible refine (HW.out _ (by first|rfl|exact ByteArray.ext (by decide))).mono ?_);rintro e w3 ⟨rfl,h3,t3⟩)))
     go_roundw
     case rel=>exact ⟨m+1,by omega,by simp,Lib.hid (by rw [← HN3.out];exact h3),ht.trans t3⟩
     case measure=>simp [intOf];omega
    ·have d':wr.cell? ⟨w1.heap.size,m,none⟩=some (.int .u8 0):=d
     have hb1:bits BinOp.and IntKind.u8 0 15=0:=by decide
     have hb2:IntKind.u8.wrap (0+1)=1:=by decide
     have Hi:Hid (Lib.indexByte [34,92,8,9,10,12,13] (((0:Int).toNat).toUInt8) = -1):=Lib.hid (by decide)
     have HW:Hid (∀ (x:ByteArray) (v:World),x=⟨#[92,117,48,48,48,48]⟩→Bd v B b A→B≤v.heap.size→Calls Tryz.prog 62 #[.pointer (some ⟨b,0,none⟩),.string x] v fun e w'=>e=.returned (.tuple #[.int .i64 6,.nilIface])∧Bd w' B b (A++[92,117,48,48,48,48])∧Wts b v w'):=Lib.hid (fun x v hx hv hBv=>by subst hx;exact writeString_x B b A [92,117,48,48,48,48] v hv (by simp only [List.length_cons,List.length_nil];omega) hBv)
     have HN3:Hid (A++[92,117,48,48,48,48]=l++34::(s.take (m+1)).flatMap quoteC):=Lib.hid HN.out
     clear d HN
     go_wp2_with (go_at_call 87;((with_reducible refine (indexByte_any [34,92,8,9,10,12,13] _ _).mono ?_);rintro e w2 ⟨rfl,rfl⟩;rw [Hi.out]))
     go_region_with (go_at_call 62;(refine (HW.out _ _ (by first|rfl|exact ByteArray.ext (by decide)) (by first|exact HBd.out|exact HBd.out.drew|exact HBd.out.drewN _) (by exact hBr)).mono ?_;rintro e w3 ⟨rfl,h3,t3⟩))
     try go_wp2_with fail
     go_roundw
     case rel=>exact ⟨m+1,by omega,by simp,Lib.hid (by rw [← HN3.out];exact h3),ht.trans (Wts.drew t3)⟩
     case measure=>simp [intOf];omega
     all_goals exact ⟨⟨m+1,by omega,by simp,Lib.hid (by rw [← HN3.out];exact h3),ht.trans (Wts.drew t3)⟩,by simp [intOf];omega⟩
    ·have d':wr.cell? ⟨w1.heap.size,m,none⟩=some (.int .u8 1):=d
     have hb1:bits BinOp.and IntKind.u8 1 15=1:=by decide
     have hb2:IntKind.u8.wrap (1+1)=2:=by decide
     have Hi:Hid (Lib.indexByte [34,92,8,9,10,12,13] (((1:Int).toNat).toUInt8) = -1):=Lib.hid (by decide)
     have HW:Hid (∀ (x:ByteArray) (v:World),x=⟨#[92,117,48,48,48,49]⟩→Bd v B b A→B≤v.heap.size→Calls Tryz.prog 62 #[.pointer (some ⟨b,0,none⟩),.string x] v fun e w'=>e=.returned (.tuple #[.int .i64 6,.nilIface])∧Bd w' B b (A++[92,117,48,48,48,49])∧Wts b v w'):=Lib.hid (fun x v hx hv hBv=>by subst hx;exact writeString_x B b A [92,117,48,48,48,49] v hv (by simp only [List.length_cons,List.length_nil];omega) hBv)
     have HN3:Hid (A++[92,117,48,48,48,49]=l++34::(s.take (m+1)).flatMap quoteC):=Lib.hid HN.out
     clear d HN
     go_wp2_with (go_at_call 87;((with_reducible refine (indexByte_any [34,92,8,9,10,12,13] _ _).mono ?_);rintro e w2 ⟨rfl,rfl⟩;rw [Hi.out]))
     go_region_with (go_at_call 62;(refine (HW.out _ _ (by first|rfl|exact ByteArray.ext (by decide)) (by first|exact HBd.out|exact HBd.out.drew|exact HBd.out.drewN _) (by exact hBr)).mono ?_;rintro e w3 ⟨rfl,h3,t3⟩))
     try go_wp2_with fail
     go_roundw
     case rel=>exact ⟨m+1,by omega,by simp,Lib.hid (by rw [← HN3.out];exact h3),ht.trans (Wts.drew t3)⟩
     case measure=>simp [intOf];omega
     all_goals exact ⟨⟨m+1,by omega,by simp,Lib.hid (by rw [← HN3.out];exact h3),ht.trans (Wts.drew t3)⟩,by simp [intOf];omega⟩
    ·have d':wr.cell? ⟨w1.heap.size,m,none⟩=some (.int .u8 2):=d
     have hb1:bits BinOp.and IntKind.u8 2 15=2:=by decide
     have hb2:IntKind.u8.wrap (2+1)=3:=by decide
     have Hi:Hid (Lib.indexByte [34,92,8,9,10,12,13] (((2:Int).toNat).toUInt8) = -1):=Lib.hid (by decide)
     have HW:Hid (∀ (x:ByteArray) (v:World),x=⟨#[92,117,48,48,48,50]⟩→Bd v B b A→B≤v.heap.size→Calls Tryz.prog 62 #[.pointer (some ⟨b,0,none⟩),.string x] v fun e w'=>e=.returned (.tuple #[.int .i64 6,.nilIface])∧Bd w' B b (A++[92,117,48,48,48,50])∧Wts b v w'):=Lib.hid (fun x v hx hv hBv=>by subst hx;exact writeString_x B b A [92,117,48,48,48,50] v hv (by simp only [List.length_cons,List.length_nil];omega) hBv)
     have HN3:Hid (A++[92,117,48,48,48,50]=l++34::(s.take (m+1)).flatMap quoteC):=Lib.hid HN.out
     clear d HN
     go_wp2_with (go_at_call 87;((with_reducible refine (indexByte_any [34,92,8,9,10,12,13] _ _).mono ?_);rintro e w2 ⟨rfl,rfl⟩;rw [Hi.out]))
     go_region_with (go_at_call 62;(refine (HW.out _ _ (by first|rfl|exact ByteArray.ext (by decide)) (by first|exact HBd.out|exact HBd.out.drew|exact HBd.out.drewN _) (by exact hBr)).mono ?_;rintro e w3 ⟨rfl,h3,t3⟩))
     try go_wp2_with fail
     go_roundw
     case rel=>exact ⟨m+1,by omega,by simp,Lib.hid (by rw [← HN3.out];exact h3),ht.trans (Wts.drew t3)⟩
     case measure=>simp [intOf];omega
     all_goals exact ⟨⟨m+1,by omega,by simp,Lib.hid (by rw [← HN3.out];exact h3),ht.trans (Wts.drew t3)⟩,by simp [intOf];omega⟩
    ·have d':wr.cell? ⟨w1.heap.size,m,none⟩=some (.int .u8 3):=d
     have hb1:bits BinOp.and IntKind.u8 3 15=3:=by decide
     have hb2:IntKind.u8.wrap (3+1)=4:=by decide
     have Hi:Hid (Lib.indexByte [34,92,8,9,10,12,13] (((3:Int).toNat).toUInt8) = -1):=Lib.hid (by decide)
     have HW:Hid (∀ (x:ByteArray) (v:World),x=⟨#[92,117,48,48,48,51]⟩→Bd v B b A→B≤v.heap.size→Calls Tryz.prog 62 #[.pointer (some ⟨b,0,none⟩),.string x] v fun e w'=>e=.returned (.tuple #[.int .i64 6,.nilIface])∧Bd w' B b (A++[92,117,48,48,48,51])∧Wts b v w'):=Lib.hid (fun x v hx hv hBv=>by subst hx;exact writeString_x B b A [92,117,48,48,48,51] v hv (by simp only [List.length_cons,List.length_nil];omega) hBv)
     have HN3:Hid (A++[92,117,48,48,48,51]=l++34::(s.take (m+1)).flatMap quoteC):=Lib.hid HN.out
     clear d HN
     go_wp2_with (go_at_call 87;((with_reducible refine (indexByte_any [34,92,8,9,10,12,13] _ _).mono ?_);rintro e w2 ⟨rfl,rfl⟩;rw [Hi.out]))
     go_region_with (go_at_call 62;(refine (HW.out _ _ (by first|rfl|exact ByteArray.ext (by decide)) (by first|exact HBd.out|exact HBd.out.drew|exact HBd.out.drewN _) (by exact hBr)).mono ?_;rintro e w3 ⟨rfl,h3,t3⟩))
     try go_wp2_with fail
     go_roundw
     case rel=>exact ⟨m+1,by omega,by simp,Lib.hid (by rw [← HN3.out];exact h3),ht.trans (Wts.drew t3)⟩
     case measure=>simp [intOf];omega
     all_goals exact ⟨⟨m+1,by omega,by simp,Lib.hid (by rw [← HN3.out];exact h3),ht.trans (Wts.drew t3)⟩,by simp [intOf];omega⟩
    ·have d':wr.cell? ⟨w1.heap.size,m,none⟩=some (.int .u8 4):=d
     have hb1:bits BinOp.and IntKind.u8 4 15=4:=by decide
     have hb2:IntKind.u8.wrap (4+1)=5:=by decide
     have Hi:Hid (Lib.indexByte [34,92,8,9,10,12,13] (((4:Int).toNat).toUInt8) = -1):=Lib.hid (by decide)
     have HW:Hid (∀ (x:ByteArray) (v:World),x=⟨#[92,117,48,48,48,52]⟩→Bd v B b A→B≤v.heap.size→Calls Tryz.prog 62 #[.pointer (some ⟨b,0,none⟩),.string x] v fun e w'=>e=.returned (.tuple #[.int .i64 6,.nilIface])∧Bd w' B b (A++[92,117,48,48,48,52])∧Wts b v w'):=Lib.hid (fun x v hx hv hBv=>by subst hx;exact writeString_x B b A [92,117,48,48,48,52] v hv (by simp only [List.length_cons,List.length_nil];omega) hBv)
     have HN3:Hid (A++[92,117,48,48,48,52]=l++34::(s.take (m+1)).flatMap quoteC):=Lib.hid HN.out
     clear d HN
     go_wp2_with (go_at_call 87;((with_reducible refine (indexByte_any [34,92,8,9,10,12,13] _ _).mono ?_);rintro e w2 ⟨rfl,rfl⟩;rw [Hi.out]))
     go_region_with (go_at_call 62;(refine (HW.out _ _ (by first|rfl|exact ByteArray.ext (by decide)) (by first|exact HBd.out|exact HBd.out.drew|exact HBd.out.drewN _) (by exact hBr)).mono ?_;rintro e w3 ⟨rfl,h3,t3⟩))
     try go_wp2_with fail
     go_roundw
     case rel=>exact ⟨m+1,by omega,by simp,Lib.hid (by rw [← HN3.out];exact h3),ht.trans (Wts.drew t3)⟩
     case measure=>simp [intOf];omega
     all_goals exact ⟨⟨m+1,by omega,by simp,Lib.hid (by rw [← HN3.out];exact h3),ht.trans (Wts.drew t3)⟩,by simp [intOf];omega⟩
    ·have d':wr.cell? ⟨w1.heap.size,m,none⟩=some (.int .u8 5):=d
     have hb1:bits BinOp.and IntKind.u8 5 15=5:=by decide
     have hb2:IntKind.u8.wrap (5+1)=6:=by decide
     have Hi:Hid (Lib.indexByte [34,92,8,9,10,12,13] (((5:Int).toNat).toUInt8) = -1):=Lib.hid (by decide)
     have HW:Hid (∀ (x:ByteArray) (v:World),x=⟨#[92,117,48,48,48,53]⟩→Bd v B b A→B≤v.heap.size→Calls Tryz.prog 62 #[.pointer (some ⟨b,0,none⟩),.string x] v fun e w'=>e=.returned (.tuple #[.int .i64 6,.nilIface])∧Bd w' B b (A++[92,117,48,48,48,53])∧Wts b v w'):=Lib.hid (fun x v hx hv hBv=>by subst hx;exact writeString_x B b A [92,117,48,48,48,53] v hv (by simp only [List.length_cons,List.length_nil];omega) hBv)
     have HN3:Hid (A++[92,117,48,48,48,53]=l++34::(s.take (m+1)).flatMap quoteC):=Lib.hid HN.out
     clear d HN
     go_wp2_with (go_at_call 87;((with_reducible refine (indexByte_any [34,92,8,9,10,12,13] _ _).mono ?_);rintro e w2 ⟨rfl,rfl⟩;rw [Hi.out]))
     go_region_with (go_at_call 62;(refine (HW.out _ _ (by first|rfl|exact ByteArray.ext (by decide)) (by first|exact HBd.out|exact HBd.out.drew|exact HBd.out.drewN _) (by exact hBr)).mono ?_;rintro e w3 ⟨rfl,h3,t3⟩))
     try go_wp2_with fail
     go_roundw
     case rel=>exact ⟨m+1,by omega,by simp,Lib.hid (by rw [← HN3.out];exact h3),ht.trans (Wts.drew t3)⟩
     case measure=>simp [intOf];omega
     all_goals exact ⟨⟨m+1,by omega,by simp,Lib.hid (by rw [← HN3.out];exact h3),ht.trans (Wts.drew t3)⟩,by simp [intOf];omega⟩
    ·have d':wr.cell? ⟨w1.heap.size,m,none⟩=some (.int .u8 6):=d
     have hb1:bits BinOp.and IntKind.u8 6 15=6:=by decide
     have hb2:IntKind.u8.wrap (6+1)=7:=by decide
     have Hi:Hid (Lib.indexByte [34,92,8,9,10,12,13] (((6:Int).toNat).toUInt8) = -1):=Lib.hid (by decide)
     have HW:Hid (∀ (x:ByteArray) (v:World),x=⟨#[92,117,48,48,48,54]⟩→Bd v B b A→B≤v.heap.size→Calls Tryz.prog 62 #[.pointer (some ⟨b,0,none⟩),.string x] v fun e w'=>e=.returned (.tuple #[.int .i64 6,.nilIface])∧Bd w' B b (A++[92,117,48,48,48,54])∧Wts b v w'):=Lib.hid (fun x v hx hv hBv=>by subst hx;exact writeString_x B b A [92,117,48,48,48,54] v hv (by simp only [List.length_cons,List.length_nil];omega) hBv)
     have HN3:Hid (A++[92,117,48,48,48,54]=l++34::(s.take (m+1)).flatMap quoteC):=Lib.hid HN.out
     clear d HN
     go_wp2_with (go_at_call 87;((with_reducible refine (indexByte_any [34,92,8,9,10,12,13] _ _).mono ?_);rintro e w2 ⟨rfl,rfl⟩;rw [Hi.out]))
     go_region_with (go_at_call 62;(refine (HW.out _ _ (by first|rfl|exact ByteArray.ext (by decide)) (by first|exact HBd.out|exact HBd.out.drew|exact HBd.out.drewN _) (by exact hBr)).mono ?_;rintro e w3 ⟨rfl,h3,t3⟩))
     try go_wp2_with fail
     go_roundw
     case rel=>exact ⟨m+1,by omega,by simp,Lib.hid (by rw [← HN3.out];exact h3),ht.trans (Wts.drew t3)⟩
     case measure=>simp [intOf];omega
     all_goals exact ⟨⟨m+1,by omega,by simp,Lib.hid (by rw [← HN3.out];exact h3),ht.trans (Wts.drew t3)⟩,by simp [intOf];omega⟩
    ·have d':wr.cell? ⟨w1.heap.size,m,none⟩=some (.int .u8 7):=d
     have hb1:bits BinOp.and IntKind.u8 7 15=7:=by decide
     have hb2:IntKind.u8.wrap (7+1)=8:=by decide
     have Hi:Hid (Lib.indexByte [34,92,8,9,10,12,13] (((7:Int).toNat).toUInt8) = -1):=Lib.hid (by decide)
     have HW:Hid (∀ (x:ByteArray) (v:World),x=⟨#[92,117,48,48,48,55]⟩→Bd v B b A→B≤v.heap.size→Calls Tryz.prog 62 #[.pointer (some ⟨b,0,none⟩),.string x] v fun e w'=>e=.returned (.tuple #[.int .i64 6,.nilIface])∧Bd w' B b (A++[92,117,48,48,48,55])∧Wts b v w'):=Lib.hid (fun x v hx hv hBv=>by subst hx;exact writeString_x B b A [92,117,48,48,48,55] v hv (by simp only [List.length_cons,List.length_nil];omega) hBv)
     have HN3:Hid (A++[92,117,48,48,48,55]=l++34::(s.take (m+1)).flatMap quoteC):=Lib.hid HN.out
     clear d HN
     go_wp2_with (go_at_call 87;((with_reducible refine (indexByte_any [34,92,8,9,10,12,13] _ _).mono ?_);rintro e w2 ⟨rfl,rfl⟩;rw [Hi.out]))
     go_region_with (go_at_call 62;(refine (HW.out _ _ (by first|rfl|exact ByteArray.ext (by decide)) (by first|exact HBd.out|exact HBd.out.drew|exact HBd.out.drewN _) (by exact hBr)).mono ?_;rintro e w3 ⟨rfl,h3,t3⟩))
     try go_wp2_with fail
     go_roundw
     case rel=>exact ⟨m+1,by omega,by simp,Lib.hid (by rw [← HN3.out];exact h3),ht.trans (Wts.drew t3)⟩
     case measure=>simp [intOf];omega
     all_goals exact ⟨⟨m+1,by omega,by simp,Lib.hid (by rw [← HN3.out];exact h3),ht.trans (Wts.drew t3)⟩,by simp [intOf];omega⟩
    ·have d':wr.cell? ⟨w1.heap.size,m,none⟩=some (.int .u8 11):=d
     have hb1:bits BinOp.and IntKind.u8 11 15=11:=by decide
     have hb2:IntKind.u8.wrap (11+1)=12:=by decide
     have Hi:Hid (Lib.indexByte [34,92,8,9,10,12,13] (((11:Int).toNat).toUInt8) = -1):=Lib.hid (by decide)
     have HW:Hid (∀ (x:ByteArray) (v:World),x=⟨#[92,117,48,48,48,98]⟩→Bd v B b A→B≤v.heap.size→Calls Tryz.prog 62 #[.pointer (some ⟨b,0,none⟩),.string x] v fun e w'=>e=.returned (.tuple #[.int .i64 6,.nilIface])∧Bd w' B b (A++[92,117,48,48,48,98])∧Wts b v w'):=Lib.hid (fun x v hx hv hBv=>by subst hx;exact writeString_x B b A [92,117,48,48,48,98] v hv (by simp only [List.length_cons,List.length_nil];omega) hBv)
     have HN3:Hid (A++[92,117,48,48,48,98]=l++34::(s.take (m+1)).flatMap quoteC):=Lib.hid HN.out
     clear d HN
     go_wp2_with (go_at_call 87;((with_reducible refine (indexByte_any [34,92,8,9,10,12,13] _ _).mono ?_);rintro e w2 ⟨rfl,rfl⟩;rw [Hi.out]))
     go_region_with (go_at_call 62;(refine (HW.out _ _ (by first|rfl|exact ByteArray.ext (by decide)) (by first|exact HBd.out|exact HBd.out.drew|exact HBd.out.drewN _) (by exact hBr)).mono ?_;rintro e w3 ⟨rfl,h3,t3⟩))
     try go_wp2_with fail
     go_roundw
     case rel=>exact ⟨m+1,by omega,by simp,Lib.hid (by rw [← HN3.out];exact h3),ht.trans (Wts.drew t3)⟩
     case measure=>simp [intOf];omega
     all_goals exact ⟨⟨m+1,by omega,by simp,Lib.hid (by rw [← HN3.out];exact h3),ht.trans (Wts.drew t3)⟩,by simp [intOf];omega⟩
    ·have d':wr.cell? ⟨w1.heap.size,m,none⟩=some (.int .u8 14):=d
     have hb1:bits BinOp.and IntKind.u8 14 15=14:=by decide
     have hb2:IntKind.u8.wrap (14+1)=15:=by decide
     have Hi:Hid (Lib.indexByte [34,92,8,9,10,12,13] (((14:Int).toNat).toUInt8) = -1):=Lib.hid (by decide)
     have HW:Hid (∀ (x:ByteArray) (v:World),x=⟨#[92,117,48,48,48,101]⟩→Bd v B b A→B≤v.heap.size→Calls Tryz.prog 62 #[.pointer (some ⟨b,0,none⟩),.string x] v fun e w'=>e=.returned (.tuple #[.int .i64 6,.nilIface])∧Bd w' B b (A++[92,117,48,48,48,101])∧Wts b v w'):=Lib.hid (fun x v hx hv hBv=>by subst hx;exact writeString_x B b A [92,117,48,48,48,101] v hv (by simp only [List.length_cons,List.length_nil];omega) hBv)
     have HN3:Hid (A++[92,117,48,48,48,101]=l++34::(s.take (m+1)).flatMap quoteC):=Lib.hid HN.out
     clear d HN
     go_wp2_with (go_at_call 87;((with_reducible refine (indexByte_any [34,92,8,9,10,12,13] _ _).mono ?_);rintro e w2 ⟨rfl,rfl⟩;rw [Hi.out]))
     go_region_with (go_at_call 62;(refine (HW.out _ _ (by first|rfl|exact ByteArray.ext (by decide)) (by first|exact HBd.out|exact HBd.out.drew|exact HBd.out.drewN _) (by exact hBr)).mono ?_;rintro e w3 ⟨rfl,h3,t3⟩))
     try go_wp2_with fail
     go_roundw
     case rel=>exact ⟨m+1,by omega,by simp,Lib.hid (by rw [← HN3.out];exact h3),ht.trans (Wts.drew t3)⟩
     case measure=>simp [intOf];omega
     all_goals exact ⟨⟨m+1,by omega,by simp,Lib.hid (by rw [← HN3.out];exact h3),ht.trans (Wts.drew t3)⟩,by simp [intOf];omega⟩
    ·have d':wr.cell? ⟨w1.heap.size,m,none⟩=some (.int .u8 15):=d
     have hb1:bits BinOp.and IntKind.u8 15 15=15:=by decide
     have hb2:IntKind.u8.wrap (15+1)=16:=by decide
     have Hi:Hid (Lib.indexByte [34,92,8,9,10,12,13] (((15:Int).toNat).toUInt8) = -1):=Lib.hid (by decide)
     have HW:Hid (∀ (x:ByteArray) (v:World),x=⟨#[92,117,48,48,48,102]⟩→Bd v B b A→B≤v.heap.size→Calls Tryz.prog 62 #[.pointer (some ⟨b,0,none⟩),.string x] v fun e w'=>e=.returned (.tuple #[.int .i64 6,.nilIface])∧Bd w' B b (A++[92,117,48,48,48,102])∧Wts b v w'):=Lib.hid (fun x v hx hv hBv=>by subst hx;exact writeString_x B b A [92,117,48,48,48,102] v hv (by simp only [List.length_cons,List.length_nil];omega) hBv)
     have HN3:Hid (A++[92,117,48,48,48,102]=l++34::(s.take (m+1)).flatMap quoteC):=Lib.hid HN.out
     clear d HN
     go_wp2_with (go_at_call 87;((with_reducible refine (indexByte_any [34,92,8,9,10,12,13] _ _).mono ?_);rintro e w2 ⟨rfl,rfl⟩;rw [Hi.out]))
     go_region_with (go_at_call 62;(refine (HW.out _ _ (by first|rfl|exact ByteArray.ext (by decide)) (by first|exact HBd.out|exact HBd.out.drew|exact HBd.out.drewN _) (by exact hBr)).mono ?_;rintro e w3 ⟨rfl,h3,t3⟩))
     try go_wp2_with fail
     go_roundw
     case rel=>exact ⟨m+1,by omega,by simp,Lib.hid (by rw [← HN3.out];exact h3),ht.trans (Wts.drew t3)⟩
     case measure=>simp [intOf];omega
     all_goals exact ⟨⟨m+1,by omega,by simp,Lib.hid (by rw [← HN3.out];exact h3),ht.trans (Wts.drew t3)⟩,by simp [intOf];omega⟩
    ·have d':wr.cell? ⟨w1.heap.size,m,none⟩=some (.int .u8 16):=d
     have hb1:bits BinOp.and IntKind.u8 16 15=0:=by decide
     have hb2:IntKind.u8.wrap (0+1)=1:=by decide
     have Hi:Hid (Lib.indexByte [34,92,8,9,10,12,13] (((16:Int).toNat).toUInt8) = -1):=Lib.hid (by decide)
     have HW:Hid (∀ (x:ByteArray) (v:World),x=⟨#[92,117,48,48,49,48]⟩→Bd v B b A→B≤v.heap.size→Calls Tryz.prog 62 #[.pointer (some ⟨b,0,none⟩),.string x] v fun e w'=>e=.returned (.tuple #[.int .i64 6,.nilIface])∧Bd w' B b (A++[92,117,48,48,49,48])∧Wts b v w'):=Lib.hid (fun x v hx hv hBv=>by subst hx;exact writeString_x B b A [92,117,48,48,49,48] v hv (by simp only [List.length_cons,List.length_nil];omega) hBv)
     have HN3:Hid (A++[92,117,48,48,49,48]=l++34::(s.take (m+1)).flatMap quoteC):=Lib.hid HN.out
     clear d HN
     go_wp2_with (go_at_call 87;((with_reducible refine (indexByte_any [34,92,8,9,10,12,13] _ _).mono ?_);rintro e w2 ⟨rfl,rfl⟩;rw [Hi.out]))
     go_region_with (go_at_call 62;(refine (HW.out _ _ (by first|rfl|exact ByteArray.ext (by decide)) (by first|exact HBd.out|exact HBd.out.drew|exact HBd.out.drewN _) (by exact hBr)).mono ?_;rintro e w3 ⟨rfl,h3,t3⟩))
     try go_wp2_with fail
     go_roundw
     case rel=>exact ⟨m+1,by omega,by simp,Lib.hid (by rw [← HN3.out];exact h3),ht.trans (Wts.drew t3)⟩
     case measure=>simp [intOf];omega
     all_goals exact ⟨⟨m+1,by omega,by simp,Lib.hid (by rw [← HN3.out];exact h3),ht.trans (Wts.drew t3)⟩,by simp [intOf];omega⟩
    ·have d':wr.cell? ⟨w1.heap.size,m,none⟩=some (.int .u8 17):=d
     have hb1:bits BinOp.and IntKind.u8 17 15=1:=by decide
     have hb2:IntKind.u8.wrap (1+1)=2:=by decide
     have Hi:Hid (Lib.indexByte [34,92,8,9,10,12,13] (((17:Int).toNat).toUInt8) = -1):=Lib.hid (by decide)
     have HW:Hid (∀ (x:ByteArray) (v:World),x=⟨#[92,117,48,48,49,49]⟩→Bd v B b A→B≤v.heap.size→Calls Tryz.prog 62 #[.pointer (some ⟨b,0,none⟩),.string x] v fun e w'=>e=.returned (.tuple #[.int .i64 6,.nilIface])∧Bd w' B b (A++[92,117,48,48,49,49])∧Wts b v w'):=Lib.hid (fun x v hx hv hBv=>by subst hx;exact writeString_x B b A [92,117,48,48,49,49] v hv (by simp only [List.length_cons,List.length_nil];omega) hBv)
     have HN3:Hid (A++[92,117,48,48,49,49]=l++34::(s.take (m+1)).flatMap quoteC):=Lib.hid HN.out
     clear d HN
     go_wp2_with (go_at_call 87;((with_reducible refine (indexByte_any [34,92,8,9,10,12,13] _ _).mono ?_);rintro e w2 ⟨rfl,rfl⟩;rw [Hi.out]))
     go_region_with (go_at_call 62;(refine (HW.out _ _ (by first|rfl|exact ByteArray.ext (by decide)) (by first|exact HBd.out|exact HBd.out.drew|exact HBd.out.drewN _) (by exact hBr)).mono ?_;rintro e w3 ⟨rfl,h3,t3⟩))
     try go_wp2_with fail
     go_roundw
     case rel=>exact ⟨m+1,by omega,by simp,Lib.hid (by rw [← HN3.out];exact h3),ht.trans (Wts.drew t3)⟩
     case measure=>simp [intOf];omega
     all_goals exact ⟨⟨m+1,by omega,by simp,Lib.hid (by rw [← HN3.out];exact h3),ht.trans (Wts.drew t3)⟩,by simp [intOf];omega⟩
    ·have d':wr.cell? ⟨w1.heap.size,m,none⟩=some (.int .u8 18):=d
     have hb1:bits BinOp.and IntKind.u8 18 15=2:=by decide
     have hb2:IntKind.u8.wrap (2+1)=3:=by decide
     have Hi:Hid (Lib.indexByte [34,92,8,9,10,12,13] (((18:Int).toNat).toUInt8) = -1):=Lib.hid (by decide)
     have HW:Hid (∀ (x:ByteArray) (v:World),x=⟨#[92,117,48,48,49,50]⟩→Bd v B b A→B≤v.heap.size→Calls Tryz.prog 62 #[.pointer (some ⟨b,0,none⟩),.string x] v fun e w'=>e=.returned (.tuple #[.int .i64 6,.nilIface])∧Bd w' B b (A++[92,117,48,48,49,50])∧Wts b v w'):=Lib.hid (fun x v hx hv hBv=>by subst hx;exact writeString_x B b A [92,117,48,48,49,50] v hv (by simp only [List.length_cons,List.length_nil];omega) hBv)
     have HN3:Hid (A++[92,117,48,48,49,50]=l++34::(s.take (m+1)).flatMap quoteC):=Lib.hid HN.out
     clear d HN
     go_wp2_with (go_at_call 87;((with_reducible refine (indexByte_any [34,92,8,9,10,12,13] _ _).mono ?_);rintro e w2 ⟨rfl,rfl⟩;rw [Hi.out]))
     go_region_with (go_at_call 62;(refine (HW.out _ _ (by first|rfl|exact ByteArray.ext (by decide)) (by first|exact HBd.out|exact HBd.out.drew|exact HBd.out.drewN _) (by exact hBr)).mono ?_;rintro e w3 ⟨rfl,h3,t3⟩))
     try go_wp2_with fail
     go_roundw
     case rel=>exact ⟨m+1,by omega,by simp,Lib.hid (by rw [← HN3.out];exact h3),ht.trans (Wts.drew t3)⟩
     case measure=>simp [intOf];omega
     all_goals exact ⟨⟨m+1,by omega,by simp,Lib.hid (by rw [← HN3.out];exact h3),ht.trans (Wts.drew t3)⟩,by simp [intOf];omega⟩
    ·have d':wr.cell? ⟨w1.heap.size,m,none⟩=some (.int .u8 19):=d
     have hb1:bits BinOp.and IntKind.u8 19 15=3:=by decide
     have hb2:IntKind.u8.wrap (3+1)=4:=by decide
     have Hi:Hid (Lib.indexByte [34,92,8,9,10,12,13] (((19:Int).toNat).toUInt8) = -1):=Lib.hid (by decide)
     have HW:Hid (∀ (x:ByteArray) (v:World),x=⟨#[92,117,48,48,49,51]⟩→Bd v B b A→B≤v.heap.size→Calls Tryz.prog 62 #[.pointer (some ⟨b,0,none⟩),.string x] v fun e w'=>e=.returned (.tuple #[.int .i64 6,.nilIface])∧Bd w' B b (A++[92,117,48,48,49,51])∧Wts b v w'):=Lib.hid (fun x v hx hv hBv=>by subst hx;exact writeString_x B b A [92,117,48,48,49,51] v hv (by simp only [List.length_cons,List.length_nil];omega) hBv)
     have HN3:Hid (A++[92,117,48,48,49,51]=l++34::(s.take (m+1)).flatMap quoteC):=Lib.hid HN.out
     clear d HN
     go_wp2_with (go_at_call 87;((with_reducible refine (indexByte_any [34,92,8,9,10,12,13] _ _).mono ?_);rintro e w2 ⟨rfl,rfl⟩;rw [Hi.out]))
     go_region_with (go_at_call 62;(refine (HW.out _ _ (by first|rfl|exact ByteArray.ext (by decide)) (by first|exact HBd.out|exact HBd.out.drew|exact HBd.out.drewN _) (by exact hBr)).mono ?_;rintro e w3 ⟨rfl,h3,t3⟩))
     try go_wp2_with fail
     go_roundw
     case rel=>exact ⟨m+1,by omega,by simp,Lib.hid (by rw [← HN3.out];exact h3),ht.trans (Wts.drew t3)⟩
     case measure=>simp [intOf];omega
     all_goals exact ⟨⟨m+1,by omega,by simp,Lib.hid (by rw [← HN3.out];exact h3),ht.trans (Wts.drew t3)⟩,by simp [intOf];omega⟩
    ·have d':wr.cell? ⟨w1.heap.size,m,none⟩=some (.int .u8 20):=d
     have hb1:bits BinOp.and IntKind.u8 20 15=4:=by decide
     have hb2:IntKind.u8.wrap (4+1)=5:=by decide
     have Hi:Hid (Lib.indexByte [34,92,8,9,10,12,13] (((20:Int).toNat).toUInt8) = -1):=Lib.hid (by decide)
     have HW:Hid (∀ (x:ByteArray) (v:World),x=⟨#[92,117,48,48,49,52]⟩→Bd v B b A→B≤v.heap.size→Calls Tryz.prog 62 #[.pointer (some ⟨b,0,none⟩),.string x] v fun e w'=>e=.returned (.tuple #[.int .i64 6,.nilIface])∧Bd w' B b (A++[92,117,48,48,49,52])∧Wts b v w'):=Lib.hid (fun x v hx hv hBv=>by subst hx;exact writeString_x B b A [92,117,48,48,49,52] v hv (by simp only [List.length_cons,List.length_nil];omega) hBv)
     have HN3:Hid (A++[92,117,48,48,49,52]=l++34::(s.take (m+1)).flatMap quoteC):=Lib.hid HN.out
     clear d HN
     go_wp2_with (go_at_call 87;((with_reducible refine (indexByte_any [34,92,8,9,10,12,13] _ _).mono ?_);rintro e w2 ⟨rfl,rfl⟩;rw [Hi.out]))
     go_region_with (go_at_call 62;(refine (HW.out _ _ (by first|rfl|exact ByteArray.ext (by decide)) (by first|exact HBd.out|exact HBd.out.drew|exact HBd.out.drewN _) (by exact hBr)).mono ?_;rintro e w3 ⟨rfl,h3,t3⟩))
     try go_wp2_with fail
     go_roundw
     case rel=>exact ⟨m+1,by omega,by simp,Lib.hid (by rw [← HN3.out];exact h3),ht.trans (Wts.drew t3)⟩
     case measure=>simp [intOf];omega
     all_goals exact ⟨⟨m+1,by omega,by simp,Lib.hid (by rw [← HN3.out];exact h3),ht.trans (Wts.drew t3)⟩,by simp [intOf];omega⟩
    ·have d':wr.cell? ⟨w1.heap.size,m,none⟩=some (.int .u8 21):=d
     have hb1:bits BinOp.and IntKind.u8 21 15=5:=by decide
     have hb2:IntKind.u8.wrap (5+1)=6:=by decide
     have Hi:Hid (Lib.indexByte [34,92,8,9,10,12,13] (((21:Int).toNat).toUInt8) = -1):=Lib.hid (by decide)
     have HW:Hid (∀ (x:ByteArray) (v:World),x=⟨#[92,117,48,48,49,53]⟩→Bd v B b A→B≤v.heap.size→Calls Tryz.prog 62 #[.pointer (some ⟨b,0,none⟩),.string x] v fun e w'=>e=.returned (.tuple #[.int .i64 6,.nilIface])∧Bd w' B b (A++[92,117,48,48,49,53])∧Wts b v w'):=Lib.hid (fun x v hx hv hBv=>by subst hx;exact writeString_x B b A [92,117,48,48,49,53] v hv (by simp only [List.length_cons,List.length_nil];omega) hBv)
     have HN3:Hid (A++[92,117,48,48,49,53]=l++34::(s.take (m+1)).flatMap quoteC):=Lib.hid HN.out
     clear d HN
     go_wp2_with (go_at_call 87;((with_reducible refine (indexByte_any [34,92,8,9,10,12,13] _ _).mono ?_);rintro e w2 ⟨rfl,rfl⟩;rw [Hi.out]))
     go_region_with (go_at_call 62;(refine (HW.out _ _ (by first|rfl|exact ByteArray.ext (by decide)) (by first|exact HBd.out|exact HBd.out.drew|exact HBd.out.drewN _) (by exact hBr)).mono ?_;rintro e w3 ⟨rfl,h3,t3⟩))
     try go_wp2_with fail
     go_roundw
     case rel=>exact ⟨m+1,by omega,by simp,Lib.hid (by rw [← HN3.out];exact h3),ht.trans (Wts.drew t3)⟩
     case measure=>simp [intOf];omega
     all_goals exact ⟨⟨m+1,by omega,by simp,Lib.hid (by rw [← HN3.out];exact h3),ht.trans (Wts.drew t3)⟩,by simp [intOf];omega⟩
    ·have d':wr.cell? ⟨w1.heap.size,m,none⟩=some (.int .u8 22):=d
     have hb1:bits BinOp.and IntKind.u8 22 15=6:=by decide
     have hb2:IntKind.u8.wrap (6+1)=7:=by decide
     have Hi:Hid (Lib.indexByte [34,92,8,9,10,12,13] (((22:Int).toNat).toUInt8) = -1):=Lib.hid (by decide)
     have HW:Hid (∀ (x:ByteArray) (v:World),x=⟨#[92,117,48,48,49,54]⟩→Bd v B b A→B≤v.heap.size→Calls Tryz.prog 62 #[.pointer (some ⟨b,0,none⟩),.string x] v fun e w'=>e=.returned (.tuple #[.int .i64 6,.nilIface])∧Bd w' B b (A++[92,117,48,48,49,54])∧Wts b v w'):=Lib.hid (fun x v hx hv hBv=>by subst hx;exact writeString_x B b A [92,117,48,48,49,54] v hv (by simp only [List.length_cons,List.length_nil];omega) hBv)
     have HN3:Hid (A++[92,117,48,48,49,54]=l++34::(s.take (m+1)).flatMap quoteC):=Lib.hid HN.out
     clear d HN
     go_wp2_with (go_at_call 87;((with_reducible refine (indexByte_any [34,92,8,9,10,12,13] _ _).mono ?_);rintro e w2 ⟨rfl,rfl⟩;rw [Hi.out]))
     go_region_with (go_at_call 62;(refine (HW.out _ _ (by first|rfl|exact ByteArray.ext (by decide)) (by first|exact HBd.out|exact HBd.out.drew|exact HBd.out.drewN _) (by exact hBr)).mono ?_;rintro e w3 ⟨rfl,h3,t3⟩))
     try go_wp2_with fail
     go_roundw
     case rel=>exact ⟨m+1,by omega,by simp,Lib.hid (by rw [← HN3.out];exact h3),ht.trans (Wts.drew t3)⟩
     case measure=>simp [intOf];omega
     all_goals exact ⟨⟨m+1,by omega,by simp,Lib.hid (by rw [← HN3.out];exact h3),ht.trans (Wts.drew t3)⟩,by simp [intOf];omega⟩
    ·have d':wr.cell? ⟨w1.heap.size,m,none⟩=some (.int .u8 23):=d
     have hb1:bits BinOp.and IntKind.u8 23 15=7:=by decide
     have hb2:IntKind.u8.wrap (7+1)=8:=by decide
     have Hi:Hid (Lib.indexByte [34,92,8,9,10,12,13] (((23:Int).toNat).toUInt8) = -1):=Lib.hid (by decide)
     have HW:Hid (∀ (x:ByteArray) (v:World),x=⟨#[92,117,48,48,49,55]⟩→Bd v B b A→B≤v.heap.size→Calls Tryz.prog 62 #[.pointer (some ⟨b,0,none⟩),.string x] v fun e w'=>e=.returned (.tuple #[.int .i64 6,.nilIface])∧Bd w' B b (A++[92,117,48,48,49,55])∧Wts b v w'):=Lib.hid (fun x v hx hv hBv=>by subst hx;exact writeString_x B b A [92,117,48,48,49,55] v hv (by simp only [List.length_cons,List.length_nil];omega) hBv)
     have HN3:Hid (A++[92,117,48,48,49,55]=l++34::(s.take (m+1)).flatMap quoteC):=Lib.hid HN.out
     clear d HN
     go_wp2_with (go_at_call 87;((with_reducible refine (indexByte_any [34,92,8,9,10,12,13] _ _).mono ?_);rintro e w2 ⟨rfl,rfl⟩;rw [Hi.out]))
     go_region_with (go_at_call 62;(refine (HW.out _ _ (by first|rfl|exact ByteArray.ext (by decide)) (by first|exact HBd.out|exact HBd.out.drew|exact HBd.out.drewN _) (by exact hBr)).mono ?_;rintro e w3 ⟨rfl,h3,t3⟩))
     try go_wp2_with fail
     go_roundw
     case rel=>exact ⟨m+1,by omega,by simp,Lib.hid (by rw [← HN3.out];exact h3),ht.trans (Wts.drew t3)⟩
     case measure=>simp [intOf];omega
     all_goals exact ⟨⟨m+1,by omega,by simp,Lib.hid (by rw [← HN3.out];exact h3),ht.trans (Wts.drew t3)⟩,by simp [intOf];omega⟩
    ·have d':wr.cell? ⟨w1.heap.size,m,none⟩=some (.int .u8 24):=d
     have hb1:bits BinOp.and IntKind.u8 24 15=8:=by decide
     have hb2:IntKind.u8.wrap (8+1)=9:=by decide
     have Hi:Hid (Lib.indexByte [34,92,8,9,10,12,13] (((24:Int).toNat).toUInt8) = -1):=Lib.hid (by decide)
     have HW:Hid (∀ (x:ByteArray) (v:World),x=⟨#[92,117,48,48,49,56]⟩→Bd v B b A→B≤v.heap.size→Calls Tryz.prog 62 #[.pointer (some ⟨b,0,none⟩),.string x] v fun e w'=>e=.returned (.tuple #[.int .i64 6,.nilIface])∧Bd w' B b (A++[92,117,48,48,49,56])∧Wts b v w'):=Lib.hid (fun x v hx hv hBv=>by subst hx;exact writeString_x B b A [92,117,48,48,49,56] v hv (by simp only [List.length_cons,List.length_nil];omega) hBv)
     have HN3:Hid (A++[92,117,48,48,49,56]=l++34::(s.take (m+1)).flatMap quoteC):=Lib.hid HN.out
     clear d HN
     go_wp2_with (go_at_call 87;((with_reducible refine (indexByte_any [34,92,8,9,10,12,13] _ _).mono ?_);rintro e w2 ⟨rfl,rfl⟩;rw [Hi.out]))
     go_region_with (go_at_call 62;(refine (HW.out _ _ (by first|rfl|exact ByteArray.ext (by decide)) (by first|exact HBd.out|exact HBd.out.drew|exact HBd.out.drewN _) (by exact hBr)).mono ?_;rintro e w3 ⟨rfl,h3,t3⟩))
     try go_wp2_with fail
     go_roundw
     case rel=>exact ⟨m+1,by omega,by simp,Lib.hid (by rw [← HN3.out];exact h3),ht.trans (Wts.drew t3)⟩
     case measure=>simp [intOf];omega
     all_goals exact ⟨⟨m+1,by omega,by simp,Lib.hid (by rw [← HN3.out];exact h3),ht.trans (Wts.drew t3)⟩,by simp [intOf];omega⟩
    ·have d':wr.cell? ⟨w1.heap.size,m,none⟩=some (.int .u8 25):=d
     have hb1:bits BinOp.and IntKind.u8 25 15=9:=by decide
     have hb2:IntKind.u8.wrap (9+1)=10:=by decide
     have Hi:Hid (Lib.indexByte [34,92,8,9,10,12,13] (((25:Int).toNat).toUInt8) = -1):=Lib.hid (by decide)
     have HW:Hid (∀ (x:ByteArray) (v:World),x=⟨#[92,117,48,48,49,57]⟩→Bd v B b A→B≤v.heap.size→Calls Tryz.prog 62 #[.pointer (some ⟨b,0,none⟩),.string x] v fun e w'=>e=.returned (.tuple #[.int .i64 6,.nilIface])∧Bd w' B b (A++[92,117,48,48,49,57])∧Wts b v w'):=Lib.hid (fun x v hx hv hBv=>by subst hx;exact writeString_x B b A [92,117,48,48,49,57] v hv (by simp only [List.length_cons,List.length_nil];omega) hBv)
     have HN3:Hid (A++[92,117,48,48,49,57]=l++34::(s.take (m+1)).flatMap quoteC):=Lib.hid HN.out
     clear d HN
     go_wp2_with (go_at_call 87;((with_reducible refine (indexByte_any [34,92,8,9,10,12,13] _ _).mono ?_);rintro e w2 ⟨rfl,rfl⟩;rw [Hi.out]))
     go_region_with (go_at_call 62;(refine (HW.out _ _ (by first|rfl|exact ByteArray.ext (by decide)) (by first|exact HBd.out|exact HBd.out.drew|exact HBd.out.drewN _) (by exact hBr)).mono ?_;rintro e w3 ⟨rfl,h3,t3⟩))
     try go_wp2_with fail
     go_roundw
     case rel=>exact ⟨m+1,by omega,by simp,Lib.hid (by rw [← HN3.out];exact h3),ht.trans (Wts.drew t3)⟩
     case measure=>simp [intOf];omega
     all_goals exact ⟨⟨m+1,by omega,by simp,Lib.hid (by rw [← HN3.out];exact h3),ht.trans (Wts.drew t3)⟩,by simp [intOf];omega⟩
    ·have d':wr.cell? ⟨w1.heap.size,m,none⟩=some (.int .u8 26):=d
     have hb1:bits BinOp.and IntKind.u8 26 15=10:=by decide
     have hb2:IntKind.u8.wrap (10+1)=11:=by decide
     have Hi:Hid (Lib.indexByte [34,92,8,9,10,12,13] (((26:Int).toNat).toUInt8) = -1):=Lib.hid (by decide)
     have HW:Hid (∀ (x:ByteArray) (v:World),x=⟨#[92,117,48,48,49,97]⟩→Bd v B b A→B≤v.heap.size→Calls Tryz.prog 62 #[.pointer (some ⟨b,0,none⟩),.string x] v fun e w'=>e=.returned (.tuple #[.int .i64 6,.nilIface])∧Bd w' B b (A++[92,117,48,48,49,97])∧Wts b v w'):=Lib.hid (fun x v hx hv hBv=>by subst hx;exact writeString_x B b A [92,117,48,48,49,97] v hv (by simp only [List.length_cons,List.length_nil];omega) hBv)
     have HN3:Hid (A++[92,117,48,48,49,97]=l++34::(s.take (m+1)).flatMap quoteC):=Lib.hid HN.out
     clear d HN
     go_wp2_with (go_at_call 87;((with_reducible refine (indexByte_any [34,92,8,9,10,12,13] _ _).mono ?_);rintro e w2 ⟨rfl,rfl⟩;rw [Hi.out]))
     go_region_with (go_at_call 62;(refine (HW.out _ _ (by first|rfl|exact ByteArray.ext (by decide)) (by first|exact HBd.out|exact HBd.out.drew|exact HBd.out.drewN _) (by exact hBr)).mono ?_;rintro e w3 ⟨rfl,h3,t3⟩))
     try go_wp2_with fail
     go_roundw
     case rel=>exact ⟨m+1,by omega,by simp,Lib.hid (by rw [← HN3.out];exact h3),ht.trans (Wts.drew t3)⟩
     case measure=>simp [intOf];omega
     all_goals exact ⟨⟨m+1,by omega,by simp,Lib.hid (by rw [← HN3.out];exact h3),ht.trans (Wts.drew t3)⟩,by simp [intOf];omega⟩
    ·have d':wr.cell? ⟨w1.heap.size,m,none⟩=some (.int .u8 27):=d
     have hb1:bits BinOp.and IntKind.u8 27 15=11:=by decide
     have hb2:IntKind.u8.wrap (11+1)=12:=by decide
     have Hi:Hid (Lib.indexByte [34,92,8,9,10,12,13] (((27:Int).toNat).toUInt8) = -1):=Lib.hid (by decide)
     have HW:Hid (∀ (x:ByteArray) (v:World),x=⟨#[92,117,48,48,49,98]⟩→Bd v B b A→B≤v.heap.size→Calls Tryz.prog 62 #[.pointer (some ⟨b,0,none⟩),.string x] v fun e w'=>e=.returned (.tuple #[.int .i64 6,.nilIface])∧Bd w' B b (A++[92,117,48,48,49,98])∧Wts b v w'):=Lib.hid (fun x v hx hv hBv=>by subst hx;exact writeString_x B b A [92,117,48,48,49,98] v hv (by simp only [List.length_cons,List.length_nil];omega) hBv)
     have HN3:Hid (A++[92,117,48,48,49,98]=l++34::(s.take (m+1)).flatMap quoteC):=Lib.hid HN.out
     clear d HN
     go_wp2_with (go_at_call 87;((with_reducible refine (indexByte_any [34,92,8,9,10,12,13] _ _).mono ?_);rintro e w2 ⟨rfl,rfl⟩;rw [Hi.out]))
     go_region_with (go_at_call 62;(refine (HW.out _ _ (by first|rfl|exact ByteArray.ext (by decide)) (by first|exact HBd.out|exact HBd.out.drew|exact HBd.out.drewN _) (by exact hBr)).mono ?_;rintro e w3 ⟨rfl,h3,t3⟩))
     try go_wp2_with fail
     go_roundw
     case rel=>exact ⟨m+1,by omega,by simp,Lib.hid (by rw [← HN3.out];exact h3),ht.trans (Wts.drew t3)⟩
     case measure=>simp [intOf];omega
     all_goals exact ⟨⟨m+1,by omega,by simp,Lib.hid (by rw [← HN3.out];exact h3),ht.trans (Wts.drew t3)⟩,by simp [intOf];omega⟩
    ·have d':wr.cell? ⟨w1.heap.size,m,none⟩=some (.int .u8 28):=d
     have hb1:bits BinOp.and IntKind.u8 28 15=12:=by decide
     have hb2:IntKind.u8.wrap (12+1)=13:=by decide
     have Hi:Hid (Lib.indexByte [34,92,8,9,10,12,13] (((28:Int).toNat).toUInt8) = -1):=Lib.hid (by decide)
     have HW:Hid (∀ (x:ByteArray) (v:World),x=⟨#[92,117,48,48,49,99]⟩→Bd v B b A→B≤v.heap.size→Calls Tryz.prog 62 #[.pointer (some ⟨b,0,none⟩),.string x] v fun e w'=>e=.returned (.tuple #[.int .i64 6,.nilIface])∧Bd w' B b (A++[92,117,48,48,49,99])∧Wts b v w'):=Lib.hid (fun x v hx hv hBv=>by subst hx;exact writeString_x B b A [92,117,48,48,49,99] v hv (by simp only [List.length_cons,List.length_nil];omega) hBv)
     have HN3:Hid (A++[92,117,48,48,49,99]=l++34::(s.take (m+1)).flatMap quoteC):=Lib.hid HN.out
     clear d HN
     go_wp2_with (go_at_call 87;((with_reducible refine (indexByte_any [34,92,8,9,10,12,13] _ _).mono ?_);rintro e w2 ⟨rfl,rfl⟩;rw [Hi.out]))
     go_region_with (go_at_call 62;(refine (HW.out _ _ (by first|rfl|exact ByteArray.ext (by decide)) (by first|exact HBd.out|exact HBd.out.drew|exact HBd.out.drewN _) (by exact hBr)).mono ?_;rintro e w3 ⟨rfl,h3,t3⟩))
     try go_wp2_with fail
     go_roundw
     case rel=>exact ⟨m+1,by omega,by simp,Lib.hid (by rw [← HN3.out];exact h3),ht.trans (Wts.drew t3)⟩
     case measure=>simp [intOf];omega
     all_goals exact ⟨⟨m+1,by omega,by simp,Lib.hid (by rw [← HN3.out];exact h3),ht.trans (Wts.drew t3)⟩,by simp [intOf];omega⟩
    ·have d':wr.cell? ⟨w1.heap.size,m,none⟩=some (.int .u8 29):=d
     have hb1:bits BinOp.and IntKind.u8 29 15=13:=by decide
     have hb2:IntKind.u8.wrap (13+1)=14:=by decide
     have Hi:Hid (Lib.indexByte [34,92,8,9,10,12,13] (((29:Int).toNat).toUInt8) = -1):=Lib.hid (by decide)
     have HW:Hid (∀ (x:ByteArray) (v:World),x=⟨#[92,117,48,48,49,100]⟩→Bd v B b A→B≤v.heap.size→Calls Tryz.prog 62 #[.pointer (some ⟨b,0,none⟩),.string x] v fun e w'=>e=.returned (.tuple #[.int .i64 6,.nilIface])∧Bd w' B b (A++[92,117,48,48,49,100])∧Wts b v w'):=Lib.hid (fun x v hx hv hBv=>by subst hx;exact writeString_x B b A [92,117,48,48,49,100] v hv (by simp only [List.length_cons,List.length_nil];omega) hBv)
     have HN3:Hid (A++[92,117,48,48,49,100]=l++34::(s.take (m+1)).flatMap quoteC):=Lib.hid HN.out
     clear d HN
     go_wp2_with (go_at_call 87;((with_reducible refine (indexByte_any [34,92,8,9,10,12,13] _ _).mono ?_);rintro e w2 ⟨rfl,rfl⟩;rw [Hi.out]))
     go_region_with (go_at_call 62;(refine (HW.out _ _ (by first|rfl|exact ByteArray.ext (by decide)) (by first|exact HBd.out|exact HBd.out.drew|exact HBd.out.drewN _) (by exact hBr)).mono ?_;rintro e w3 ⟨rfl,h3,t3⟩))
     try go_wp2_with fail
     go_roundw
     case rel=>exact ⟨m+1,by omega,by simp,Lib.hid (by rw [← HN3.out];exact h3),ht.trans (Wts.drew t3)⟩
     case measure=>simp [intOf];omega
     all_goals exact ⟨⟨m+1,by omega,by simp,Lib.hid (by rw [← HN3.out];exact h3),ht.trans (Wts.drew t3)⟩,by simp [intOf];omega⟩
    ·have d':wr.cell? ⟨w1.heap.size,m,none⟩=some (.int .u8 30):=d
     have hb1:bits BinOp.and IntKind.u8 30 15=14:=by decide
     have hb2:IntKind.u8.wrap (14+1)=15:=by decide
     have Hi:Hid (Lib.indexByte [34,92,8,9,10,12,13] (((30:Int).toNat).toUInt8) = -1):=Lib.hid (by decide)
     have HW:Hid (∀ (x:ByteArray) (v:World),x=⟨#[92,117,48,48,49,101]⟩→Bd v B b A→B≤v.heap.size→Calls Tryz.prog 62 #[.pointer (some ⟨b,0,none⟩),.string x] v fun e w'=>e=.returned (.tuple #[.int .i64 6,.nilIface])∧Bd w' B b (A++[92,117,48,48,49,101])∧Wts b v w'):=Lib.hid (fun x v hx hv hBv=>by subst hx;exact writeString_x B b A [92,117,48,48,49,101] v hv (by simp only [List.length_cons,List.length_nil];omega) hBv)
     have HN3:Hid (A++[92,117,48,48,49,101]=l++34::(s.take (m+1)).flatMap quoteC):=Lib.hid HN.out
     clear d HN
     go_wp2_with (go_at_call 87;((with_reducible refine (indexByte_any [34,92,8,9,10,12,13] _ _).mono ?_);rintro e w2 ⟨rfl,rfl⟩;rw [Hi.out]))
     go_region_with (go_at_call 62;(refine (HW.out _ _ (by first|rfl|exact ByteArray.ext (by decide)) (by first|exact HBd.out|exact HBd.out.drew|exact HBd.out.drewN _) (by exact hBr)).mono ?_;rintro e w3 ⟨rfl,h3,t3⟩))
     try go_wp2_with fail
     go_roundw
     case rel=>exact ⟨m+1,by omega,by simp,Lib.hid (by rw [← HN3.out];exact h3),ht.trans (Wts.drew t3)⟩
     case measure=>simp [intOf];omega
     all_goals exact ⟨⟨m+1,by omega,by simp,Lib.hid (by rw [← HN3.out];exact h3),ht.trans (Wts.drew t3)⟩,by simp [intOf];omega⟩
    ·have d':wr.cell? ⟨w1.heap.size,m,none⟩=some (.int .u8 31):=d
     have hb1:bits BinOp.and IntKind.u8 31 15=15:=by decide
     have hb2:IntKind.u8.wrap (15+1)=16:=by decide
     have Hi:Hid (Lib.indexByte [34,92,8,9,10,12,13] (((31:Int).toNat).toUInt8) = -1):=Lib.hid (by decide)
     have HW:Hid (∀ (x:ByteArray) (v:World),x=⟨#[92,117,48,48,49,102]⟩→Bd v B b A→B≤v.heap.size→Calls Tryz.prog 62 #[.pointer (some ⟨b,0,none⟩),.string x] v fun e w'=>e=.returned (.tuple #[.int .i64 6,.nilIface])∧Bd w' B b (A++[92,117,48,48,49,102])∧Wts b v w'):=Lib.hid (fun x v hx hv hBv=>by subst hx;exact writeString_x B b A [92,117,48,48,49,102] v hv (by simp only [List.length_cons,List.length_nil];omega) hBv)
     have HN3:Hid (A++[92,117,48,48,49,102]=l++34::(s.take (m+1)).flatMap quoteC):=Lib.hid HN.out
     clear d HN
     go_wp2_with (go_at_call 87;((with_reducible refine (indexByte_any [34,92,8,9,10,12,13] _ _).mono ?_);rintro e w2 ⟨rfl,rfl⟩;rw [Hi.out]))
     go_region_with (go_at_call 62;(refine (HW.out _ _ (by first|rfl|exact ByteArray.ext (by decide)) (by first|exact HBd.out|exact HBd.out.drew|exact HBd.out.drewN _) (by exact hBr)).mono ?_;rintro e w3 ⟨rfl,h3,t3⟩))
     try go_wp2_with fail
     go_roundw
     case rel=>exact ⟨m+1,by omega,by simp,Lib.hid (by rw [← HN3.out];exact h3),ht.trans (Wts.drew t3)⟩
     case measure=>simp [intOf];omega
     all_goals exact ⟨⟨m+1,by omega,by simp,Lib.hid (by rw [← HN3.out];exact h3),ht.trans (Wts.drew t3)⟩,by simp [intOf];omega⟩
   ·have h32':¬ ((c.toNat:Int)<32):=by omega
    have Hi:=Lib.hid hi
    have HW:Hid (Calls Tryz.prog 102 #[.pointer (some ⟨b,0,none⟩),.int .u8 (c.toNat:Int)] wr fun e w'=>e=.returned .nilIface∧Bd w' B b (A++[c])∧Wts b wr w'):=Lib.hid (writeByte_x B b A c wr HBd.out (by omega) hBr)
    have HN2:=HN.out
    rw [hqc] at HN2
    have HN3:=Lib.hid HN2
    clear hi HN2 hqc
    go_wp2_with (first|(go_at_call 87;((with_reducible refine (indexByte_any [34,92,8,9,10,12,13] _ _).mono ?_);rintro e w2 ⟨rfl,rfl⟩;simp only [Int.toNat_natCast,Nat.toUInt8_eq,UInt8.ofNat_toNat];rw [Hi.out]))|(go_at_call 102;((with_reducible refine HW.out.mono ?_);rintro e w3 ⟨rfl,h3,t3⟩)))
    go_roundw
    case rel=>exact ⟨m+1,by omega,by simp,Lib.hid (by rw [← HN3.out];exact h3),ht.trans t3⟩
    case measure=>simp [intOf];omega
  ·obtain rfl:m=s.length:=by omega
   have hBr:B≤wr.heap.size:=by have a:=t1.fr.size;have b:=f2.size;have c:=ht.fr.size;omega
   have HW:Hid (Calls Tryz.prog 102 #[.pointer (some ⟨b,0,none⟩),.int .u8 34] wr fun e w'=>e=.returned .nilIface∧Bd w' B b ((l++34::(s.take s.length).flatMap quoteC)++[34])∧Wts b wr w'):=Lib.hid (writeByte_x B b _ 34 wr HBd.out (by have:=flat_len (s.take s.length);simp only [List.length_append,List.length_cons,List.length_take] at this ⊢;omega) hBr)
   go_wp2_with (go_at_call 102;((with_reducible refine HW.out.mono ?_);rintro e w3 ⟨rfl,h3,t3⟩))
   go_end0
   exact ⟨rfl,by simpa [quoteP] using h3,(t1.trans ((Wts.refl b w1).noB f2 H1.out.lt)).trans (ht.trans t3)⟩
end Go.Proofs.YtbifjamddbpcjaaGreatDoor
