/- The document's Sum by a kind's number; JwkTells: the walk, whole. -/
import Derived.Test.YtbifjamddbpcjaaGreatDoorTk
import Derived.Test.YtbifjamddbpcjaaGreatDoorSj
namespace Go.Proofs.YtbifjamddbpcjaaGreatDoor
set_option maxRecDepth 100000
set_option maxHeartbeats 25600000
open Go.RowKit
theorem G5 (s:Bs) (w:World) (hs:s.length<1099511627776) :
  Calls Tryz.prog 33 #[.int .i64 0,.string ⟨s.toArray⟩] w fun e w'=>e=.returned (.tuple #[.string ⟨(eP s).toArray⟩,.int .i64 0])/\Fr NoB w w':=by
 have HO:=hd' (Lf w);obtain ⟨res,aH⟩:∃ r,r=eP s:=⟨_,rfl⟩;rw [<- aH];have bV:=hd' aH;clear aH;go_enter Tryz.func33,Tryz.ntmps33;go_upto_region 1 with fail;go_upto_region 2 with (first|(go_at_call 66;((with_reducible refine HO.out.mono ?_);rintro er w1 ⟨vK,vF,rfl,hK,hF,f1⟩;have hoK:=jJ hK;have hoF:=jJ hF;have dw:((kndC vK vF).all (·.oneCell'))=true:=(by simp [hoK,hoF,show ∀ n,(Value.int .i64 n).oneCell'=true from fun _=>rfl]);have n1:=Blk.new w1 104 Ay))|(refine wpList_store_row rfl 104 _ _ rfl w1.heap.size (kndC vK vF) rfl rfl 104 _ n1 jY rfl dw ?_));have b1:Blk ((w1.alloc (.cells Ay 104)).setRow w1.heap.size (kndC vK vF)) w1.heap.size 104 (kndC vK vF):=n1.setRow _;have f2:Fr NoB w1 ((w1.alloc (.cells Ay 104)).setRow w1.heap.size (kndC vK vF)):=((Fr.refl _ w1).alloc _).setRow w1.heap.size _ (Or.inl (Nat.le_refl _));have HS:=hd' (C0 vK vF s w.heap.size _ (hK.fr f2) (hF.fr f2) hs);clear n1 dw hK hF;generalize (w1.alloc (.cells Ay 104)).setRow w1.heap.size (kndC vK vF)=W2 at *;go_wp2_with (first|(refine wpList_load_row rfl 104 _ rfl w1.heap.size rfl 104 _ _ _ b1 Tryz.underlying104 rfl jY ?_)|(go_at_call 67;((with_reducible refine HS.out.mono ?_);rintro er w3 ⟨rfl,f3⟩)));go_ret2;exact ⟨by rw [bV.out];rfl,f1.trans (f2.trans f3)⟩
theorem xF {B:Nat} (k:Ky) (w:World) (hx:Cx B w) (hi:IntOk k.kty) (hz:yC k<=1048576) :
  Calls Tryz.prog 3 #[.agg (aR k)] w fun e w'=>e=.returned (.bool true)/\Fr NoB w w':=AA k w hx hi hz G5
end Go.Proofs.YtbifjamddbpcjaaGreatDoor
