/- JSON as the document has it, on lists of bytes: reading. Plain definitions and lemmas, no program. -/
import Derived.Lib.ValidLaws
import Derived.Lib.RuneBytes
import Derived.Lib.SlTrimSet
import Derived.Lib.AtoiAll
import Derived.Lib.ItoaNum
namespace Go.Proofs.YtbifjamddbpcjaaGreatDoor
abbrev Bs:=List UInt8
inductive Jv where
 | mk (kind int:Int) (text:Bs) (list:List Jv) (keys:List Bs)
def Jv.kind:Jv→Int | .mk k _ _ _ _=>k
def Jv.int:Jv→Int | .mk _ i _ _ _=>i
def Jv.text:Jv→Bs | .mk _ _ t _ _=>t
def Jv.list:Jv→List Jv | .mk _ _ _ l _=>l
def Jv.keys:Jv→List Bs | .mk _ _ _ _ k=>k
def Jv.nul:Jv:=.mk 0 0 [] [] []
def blankCs:Bs:=[32,9,10,13]
def blanks (s:Bs):Bs:=Lib.trimLeftS s blankCs
def takeP (part s:Bs):Option Bs:=if part <+: s then some (blanks (s.drop part.length)) else none
def hexV (c:UInt8):Nat:=
 if 48≤c.toNat∧c.toNat≤57 then c.toNat - 48 else if 97≤c.toNat∧c.toNat≤102 then c.toNat - 87 else if 65≤c.toNat∧c.toNat≤70 then c.toNat - 55 else 16
def unitP:Bs→Option (Nat×Bs)
 | x::y::a::b::c::d::r=>
  if x=92∧y=117∧hexV a<16∧hexV b<16∧hexV c<16∧hexV d<16 then some (4096*hexV a+256*hexV b+16*hexV c+hexV d,r) else none
 | _=>none
def escV (c:UInt8):UInt8:=
 if c=34 then 34 else if c=92 then 92 else if c=47 then 47 else if c=98 then 8 else if c=102 then 12 else if c=110 then 10 else if c=114 then 13 else if c=116 then 9 else 0
def escU (s:Bs):Option (Bs×Bs):=
 match unitP s with
 | none=>none
 | some (n,r)=>
  if 0xd800≤n∧n≤0xdbff then
   match unitP r with
   | none=>none
   | some (m,r2)=>if 0xdc00≤m∧m≤0xdfff then some (Lib.encodeRune ((0x10000+(n - 0xd800)*0x400+(m - 0xdc00):Nat):Int),r2) else none
  else if 0xdc00≤n∧n≤0xdfff then none
  else some (Lib.encodeRune (n:Int),r)
def escP (s:Bs):Option (Bs×Bs):=
 match s with
 | _::c::r=>if escV c≠0 then some ([escV c],r) else escU s
 | _=>none
def strP:Nat→Bs→Bs→Option (Bs×Bs)
 | 0,_,_=>none
 | f+1,s,acc=>
  match s with
  | []=>none
  | c::r=>
   if c<32 then none
   else if c=34 then (if Lib.validD acc then some (acc,blanks r) else none)
   else if c=92 then (match escP s with|none=>none|some (b,r')=>strP f r' (acc++b))
   else strP f r (acc++[c])
def textP (s:Bs):Option (Bs×Bs):=
 match s with
 | []=>none
 | c::r=>if c=34 then strP (s.length) r [] else none
def isDig (c:UInt8):Bool:=48≤c&&c≤57
def digs (s:Bs):Nat:=(s.takeWhile isDig).length
def fracP (s:Bs):Nat:=
 match s with
 | []=>0
 | c::r=>if c=46∧0<digs r then 1+digs r else 0
def signP (s:Bs):Nat:=
 match s with
 | []=>0
 | c::_=>if c=43∨c=45 then 1 else 0
def expP (s:Bs):Nat:=
 match s with
 | []=>0
 | c::r=>if (c=101∨c=69)∧0<digs (r.drop (signP r)) then 1+signP r+digs (r.drop (signP r)) else 0
def minusP (s:Bs):Nat:=if s.head?=some 45 then 1 else 0
def wholeP (s:Bs):Nat:=if s.head?=some 48 then 1 else digs s
def numP (s:Bs):Nat:=
 let i:=minusP s
 let n:=wholeP (s.drop i)
 if n=0 then 0 else
  let j:=i+n
  let k:=j+fracP (s.drop j)
  k+expP (s.drop k)
def maxInt:Int:=9007199254740991
def exactP (s:Bs):Option Int:=
 match Lib.atoiAll s with
 | .ok n=>if Lib.itoa n=s∧n≤maxInt ∧ -maxInt≤n then some n else none
 | _=>none
abbrev Pr:=Except Nat (Jv×Bs)
def keyP (obj:Bool) (s:Bs) (ks:List Bs):Except Nat (List Bs×Bs):=
 if obj then
  match textP s with
  | none=>.error 90
  | some (key,s1)=>
   if ks.contains key then .error 94
   else
    match takeP [58] s1 with
    | none=>.error 90
    | some s2=>.ok (ks++[key],s2)
 else .ok (ks,s)
def itemsP (val:Bs→Pr) (obj:Bool) (close:UInt8):Nat→Bs→List Jv→List Bs→Pr
 | 0,_,_,_=>.error 90
 | f+1,s,l,ks=>
  match keyP obj s ks with
  | .error e=>.error e
  | .ok (ks',s2)=>
   match val s2 with
   | .error e=>.error e
   | .ok (v,s3)=>
    match takeP [close] s3 with
    | some s4=>.ok (.mk (if obj then 6 else 5) 0 [] (l++[v]) ks',s4)
    | none=>
     match takeP [44] s3 with
     | none=>.error 90
     | some s4=>itemsP val obj close f s4 (l++[v]) ks'
def nestP (val:Bs→Pr) (obj:Bool) (close:UInt8) (s:Bs):Pr:=
 match takeP [close] s with
 | some s1=>.ok (.mk (if obj then 6 else 5) 0 [] [] [],s1)
 | none=>itemsP val obj close (s.length+1) s [] []
def wNull:Bs:=[110,117,108,108]
def wFalse:Bs:=[102,97,108,115,101]
def wTrue:Bs:=[116,114,117,101]
def wordP (s:Bs):Pr:=
 match takeP wNull s with
 | some r=>.ok (.mk 0 0 [] [] [],r)
 | none=>match takeP wFalse s with
  | some r=>.ok (.mk 1 0 [] [] [],r)
  | none=>match takeP wTrue s with
   | some r=>.ok (.mk 2 0 [] [] [],r)
   | none=>if numP s=0 then .error 90 else
    match exactP (s.take (numP s)) with
    | none=>.error 95
    | some n=>.ok (.mk 3 n [] [] [],blanks (s.drop (numP s)))
def valueP:Nat→Bs→Pr
 | d,s=>
  match s.head? with
  | some 34=>(match textP s with|none=>.error 90|some (t,r)=>.ok (.mk 4 0 t [] [],r))
  | some 91=>(match d with|0=>.error 91|d+1=>nestP (valueP d) false 93 (blanks (s.drop 1)))
  | some 123=>(match d with|0=>.error 91|d+1=>nestP (valueP d) true 125 (blanks (s.drop 1)))
  | _=>wordP s
def parseP (s:Bs):Except Nat Jv:=
 if 65536<s.length then .error 92 else
 match valueP 32 (blanks s) with
 | .error e=>.error e
 | .ok (v,r)=>if r=[] then .ok v else .error 90
end Go.Proofs.YtbifjamddbpcjaaGreatDoor
