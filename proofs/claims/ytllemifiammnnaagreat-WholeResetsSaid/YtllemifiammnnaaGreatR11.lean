/- Part 11 of the proof. No condition. -/
import Derived.OrdersHeld
import Derived.Test.YtllemifiammnnaaGreatR03
import Derived.Test.YtllemifiammnnaaGreatR10
import Derived.Test.YtllemifiammnnaaGreatR06
import Derived.Test.YtllemifiammnnaaGreatR08
import Derived.Test.YtllemifiammnnaaGreatR09
set_option linter.unusedVariables false
set_option linter.unusedSimpArgs false
set_option maxRecDepth 100000
set_option maxHeartbeats 4000000
namespace Go.Proofs.YtllemifiammnnaaGreat
section
namespace W
def firstI(p:Nat→Bool)(n:Nat):Int:=match (List.range n).find? p with|some i=>i|none=>-1
theorem firstI_hit{p:Nat→Bool}{n k:Nat}(h:∀ j,j<k→p j=false)(hk:k<n)(hp:p k=true):firstI p n=k:=by
 have e:(List.range n).find? p=some k:=by
  rw [List.find?_range_eq_some]
  exact⟨hp,List.mem_range.2 hk,fun j hj=>by simp [h j hj]⟩
 unfold firstI;rw [e]
theorem firstI_none{p:Nat→Bool}{n:Nat}(h:∀ j,j<n→p j=false):firstI p n=-1:=by
 have e:(List.range n).find? p=none:=by
  rw [List.find?_range_eq_none]
  exact fun j hj=>by simp [h j hj]
 unfold firstI;rw [e]
def allB(p:Nat→Bool)(n:Nat):Bool:=(List.range n).all p
theorem allB_yes{p:Nat→Bool}{n:Nat}(h:∀ j,j<n→p j=true):allB p n=true:=by
 unfold allB;rw [List.all_eq_true];exact fun j hj=>h j (List.mem_range.1 hj)
theorem allB_no{p:Nat→Bool}{n k:Nat}(hk:k<n)(hp:p k=false):allB p n=false:=by
 unfold allB;rw [List.all_eq_false];exact⟨k,List.mem_range.2 hk,by simp [hp]⟩
theorem allB_at{p:Nat→Bool}{n:Nat}(h:allB p n=true)(k:Nat)(hk:k<n):p k=true:=by
 unfold allB at h;exact List.all_eq_true.1 h k (List.mem_range.2 hk)
theorem all_step{p:Nat→Bool}{k:Nat}{b:Bool}(h:∀ j,j<k→p j=b)(hk:p k=b):∀ j,j<k+1→p j=b:=fun j hj=>by
 rcases Nat.lt_or_ge j k with h1|h1
 ·exact h j h1
 ·obtain rfl:j=k:=by omega
  exact hk
def far(x m:Int):Bool:=decide (x < -m∨m<x)
def down(a b:Int):Int:=a/b
def upR(a b:Int):Int:=-((-a)/b)
def Conf.errorR(c:Conf)(r:Int):Int:=c.radBase+(if r<0 then -r else r)*c.radPart/1048576
def deltaR(a b:Int):Int:=let d:=(b-a+65536)%65536;if 32768≤d then d-65536 else d
def radarR(c:Conf)(r:Int):Int×Int:=(r-c.errorR r,r+c.errorR r)
def tachoR(d lo hi pulses:Int):Int×Int:=(if d<1 then down ((d-1)*hi) pulses else down ((d-1)*lo) pulses,if d < -1 then upR ((d+1)*lo) pulses else upR ((d+1)*hi) pulses)
def pieceAt(l:List Piece)(i:Nat):Piece:=l.getD i default
def mayAt(l:List Piece)(length:Int)(i:Nat):Bool:=decide (-1048576≤(pieceAt l i).grade∧(pieceAt l i).grade≤1048576∧(pieceAt l i).from_<length∧(i=0∨(pieceAt l (i-1)).from_<(pieceAt l i).from_))
def may(l:List Piece)(length:Int):Bool:=decide (1≤l.length∧l.length≤64∧(pieceAt l 0).from_=0)&&allB (mayAt l length) l.length
def gradeAt(l:List Piece)(at_:Int):Nat→Int
 |0=>(pieceAt l 0).grade
 |k+1=>if (pieceAt l k).from_≤at_ then (pieceAt l k).grade else gradeAt l at_ k
def nextAt(s:Seg)(many:Int)(i:Nat):Bool:=decide (0≤s.next.getD i 0∧s.next.getD i 0<many)
def segMay(s:Seg)(many:Int):Bool:=decide (1≤s.length∧s.length≤1099511627776)&&may s.pieces s.length&&decide (s.next.length≤2)&&allB (nextAt s many) s.next.length&&decide (s.next.length<2∨s.next.getD 0 0<s.next.getD 1 0)
def Trk.sg(t:Trk)(i:Nat):Seg:=t.segs.getD i default
def Trk.gp(t:Trk)(i:Nat):Grp:=t.grps.getD i default
def lastId(t:Trk):Nat→Int
 |0=>0
 |k+1=>(t.gp k).id
def grpMay(t:Trk)(i:Nat):Bool :=
 decide (lastId t i<(t.gp i).id∧(t.gp i).id≤65535∧0≤(t.gp i).seg∧(t.gp i).seg<t.segs.length∧0≤(t.gp i).offset∧(t.gp i).offset≤t.len (t.gp i).seg∧0≤(t.gp i).acc∧(t.gp i).acc≤1048576∧0≤(t.gp i).slack∧(t.gp i).slack≤16777216)
def Trk.checkR(t:Trk):Int×Int :=
 if t.segs.length<1∨200<t.segs.length∨400<t.grps.length then (13,0) else
 if 0≤firstI (fun i=>!segMay (t.sg i) t.segs.length) t.segs.length then (11,firstI (fun i=>!segMay (t.sg i) t.segs.length) t.segs.length) else
 if 0≤firstI (fun i=>!grpMay t i) t.grps.length then (16,firstI (fun i=>!grpMay t i) t.grps.length) else (0,0)
def follows(t:Trk)(a b:Int):Bool:=decide (0≤a)&&decide (a<t.segs.length)&&(List.range (t.seg a).next.length).any fun i=>decide ((t.seg a).next.getD i 0=b)
def Conf.wrongR(c:Conf):Int :=
 if c.pulses<1∨1024<c.pulses then 1 else
 if c.circLo<131072∨8388608<c.circLo∨c.circHi<c.circLo∨8388608<c.circHi then 2 else
 if c.circLo<(c.circHi-c.circLo)*16 then 3 else
 if c.radBase<0∨1048576<c.radBase∨c.radPart<0∨65536<c.radPart then 4 else
 if c.accErr<0∨1048576<c.accErr then 5 else
 if c.maxSpeed<1∨16777216<c.maxSpeed∨c.maxAccel<1∨1048576<c.maxAccel then 6 else
 if 32000*c.circLo<c.maxSpeed*c.pulses then 7 else
 if c.antenna<0∨1048576<c.antenna then 8 else
 if c.still<1∨1000<c.still∨c.timeout<1∨1000<c.timeout then 9 else
 if c.stillSpeed<up c.circHi c.pulses∨c.stillSpeed<3*c.radBase∨16777216<c.stillSpeed then 10 else
 if c.roll<0∨1073741824<c.roll then 11 else
 if c.brake<1∨1048576<c.brake then 12 else 0
def fitAtR(c:Conf)(t:Trk)(i:Nat):Bool:=decide (c.reach (t.gp i)≤(t.gp i).offset∧c.reach (t.gp i)≤t.len (t.gp i).seg-(t.gp i).offset)
def fitsR(c:Conf)(t:Trk):Int×Int :=
 if c.wrongR≠0 then (50,0) else
 if t.checkR.1≠0 then (51,0) else
 if 0≤firstI (fun i=>!fitAtR c t i) t.grps.length then (11,firstI (fun i=>!fitAtR c t i) t.grps.length) else (0,0)
structure Tick where
 v:Int
 slip0:Int
 slip1:Int
 rad:Int
 acc:Int
 lost0:Int
 lost1:Int
 lost2:Int
 lost3:Int
 junk:List (List Nat)
 command:Int
deriving Inhabited
structure Read where
 cycle:Int
 index:Int
 group:Int
 point:Int
deriving Inhabited,DecidableEq
structure Script where
 route:List Int
 start:Int
 v0:Int
 circ0:Int
 circ1:Int
 phase0:Int
 phase1:Int
 ticks:List Tick
 reads:List Read
def Script.tick(s:Script)(k:Nat):Tick:=s.ticks.getD k default
def Script.read(s:Script)(k:Nat):Read:=s.reads.getD k default
def Script.place(s:Script):Nat→Int
 |0=>s.start
 |k+1=>s.place k+(s.tick k).v
def startOf(t:Trk)(route:List Int):Nat→Int
 |0=>0
 |k+1=>startOf t route k+t.len (route.getD k 0)
def findId(t:Trk)(id:Int):Int:=firstI (fun i=>decide ((t.gp i).id=id)) t.grps.length
def readIn(s:Script)(cycle:Int):Int:=firstI (fun i=>decide ((s.read i).cycle=cycle)) s.reads.length
def gradeHere(t:Trk)(route:List Int)(at_:Int)(i:Nat):Bool:=decide (at_<startOf t route (i+1)∨i+1=route.length)
def gradeOn(t:Trk)(route:List Int)(at_:Int):Int :=
 let i:=firstI (gradeHere t route at_) route.length
 if 0≤i then gradeAt (t.seg (route.getD i.toNat 0)).pieces (at_-startOf t route i.toNat) (t.seg (route.getD i.toNat 0)).pieces.length else 0
def nominal(t:Trk)(s:Script)(r:Read):Int×Bool :=
 if findId t r.group<0∨r.index<0∨(s.route.length:Int)≤r.index∨s.route.getD r.index.toNat 0≠(t.grp (findId t r.group)).seg then (0,false) else
 (startOf t s.route r.index.toNat+(t.grp (findId t r.group)).offset,true)
def Script.circ(s:Script)(i:Nat):Int:=if i=0 then s.circ0 else s.circ1
def Script.phase(s:Script)(i:Nat):Int:=if i=0 then s.phase0 else s.phase1
def Tick.slip(y:Tick)(i:Nat):Int:=if i=0 then y.slip0 else y.slip1
def Tick.lost(y:Tick)(i:Nat):Int:=if i=0 then y.lost0 else if i=1 then y.lost1 else if i=2 then y.lost2 else y.lost3
def Script.turned(s:Script)(pulses:Int)(i:Nat):Nat→Int
 |0=>s.phase i
 |k+1=>s.turned pulses i k+pulses*(s.tick k).v+(s.tick k).slip i
def Script.count(s:Script)(pulses:Int)(i k:Nat):Int:=down (s.turned pulses i k) (s.circ i)
def routeAt(t:Trk)(l:List Int)(i:Nat):Bool:=decide (0≤l.getD i 0∧l.getD i 0<t.segs.length)&&(decide (i=0)||follows t (l.getD (i-1) 0) (l.getD i 0))
def routeMay(t:Trk)(l:List Int):Bool:=decide (1≤l.length∧l.length≤400)&&allB (routeAt t l) l.length
def onAt(s:Script)(end_:Int)(i:Nat):Bool:=!far (s.tick i).v end_&&decide (0≤s.place (i+1)∧s.place (i+1)≤end_)
def onMay(t:Trk)(s:Script):Bool :=
 let e:=startOf t s.route s.route.length
 decide (s.ticks.length≤4096∧0≤s.start∧s.start≤e)&&allB (onAt s e) s.ticks.length
def Script.ahead(s:Script):Nat→Int
 |0=>s.v0
 |k+1=>(s.tick k).v
def speedAt(c:Conf)(s:Script)(i:Nat):Bool:=!far (s.tick i).v c.maxSpeed && !far ((s.tick i).v-s.ahead i) c.maxAccel
def speedsMay(c:Conf)(s:Script):Bool:=!far s.v0 c.maxSpeed&&allB (speedAt c s) s.ticks.length
def circMay(c:Conf)(x p:Int):Bool:=decide (c.circLo≤x∧x≤c.circHi∧0≤p∧p<x)
def tickMay(c:Conf)(y:Tick):Bool:=!far y.slip0 1099511627776 && !far y.slip1 1099511627776 && !far y.rad 1073741824 && !far y.acc c.accErr
def numbersMay(c:Conf)(s:Script):Int :=
 if !circMay c s.circ0 s.phase0 || !circMay c s.circ1 s.phase1 then 5 else
 if allB (fun i=>tickMay c (s.tick i)) s.ticks.length then 0 else 6
def fitS(s:Script)(i k:Nat):Bool:=!decide ((s.tick k).lost i=1)&&(decide (i=2)||(decide (0<k)&&decide ((s.tick (k-1)).lost i=0)))
def saysS(c:Conf)(s:Script)(i k:Nat):Int×Int :=
 if i=2 then radarR c ((s.tick k).v+(s.tick k).rad) else
 tachoR (deltaR (s.count c.pulses i k%65536) (s.count c.pulses i (k+1)%65536)) c.circLo c.circHi c.pulses
def wrongS(c:Conf)(s:Script)(i k:Nat):Bool:=if i=2 then far (s.tick k).rad (c.errorR ((s.tick k).v+(s.tick k).rad)) else decide ((s.tick k).slip i≠0)
def commonS(a b c:Int×Int):Bool:=decide (max a.1 (max b.1 c.1)≤min a.2 (min b.2 c.2))
def b2n(b:Bool):Nat:=if b then 1 else 0
def sensorsMay(c:Conf)(s:Script)(k:Nat):Bool :=
 let fit:=b2n (fitS s 0 k)+b2n (fitS s 1 k)+b2n (fitS s 2 k)
 let wrong:=b2n (fitS s 0 k&&wrongS c s 0 k)+b2n (fitS s 1 k&&wrongS c s 1 k)+b2n (fitS s 2 k&&wrongS c s 2 k)
 if wrong=0 then true else if 1<wrong∨fit<3 then false else !commonS (saysS c s 0 k) (saysS c s 1 k) (saysS c s 2 k)
def readMay(c:Conf)(t:Trk)(s:Script)(r:Read):Bool :=
 if (nominal t s r).2 then
  let a:=s.place r.cycle.toNat
  let b:=s.place (r.cycle+1).toNat
  let g:=t.grp (findId t r.group)
  decide (min a b≤r.point)&&decide (r.point≤max a b) && !far (r.point-(nominal t s r).1) (g.acc+c.antenna)
 else false
def readAt(c:Conf)(t:Trk)(s:Script)(i:Nat):Bool :=
 decide (0≤(s.read i).cycle∧(s.read i).cycle<s.ticks.length∧(i=0∨(s.read (i-1)).cycle<(s.read i).cycle))&&readMay c t s (s.read i)
def readsMay(c:Conf)(t:Trk)(s:Script):Bool:=allB (readAt c t s) s.reads.length
def junkText(k:Nat)(b:List Nat):Bool:=!(decide ((Fr.get b).err=0)&&decide ((Fr.get b).seq=(k%256:Nat)))
def junkAt(s:Script)(k:Nat):Bool:=decide ((s.tick k).junk.length≤27)&&allB (fun i=>junkText k ((s.tick k).junk.getD i [])) (s.tick k).junk.length
def junkMay(s:Script):Bool:=allB (junkAt s) s.ticks.length
def admits(c:Conf)(t:Trk)(s:Script):Int :=
 if (fitsR c t).1≠0 then 1 else
 if !routeMay t s.route then 2 else
 if !onMay t s then 3 else
 if !speedsMay c s then 4 else
 if numbersMay c s≠0 then numbersMay c s else
 if !allB (sensorsMay c s) s.ticks.length then 7 else
 if !readsMay c t s then 8 else
 if !junkMay s then 9 else 0
end W
end
namespace Y
open Go Go.RowKit Go.Sort
theorem tell_speed{n:W.Nav}{r r':W.Report}{f:W.Fused}(h:TellR n r f r'):r'.speed=f.speed∧r'.mode=n.watch.mode n.place.on f.fit f.conflict∧r'.circ0=n.circ0∧r'.circ1=n.circ1∧r'.dist=n.dist:=by
 obtain⟨pm,ov,rfl⟩:=h
 show (n.tell r f).speed=_∧(n.tell r f).mode=_∧(n.tell r f).circ0=_∧(n.tell r f).circ1=_∧(n.tell r f).dist=_
 unfold W.Nav.tell
 dsimp only
 split<;>exact⟨rfl,rfl,rfl,rfl,rfl⟩
theorem tell_place{n:W.Nav}{r r':W.Report}{f:W.Fused}(h:TellR n r f r')(hon:n.place.on=true):r'.group=(n.t.grp n.place.group).id∧r'.pos=n.place.pos:=by
 obtain⟨pm,ov,rfl⟩:=h
 show (n.tell r f).group=_∧(n.tell r f).pos=_
 unfold W.Nav.tell
 dsimp only
 rw [hon]
 exact⟨rfl,rfl⟩
theorem accept_place(n:W.Nav)(x:W.Found)(s:W.Sp):(n.accept x s).place=W.resetAt n.c (n.t.grp x.group) x.group s:=by
 unfold W.Nav.accept
 dsimp only
 obtain⟨c0,c1,e1,_⟩:=learn_keep { n with place:=W.resetAt n.c (n.t.grp x.group) x.group s } (x.at_.getD 0 0)
 rw [e1]
 split<;>rfl
theorem ended_failed{n:W.Nav}{f:W.Fused}{over acc cmd:Bool}(h:(ended n f over acc cmd).watch.failed=false):(ended n f over acc cmd).place=n.place:=by
 unfold ended rolled watched at h ⊢
 dsimp only at h ⊢
 split
 ·next hf=>rw [if_pos hf] at h;rw [hf] at h;cases h
 ·rfl
theorem resets{n n':W.Nav}{m:Ml.M}{c:Bool}{r:W.Report}(h:NavOk n)(hcy:n.cycle<100000)(hs:StepR n m c n' r)(ha:r.accepted=true)(hm:r.mode≠4) :
  ∃ i:Nat,i<n.t.grps.length∧(n.t.grps.getD i default).id=m.val 5∧m.has 5=true∧r.group=(n.t.grps.getD i default).id∧r.routes=[[(n.t.grps.getD i default).seg]] ∧
   r.pos=⟨-((n.t.grps.getD i default).acc+n.c.antenna)+min 0 r.speed.lo,(n.t.grps.getD i default).acc+n.c.antenna+max 0 r.speed.hi⟩∧SpeedB n.c r.speed:=by
 obtain⟨n2,over,x,hmv,hk,rfl,ht⟩:=hs
 have ha':x.accepted=true:=by rw [tell_acc ht] at ha;exact ha
 obtain⟨i,e1,e2,e3,e4⟩:=hk.grp ha'
 have hcc:n2.c=n.c∧n2.t=n.t:=by obtain⟨l,hl,rfl,rfl⟩:=hmv;exact⟨rfl,rfl⟩
 have hacc:accepted n2 x (sensed n m).2=n2.accept x (sensed n m).2.speed:=by unfold accepted;rw [ha'];rfl
 have hf:(ended (accepted n2 x (sensed n m).2) (sensed n m).2 over x.accepted c).watch.failed=false:=by
  cases hf:(ended (accepted n2 x (sensed n m).2) (sensed n m).2 over x.accepted c).watch.failed with
  |false=>rfl
  |true =>
   exfalso
   apply hm
   rw [(tell_speed ht).2.1]
   unfold W.Watch.mode
   rw [hf];rfl
 have hpl:=ended_failed hf
 rw [hacc,accept_place] at hpl
 rw [hacc] at ht
 have hon:(ended (n2.accept x (sensed n m).2.speed) (sensed n m).2 over x.accepted c).place.on=true:=by rw [hpl];rfl
 obtain⟨g1,g2⟩:=tell_place ht hon
 have g3:=tell_routes ht hon
 have g4:=(tell_speed ht).1
 rw [hpl] at g1 g2 g3
 have hts:(ended (n2.accept x (sensed n m).2.speed) (sensed n m).2 over x.accepted c).t=n2.t:=by
  rw [(ended_c _ _ _ _ _).2.1,← hacc,(accepted_c n2 x (sensed n m).2).2.1]
 have hgr:n2.t.grp x.group=n.t.grps.getD i default:=by rw [hcc.2,e1];rfl
 rw [hts] at g1
 rw [hgr,hcc.1] at g1 g2 g3
 have hgx:(W.resetAt n.c (n.t.grps.getD i default) x.group (sensed n m).2.speed).group=x.group:=rfl
 rw [hgx,hgr] at g1
 refine⟨i,by rw [← hcc.2];exact e2,by rw [← hcc.2];exact e3,e4,g1,g3.trans ?_,?_,?_⟩
 ·show [W.Rt.path ⟨1,W.zeros12.set 0 (n.t.grps.getD i default).seg⟩]=_
  rfl
 ·rw [g2,g4];rfl
 ·rw [g4];exact(h.sensed hcy).2
theorem takes_has(seq:Int)(j:Nat):∀ (ls:List (List Nat)) (m:Ml.M),(Ml.takes seq m ls).has j=true→(m.has j=true∧(Ml.takes seq m ls).val j=m.val j)∨∃ l∈ls,(Fr.get l).err=0∧(Fr.get l).seq=seq∧(Fr.get l).kind.toNat=j∧(Ml.takes seq m ls).val j=(Fr.get l).value
 |[],m,h=>.inl ⟨h,rfl⟩
 |l::ls,m,h=>by
  rw [Ml.takes_cons] at h ⊢
  rcases takes_has seq j ls _ h with ⟨h1,h2⟩|⟨l',h1,h2⟩
  ·rw [h2]
   unfold Ml.take at h1 ⊢
   split at h1
   ·next he=>rw [if_pos he];exact .inl ⟨h1,rfl⟩
   ·next he =>
    rw [if_neg he]
    split at h1
    ·next hs=>rw [if_pos hs];exact .inl ⟨h1,rfl⟩
    ·next hs =>
     rw [if_neg hs]
     split at h1
     ·next hh=>rw [if_pos hh];exact .inl ⟨h1,rfl⟩
     ·next hh =>
      rw [if_neg hh]
      unfold Ml.upd at h1 ⊢
      dsimp only at h1 ⊢
      by_cases e:j=(Fr.get l).kind.toNat
      ·rw [if_pos e]
       exact .inr ⟨l,List.mem_cons_self,by simpa using he,by simpa using hs,e.symm,rfl⟩
      ·rw [if_neg e] at h1 ⊢
       exact .inl ⟨h1,rfl⟩
  ·exact .inr ⟨l',List.mem_cons_of_mem _ h1,h2⟩
def okB(kind seq v:Int):Bool:=decide (0≤seq∧seq≤255)&&(if Fr.sz kind=4 then decide (-2147483648≤v∧v≤2147483647) else decide (0≤v∧v≤65535))
theorem okB_ok{kind seq v:Int}(h:okB kind seq v=true):Fr.ok kind seq v:=by
 unfold okB at h
 simp only [Bool.and_eq_true,decide_eq_true_eq] at h
 refine⟨h.1,fun e=>?_,fun e=>?_⟩
 ·rw [e,if_neg (by decide)] at h
  simpa using h.2
 ·rw [e,if_pos rfl] at h
  simpa using h.2
def sendB(kind seq v:Int):List (List Nat):=if Fr.sz kind≠0∧okB kind seq v=true then [Fr.bytes kind seq v] else []
theorem sendB_get{kind seq v:Int}{l:List Nat}(h:l∈sendB kind seq v):Fr.get l=⟨kind,seq,v,0⟩:=by
 unfold sendB at h
 split at h
 ·next h1 =>
  simp at h
  subst h
  exact Fr.get_bytes _ _ _ h1.1 (okB_ok h1.2)
 ·cases h
def sendR(s:W.Script)(k i:Nat):List (List Nat):=if (s.read i).cycle=(k:Int) then sendB 5 ((k%256:Nat):Int) (s.read i).group else []
def sentL(t:W.Trk)(pulses:Int)(s:W.Script)(k:Nat):List (List Nat) :=
 (s.tick k).junk++((if (s.tick k).lost 0=0 then sendB 1 ((k%256:Nat):Int) (s.count pulses 0 (k+1)%65536) else [])++((if (s.tick k).lost 1=0 then sendB 2 ((k%256:Nat):Int) (s.count pulses 1 (k+1)%65536) else []) ++
  ((if (s.tick k).lost 2=0 then sendB 3 ((k%256:Nat):Int) ((s.tick k).v+(s.tick k).rad) else [])++((if (s.tick k).lost 3=0 then sendB 4 ((k%256:Nat):Int) ((s.tick k).v-s.ahead k+W.gradeOn t s.route (s.place k)+(s.tick k).acc) else []) ++
   (List.range s.reads.length).flatMap (sendR s k)))))
theorem sent_five{t:W.Trk}{p:Int}{s:W.Script}{k:Nat}(hj:W.junkAt s k=true)(h:(Ml.sort (k:Int) (sentL t p s k)).has 5=true):∃ i,i<s.reads.length∧(s.read i).cycle=k∧(Ml.sort (k:Int) (sentL t p s k)).val 5=(s.read i).group:=by
 unfold Ml.sort at h ⊢
 rcases takes_has _ 5 _ _ h with ⟨h1,_⟩|⟨l,hl,h1,h2,h3,h4⟩
 ·cases h1
 ·have hl:=List.mem_of_mem_take hl
  have e256:((k:Int)%256)=((k%256:Nat):Int):=by omega
  rw [e256] at h2
  unfold sentL at hl
  simp only [List.mem_append] at hl
  have no:∀ (b:Prop) [Decidable b] (kind v:Int),kind.toNat≠5→l∈(if b then sendB kind ((k%256:Nat):Int) v else [])→False:=fun b _ kind v hk hm=>by
   split at hm
   ·rw [sendB_get hm] at h3;exact hk h3
   ·cases hm
  rcases hl with hl|hl|hl|hl|hl|hl
  ·exfalso
   unfold W.junkAt at hj
   simp only [Bool.and_eq_true] at hj
   obtain⟨q,hq,e⟩:=List.getElem_of_mem hl
   have:=W.allB_at hj.2 q hq
   have e2:(s.tick k).junk.getD q []=l:=by simp [List.getD,hq,e]
   rw [e2] at this
   unfold W.junkText at this
   simp [h1,h2] at this
  ·exact(no _ _ _ (by decide) hl).elim
  ·exact(no _ _ _ (by decide) hl).elim
  ·exact(no _ _ _ (by decide) hl).elim
  ·exact(no _ _ _ (by decide) hl).elim
  ·obtain⟨i,hi,hm⟩:=List.mem_flatMap.1 hl
   unfold sendR at hm
   split at hm
   ·next hc=>exact⟨i,List.mem_range.1 hi,hc,by rw [h4,sendB_get hm]⟩
   ·cases hm
def Hd(b:Nat)(vs:List Value)(w:World):Prop:=Rx w b 0 vs
def stepH(T:Tab)(tm:Tm)(o:Oper)(i0:Nat)(cs:List AV)(K:AV→Prop):Prop :=
 match o.op with
 |.move x=>ev tm x K
 |.assign x=>ev tm x K
 |.load t x=>match look T.tk t with
  |some k=>ev tm x fun
   |.own i off=>bif Nat.beq i i0 then dropK off cs fun cs=>ldK k cs fun v=>flat v=true∧K v else False
   |_=>False
  |none=>False
 |.nilCheck x=>ev tm x fun
  |.own i off=>K (.own i off)
  |_=>False
 |.fieldAddr s x f=>match (look T.fo s).bind (nth · f) with
  |some d=>ev tm x fun
   |.own i off=>lit (off+d.1) fun off=>K (.own i off)
   |_=>False
  |none=>False
 |.build t ⟨parts⟩=>match look T.zr t with
  |some z=>bif bldB T t then partsK tm (placeOf T t) parts (zAv z) fun z=>K (.agg z) else False
  |none=>False
 |_=>False
def WE(T:Tab)(N:Nat)(i0:Nat)(cs:List AV):List Oper→(Tm→Prop)→Tm→Prop
 |[],K,tm=>K tm
 |o::l,K,tm=>stepH T tm o i0 cs fun v=>put N tm o.dst v fun tm=>WE T N i0 cs l K tm
def WI(T:Tab)(P:Program)(N:Nat)(E:En)(all:List Oper)(p i0:Nat)(cs:List AV):OT→(Tm→Ow→Prop)→Tm→Ow→Prop
 |.done,K,tm,own=>K tm own
 |.go i t,K,tm,own=>match nth all i with
  |some o=>step T P N E o (fun tm own=>nth own i0=some (.blk cs)∧look tm p=some (.own i0 0)∧WI T P N E all p i0 cs t K tm own) tm own
  |none=>False
 |.alt a b,K,tm,own=>Both (WI T P N E all p i0 cs a K tm own) (WI T P N E all p i0 cs b K tm own)
def takeB(l:List Oper):List Nat→Array Bool→Bool
 |[],_=>true
 |k::ks,listed=>Region.free .any l.toArray listed k&&(Region.ready .any l.toArray listed).contains k&&takeB l ks (listed.setIfInBounds k true)
def listsB:List Nat→Array Bool→Array Bool
 |[],listed=>listed
 |k::ks,listed=>listsB ks (listed.setIfInBounds k true)
def heldB(l:List Oper)(p:Nat)(ke:List Nat)(t:OT)(m:Nat):Bool :=
 Region.noSelect l.toArray&&l.all (fun o=>(match o.dst with|some d=>!Nat.beq d p|none=>true)&&o.guard.isNone)&&ke.all (fun k=>decide (k<l.length))&&takeB l ke (Array.replicate l.length false) &&
 t.node l.toArray (listsB ke (Array.replicate l.length false))&&t.sub l.toArray (listsB ke (Array.replicate l.length false))&&t.len m
theorem stepH_sound{P:Program}{T:Tab}(hT:TabOk P T){o:Oper}{i0 b:Nat}{cs:List AV}{K:AV→Prop}{tm:Tm}(hf:flatL cs=true)(h:stepH T tm o i0 cs K) :
  ∃ v,K v∧∀ S n ids a,Sl S n ids tm a→nth ids i0=some (Loc.at_ b)→∃ V,R S n ids v V∧∀ w,Hd b (valL cs) w→(execOp a.eval o).run P w=.ok (.value V) w:=by
 unfold stepH at h
 split at h
 ·rename_i x ho
  obtain⟨v,h1,h2⟩:=ev_sound h
  exact⟨v,h1,fun S n ids a hs hi=>⟨_,h2 S n ids a hs,fun w hp=>by unfold execOp;simp only [ho];rfl⟩⟩
 ·rename_i x ho
  obtain⟨v,h1,h2⟩:=ev_sound h
  exact⟨v,h1,fun S n ids a hs hi=>⟨_,h2 S n ids a hs,fun w hp=>by unfold execOp;simp only [ho];rfl⟩⟩
 ·rename_i t x ho
  split at h
  ·rename_i k hk
   obtain⟨v,h1,h2⟩:=ev_sound h
   split at h1
   ·rename_i i off
    cases hq:Nat.beq i i0 with
    |false=>rw [hq] at h1;exact absurd h1 (by simp)
    |true =>
     rw [hq] at h1
     obtain rfl:=Nat.eq_of_beq_eq_true hq
     simp only [cond_true] at h1
     rw [dropK_iff] at h1
     obtain⟨hle,h1⟩:=h1
     obtain⟨v,⟨h6,h6'⟩,h7⟩:=ldK_sound (P:=P) hT hk h1
     refine⟨v,h6',fun S n ids a hs hi=>⟨val v,R_flat h6,fun w hw=>?_⟩⟩
     obtain⟨b',g1,g2⟩:=(h2 S n ids a hs).own
     obtain rfl:=Loc.at_inj (Option.some.inj (g1.symm.trans hi))
     have hcs:all2 (R1 S w ids) cs (valL cs):=(PL_iff.1 ((flatL_iff (S:=S) (w:=w) hf).2 rfl)).imp fun _ _ h=>P1_R1 h
     have hw':Rx w b' off ((valL cs).drop off):=by
      have:=Rx.sub (show Rx w b' 0 (valL cs) from hw) off
      simpa using this
     obtain⟨V,g6,g7⟩:=h7 S w ids b' off _ (hcs.drop off) hw'
     have hV:V=val v:=by
      have:=(R_pu (a:=v) (v:=V) (S:=S) (w:=w) (ids:=ids) (flat_pu h6)).1 g6
      exact(flat_iff h6).1 this
     subst hV
     unfold execOp
     simp only [ho,g2,Sem.run_bind,g7 w (Below.refl _ _)]
     rfl
   ·cases h1
  ·cases h
 ·rename_i x ho
  obtain⟨v,h1,h2⟩:=ev_sound h
  split at h1
  ·rename_i i off
   refine⟨_,h1,fun S n ids a hs hi=>?_⟩
   obtain⟨b',g1,g2⟩:=(h2 S n ids a hs).own
   exact⟨_,⟨b',g1,rfl⟩,fun w hp=>by unfold execOp;simp only [ho,g2];rfl⟩
  ·cases h1
 ·rename_i s x f ho
  split at h
  ·rename_i d hd
   obtain⟨v,h1,h2⟩:=ev_sound h
   split at h1
   ·rename_i i off
    rw [lit_iff] at h1
    refine⟨_,h1,fun S n ids a hs hi=>?_⟩
    obtain⟨b',g1,g2⟩:=(h2 S n ids a hs).own
    exact⟨_,⟨b',g1,rfl⟩,fun w hp=>by unfold execOp;simp only [ho,g2,Sem.run_bind,run_fieldAt hT hd];rfl⟩
   ·cases h1
  ·cases h
 ·rename_i t parts ho
  split at h
  ·rename_i z hz
   cases hb:bldB T t with
   |false=>rw [hb] at h;exact absurd h (by simp)
   |true =>
    rw [hb] at h
    obtain⟨z',h1,h2⟩:=partsK_sound (by simpa using h)
    refine⟨_,h1,fun S n ids a hs hi=>?_⟩
    obtain⟨zv',g1,g2⟩:=h2 S n ids a hs z ((PL_iff.1 (PL_av1 S n z)).imp fun _ _ h=>P1_R1 h)
    refine⟨.agg ⟨zv'⟩,⟨zv',rfl,g1⟩,fun w hp=>?_⟩
    have hbt:P.built t (parts.map fun p=>(p.1,a.eval p.2))=some ⟨zv'⟩:=placeOf_sound hT hz (fun place hp=>g2 place hp) hb
    unfold execOp
    simp only [ho]
    show Sem.run P (Functor.map Next.value (Instr.build t ((⟨parts⟩:Array (Nat×Operand)).map fun x=>(x.1,a.eval x.2)))) w=_
    have hr:=run_build (P:=P) w t (parts.map fun x=>(x.1,a.eval x.2)).toArray ⟨zv'⟩ (by simpa using hbt)
    simp [hr]
  ·cases h
 ·exact h.elim
theorem wp_slot{P:Program}{o:Oper}{a:Act}{w:World}{K:Act→World→Prop}{Q:Exit→Act→World→Prop}{p:Nat}(hd:o.dst≠some p)(h:o.wp P a w K Q):o.wp P a w (fun a' w'=>K a' w'∧a'.tmps[p]?=a.tmps[p]?) Q:=by
 have hput:∀ (a:Act) v,(a.put o.dst v).tmps[p]?=a.tmps[p]?:=fun a v=>by
  cases e:o.dst with
  |none=>rfl
  |some d =>
   have:d≠p:=fun e'=>hd (by rw [e,e'])
   simp only [Act.put]
   rw [Array.getElem?_setIfInBounds_ne this]
 unfold Oper.wp at *
 generalize (execOp a.eval o).run P w=r at *
 cases r with
 |ok n w' =>
  cases n<;>simp only [Oper.upon] at h ⊢
  case value u=>exact⟨h,hput _ _⟩
  case skip=>exact⟨h,hput _ _⟩
  case defer d=>exact⟨h,hput _ _⟩
  case enter f args =>
   refine Calls.mono h fun e w'' he=>?_
   cases e with
   |returned u=>exact⟨he,hput _ _⟩
   |panicked c=>exact he
   |outgrown=>exact he
  case row row args=>exact Rows.mono h fun u w'' he=>⟨he,hput _ _⟩
 |halt x w'=>cases x<;>exact h
theorem WI_head{T:Tab}{P:Program}{N:Nat}{E:En}{all:List Oper}{p i0:Nat}{cs:List AV}{K:Tm→Ow→Prop}{tm:Tm}{own:Ow}{listed:Array Bool}{n:Nat}:∀ {t:OT} {i:Nat},i∈t.heads→WI T P N E all p i0 cs t K tm own→t.sub all.toArray listed=true→t.len n=true→∃ t',WI T P N E all p i0 cs (.go i t') K tm own∧(OT.go i t').sub all.toArray listed=true∧(OT.go i t').len n=true
 |.done,i,h,_,_,_=>by simp [OT.heads] at h
 |.go j t,i,h,h1,h2,h3=>by
  simp only [OT.heads,List.mem_singleton] at h
  subst h
  exact⟨t,h1,h2,h3⟩
 |.alt a b,i,h,h1,h2,h3=>by
  simp only [OT.heads,List.mem_append] at h
  simp only [OT.sub,Bool.and_eq_true] at h2
  simp only [OT.len,Bool.and_eq_true] at h3
  rcases h with h|h
  ·exact WI_head h h1.1 h2.1 h3.1
  ·exact WI_head h h1.2 h2.2 h3.2
theorem WI_zero{T:Tab}{P:Program}{N:Nat}{E:En}{all:List Oper}{p i0:Nat}{cs:List AV}{K:Tm→Ow→Prop}{tm:Tm}{own:Ow}{listed:Array Bool}:∀ {t:OT},WI T P N E all p i0 cs t K tm own→t.sub all.toArray listed=true→t.len 0=true→K tm own∧(Region.ready .any all.toArray listed).isEmpty=true
 |.done,h1,h2,_=>⟨h1,h2⟩
 |.go j t,_,_,h3=>by simp [OT.len] at h3
 |.alt a b,h1,h2,h3=>by
  simp only [OT.sub,Bool.and_eq_true] at h2
  simp only [OT.len,Bool.and_eq_true] at h3
  exact WI_zero h1.1 h2.1 h3.1
theorem Sim.held{N:Nat}{E:En}{tm:Tm}{own:Ow}{S:Nat→Prop}{ids:List Loc}{a:Act}{w:World}{p i0 b:Nat}{cs:List AV}(hs:Sim N E tm own S ids a w)(hf:flatL cs=true)(ho:nth own i0=some (.blk cs))(hp:look tm p=some (.own i0 0))(hb:a.tmps[p]?=some (.pointer (some ⟨b,0,none⟩))):nth ids i0=some (Loc.at_ b)∧Hd b (valL cs) w:=by
 obtain⟨V0,e0,hV0⟩:=hs.sl p _ hp
 obtain⟨b',g1,rfl⟩:=hV0.own
 rw [hb] at e0
 obtain rfl:b=b':=by simpa using e0
 obtain⟨b2,vs,g3,g4,g5⟩:=hs.blk ho
 obtain rfl:=Loc.at_inj (Option.some.inj (g1.symm.trans g3))
 have hpu:puL cs=true:=flatL_pu hf
 have:vs=valL cs:=(flatL_iff hf).1 ((RL_pu hpu).1 (R1L_R g4))
 subst this
 have h:=Rx_of (o:=0) g5
 exact⟨g1,by simpa [Hd] using h⟩
theorem wpAnyH_tree{T:Tab}{P:Program}(hT:TabOk P T){N:Nat}{E:En}{all:List Oper}{K:Tm→Ow→Prop}{Q:Exit→Act→World→Prop}{p i0 b:Nat}{cs:List AV}(hf:flatL cs=true)(hall:∀ o∈all,o.dst≠some p∧o.guard=none)(hQ:∀ a n,After N E K a n→Q .normal a n) :
  ∀ (n:Nat) (t:OT) (listed:Array Bool) (tm:Tm) (own:Ow) (S:Nat→Prop) (ids:List Loc) (a:Act) (w:World),t.node all.toArray listed=true→t.sub all.toArray listed=true→t.len n=true→WI T P N E all p i0 cs t K tm own→Sim N E tm own S ids a w→a.tmps[p]?=some (.pointer (some ⟨b,0,none⟩))→wpAnyH P .any all.toArray Q (Hd b (valL cs)) n listed a w
 |0,t,listed,tm,own,S,ids,a,w,h1,h2,h3,h4,hs,hb=>by
  obtain⟨g1,g2⟩:=WI_zero h4 h2 h3
  exact⟨by simpa using g2,hQ _ _ ⟨tm,own,S,ids,g1,hs⟩⟩
 |n+1,t,listed,tm,own,S,ids,a,w,h1,h2,h3,h4,hs,hb=>by
  simp only [OT.node,OT.len_done h3,Bool.false_or,Bool.and_eq_true] at h1
  obtain⟨q1,q2⟩:=h1
  refine⟨fun h0=>by rw [h0] at q2;simp at q2,fun i hi=>?_⟩
  have hih:i∈t.heads:=by
   have:=List.all_eq_true.1 q1 i hi
   simpa using this
  obtain⟨t',g1,g2,g3⟩:=WI_head hih h4 h2 h3
  simp only [OT.sub,Bool.and_eq_true] at g2
  simp only [OT.len] at g3
  simp only [WI] at g1
  cases ho:nth all i with
  |none=>rw [ho] at g1;exact g1.elim
  |some o =>
   rw [ho] at g1
   have ho':all.toArray[i]?=some o:=by rw [nth_eq] at ho;simpa using ho
   have hom:o∈all:=by rw [nth_eq] at ho;exact List.mem_of_getElem? ho
   obtain⟨k1,k2⟩:=hall o hom
   unfold wpOp
   simp only [ho']
   rw [if_pos (by simp [Region.wanted,k2])]
   refine .inl (Oper.wp_mono (fun a' w' ⟨⟨tm',own',S',ids',⟨e1,e2,e3⟩,hs'⟩,e4⟩=>?_) (wp_slot k1 (step_sound hT g1 hs Q)))
   have hb':a'.tmps[p]?=some (.pointer (some ⟨b,0,none⟩)):=e4.trans hb
   exact⟨(Sim.held hs' hf e1 e2 hb').2,wpAnyH_tree hT hf hall hQ n t' _ tm' own' S' ids' a' w' g2.1 g2.2 g3 e3 hs' hb'⟩
theorem put_sound2{N:Nat}{tm:Tm}{dst:Option Nat}{v:AV}{K:Tm→Prop}(h:put N tm dst v K):∃ tm',K tm'∧(∀ q,dst≠some q→look tm' q=look tm q)∧∀ E own S ids a n V,Sim N E tm own S ids a n→R S n ids v V→Sim N E tm' own S ids (a.put dst V) n:=by
 cases dst with
 |none=>exact⟨tm,h,fun _ _=>rfl,fun E own S ids a n V hs _=>hs⟩
 |some d =>
  unfold put at h
  dsimp only at h
  cases e:Nat.ble (d+1) N with
  |false=>rw [e] at h;exact absurd h (by simp)
  |true =>
   rw [e] at h
   simp only [cond_true,fc_iff] at h
   have h2:put N tm (some d) v (fun t=>t=(d,v)::tm):=by
    unfold put
    dsimp only
    rw [e]
    simp only [cond_true,fc_iff]
   obtain⟨tm',e',h3⟩:=put_sound h2
   subst e'
   refine⟨_,h,fun q hq=>?_,h3⟩
   have hne:Nat.beq d q=false:=by
    cases hb:Nat.beq d q with
    |false=>rfl
    |true=>exact absurd (by rw [Nat.eq_of_beq_eq_true hb]) hq
   show look ((d,v)::tm) q=look tm q
   conv=>lhs;unfold look
   rw [hne];rfl
theorem wpAnyH_takes{T:Tab}{P:Program}(hT:TabOk P T){N:Nat}{E:En}{all:List Oper}{Kt:Tm→Prop}{Q:Exit→Act→World→Prop}{p i0 b:Nat}{cs:List AV}(hf:flatL cs=true)(hall:∀ o∈all,o.dst≠some p∧o.guard=none)(hsel:Region.noSelect all.toArray=true)(hpan:∀ c a d v w,Q (.panic c) (a.put (some d) v) w→Q (.panic c) a w){own:Ow}(ho:nth own i0=some (.blk cs))(m:Nat) :
  ∀ (ke:List Nat) (listed:Array Bool) (tm:Tm) (S:Nat→Prop) (ids:List Loc) (a:Act) (w:World),(∀ k∈ke,k<all.length)→takeB all ke listed=true→WE T N i0 cs (opsK all ke) Kt tm→look tm p=some (.own i0 0)→Sim N E tm own S ids a w→a.tmps[p]?=some (.pointer (some ⟨b,0,none⟩)) →
   (∀ tm S ids a,Kt tm→look tm p=some (.own i0 0)→Sim N E tm own S ids a w→a.tmps[p]?=some (.pointer (some ⟨b,0,none⟩))→wpAnyH P .any all.toArray Q (Hd b (valL cs)) m (listsB ke listed) a w)→wpAnyH P .any all.toArray Q (Hd b (valL cs)) (ke.length+m) listed a w
 |[],listed,tm,S,ids,a,w,_,_,h2,h3,h4,h5,h6=>by
  rw [List.length_nil,Nat.zero_add]
  exact h6 tm S ids a h2 h3 h4 h5
 |k::ke,listed,tm,S,ids,a,w,hk,h1,h2,h3,h4,h5,h6=>by
  have hkl:=hk k List.mem_cons_self
  have e:opsK all (k::ke)=all[k]::opsK all ke:=by
   unfold opsK
   rw [List.map_cons]
   congr 1
   simp [List.getD,hkl]
  rw [e] at h2
  simp only [WE] at h2
  generalize hoo:all[k]=o at h2
  have hom:o∈all:=by rw [← hoo];exact List.getElem_mem hkl
  have ho':all.toArray[k]?=some o:=by simp [hkl,hoo]
  obtain⟨k1,k2⟩:=hall o hom
  simp only [takeB,Bool.and_eq_true] at h1
  obtain⟨⟨b1,b2⟩,b3⟩:=h1
  obtain⟨v,g1,g2⟩:=stepH_sound (b:=b) hT hf h2
  obtain⟨q1,q2⟩:=Sim.held h4 hf ho h3 h5
  obtain⟨V,g3,g4⟩:=g2 S w ids a h4.sl q1
  obtain⟨tm',k3,k5,k4⟩:=put_sound2 g1
  have hs':=k4 E own S ids a w V h4 g3
  rw [List.length_cons,show ke.length+1+m=(ke.length+m)+1 by omega]
  have hpan':∀ c a w,Q (.panic c) (a.put o.dst V) w→Q (.panic c) a w:=fun c a w hq=>by
   cases ed:o.dst with
   |none=>rw [ed] at hq;exact hq
   |some d=>rw [ed] at hq;exact hpan c a d V w hq
  have hput:(a.put o.dst V).tmps[p]?=a.tmps[p]?:=by
   cases e:o.dst with
   |none=>rfl
   |some d =>
    have:d≠p:=fun e'=>k1 (by rw [e,e'])
    simp only [Act.put]
    rw [Array.getElem?_setIfInBounds_ne this]
  have hlk:look tm' p=some (.own i0 0):=(k5 p k1).trans h3
  refine wpAnyH_take (v:=V) ho' hsel b1 b2 hpan' (.inl ⟨by simp [Region.wanted,k2],g4⟩) q2 ?_
  exact wpAnyH_takes hT hf hall hsel hpan ho m ke _ tm' S ids _ w (fun x hx=>hk x (List.mem_cons_of_mem _ hx)) b3 k3 hlk hs' (hput.trans h5) h6
theorem Drw.held{T:Tab}{P:Program}(hT:TabOk P T){N:Nat}{E:En}{id:Nat}{l:List Oper}{K:Exit→Tm→Ow→Prop}{tm:Tm}{own:Ow}(p i0:Nat){cs:List AV}(ke:List Nat)(t:OT)(m:Nat)(hl:l.length=ke.length+m)(ho:nth own i0=some (.blk cs))(hf:flatL cs=true)(hp:look tm p=some (.own i0 0))(hB:heldB l p ke t m=true)
  (hk:opsC l ke fun le=>WE T N i0 cs le (fun tm=>WI T P N E l p i0 cs t (K .normal) tm own) tm):Drw T P N E (.region id ⟨l⟩ true) l K tm own:=by
 refine .sem ⟨fun S ids a w hs Q hQ hpan=>?_⟩
 simp only [heldB,Bool.and_eq_true] at hB
 obtain⟨⟨⟨⟨⟨⟨b1,b2⟩,b3⟩,b4⟩,b5⟩,b6⟩,b7⟩:=hB
 have hall:∀ o∈l,o.dst≠some p∧o.guard=none:=fun o hom=>by
  have:=List.all_eq_true.1 b2 o hom
  simp only [Bool.and_eq_true,Option.isNone_iff_eq_none] at this
  refine⟨fun e=>?_,this.2⟩
  have h1:=this.1
  rw [e] at h1
  dsimp only at h1
  have:Nat.beq p p=true:=Nat.beq_refl p
  rw [this] at h1
  cases h1
 have hke:∀ k∈ke,k<l.length:=fun k hk=>by simpa using List.all_eq_true.1 b3 k hk
 have hk1:=opsC_out hk
 obtain⟨V0,e0,hV0⟩:=hs.sl p _ hp
 obtain⟨b,g1,rfl⟩:=hV0.own
 have hp':Past w { w with drawn:=w.drawn+1 }:=Past.draw w
 refine wp_region_held (S:=Hd b (valL cs)) hT.mixed ?_
 have:=wpAnyH_takes (P:=P) (E:=E) (all:=l) (Q:=Q) (b:=b) hT hf hall b1 hpan ho m ke (Array.replicate l.length false) tm S ids a _ hke b4 hk1 hp (hs.past hp') e0 (fun tm' S' ids' a' h1 h2 h3 h4 =>
  wpAnyH_tree hT hf hall (fun a n h=>hQ .normal a n h) m t _ tm' own S' ids' a' _ b5 b6 b7 h1 h3 h4)
 rw [← hl] at this
 simpa using this
theorem Drw.join{T:Tab}{P:Program}(hT:TabOk P T){N:Nat}{E:En}{id:Nat}{l:List Oper}{K:Exit→Tm→Ow→Prop}{tm:Tm}{own:Ow}(tmJ:Tm)(ownJ:Ow)(h1:okT ownJ.length tmJ=true)(h2:okO ownJ.length ownJ=true)(h3:E.gs.length≤ownJ.length)(h:Drw T P N E (.region id ⟨l⟩ true) l (fun e tm own=>e=.normal∧Sub tmJ tm∧Pre ownJ own) tm own)(hK:K .normal tmJ ownJ):Drw T P N E (.region id ⟨l⟩ true) l K tm own:=by
 refine .sem ⟨fun S ids a n hs Q hQ hpan=>?_⟩
 exact WC_sound hT (.region id ⟨l⟩ true) (show WC T P N E _ _ tm own from h) (Q:=Q) ⟨fun e a n ⟨tm',own',S',ids',⟨he,h4,h5⟩,hs'⟩=>by
  subst he
  exact hQ _ _ _ ⟨tmJ,ownJ,S',_,hK,hs'.weak h4 h5 h1 h2 h3⟩,hpan⟩ hs
theorem wpAny_drawE2{P:Program}{N:Nat}{E:En}{all:List Oper}{ks:List Nat}{ia:Nat}{z:List Value}{tm tm':Tm}{own:Ow}{vs:List AV}{Q:Exit→Act→World→Prop}(hks:∀ k∈ks,k<all.length)(kc:List Nat)(hia:ia∈ks)(hTr:Tr (GoA P all own) N all (opsK all ks) tm vs tm')
  (hend:∀ J,J∈subl (ks.filter fun k=>!kc.contains k)→∀ S ids a n,Sim N E (dropT (dstK all J) tm') (if ia∈J then own else own++[.blk (zAv z)]) S ids a n→wpAny P .any all.toArray Q (J.length+(all.length-ks.length)) (listedK all.length (lateK ks J)) a n) {f:Nat}
  (listed:Array Bool) (a:Act) (n:World) (hinv:DInvA N E all ks ia (zAv z) tm own vs listed a n) (hf:(ks.filter fun j=>!listed.getD j false).length=f) (hdone:∀ j∈kc,listed.getD j false=true):wpAny P .any all.toArray Q (f+(all.length-ks.length)) listed a n:=by
 have hJ:(ks.filter fun j=>!listed.getD j false)∈subl (ks.filter fun k=>!kc.contains k):=by
  have e:(ks.filter fun j=>!listed.getD j false)=(ks.filter fun k=>!kc.contains k).filter fun j=>!listed.getD j false:=by
   rw [List.filter_filter]
   refine List.filter_congr fun j hj=>?_
   cases e1:listed.getD j false with
   |true=>simp
   |false =>
    have:¬ j∈kc:=fun h=>by rw [hdone j h] at e1;cases e1
    simp [this]
  rw [e]
  exact filter_subl _ _
 have hl:listed=listedK all.length (lateK ks (ks.filter fun j=>!listed.getD j false)):=by
  apply Array.ext
  ·rw [hinv.hi.size];simp [listedK]
  ·intro j h1 h2
   have e1:listed.getD j false=listed[j]:=by simp [Array.getD,h1]
   have e2:(listedK all.length (lateK ks (ks.filter fun j=>!listed.getD j false)))[j]=(lateK ks (ks.filter fun j=>!listed.getD j false)).contains j:=by simp [listedK]
   rw [e2,← e1,Bool.eq_iff_iff]
   simp only [lateK,List.contains_iff_mem,List.mem_filter,Bool.not_eq_eq_eq_not,Bool.not_true,List.contains_eq_mem,decide_eq_false_iff_not,not_and,decide_eq_true_eq]
   refine⟨fun h=>?_,fun ⟨h1,h2⟩=>?_⟩
   ·have hj:j∈ks:=by
     by_cases hj:j∈ks
     ·exact hj
     ·rw [hinv.out j hj] at h;cases h
    exact⟨hj,fun _=>by rw [h];simp⟩
   ·have:=h2 h1
    simpa using this
 have h:=hend _ hJ
 rw [← hl,hf] at h
 obtain⟨S,ids,h1,h2,h3⟩:=hinv.st
 have hcur:(if listed.getD ia false=true then own++[OB.blk (zAv z)] else own)=(if ia∈ks.filter (fun j=>!listed.getD j false) then own else own++[OB.blk (zAv z)]):=by
  by_cases hl:listed.getD ia false=true
  ·rw [if_pos hl,if_neg (by rw [List.mem_filter,hl];simp)]
  ·rw [if_neg hl,if_pos (List.mem_filter.2 ⟨hia,by simpa using hl⟩)]
 rw [hcur] at h1
 refine h S ids a n (h1.with fun t v hv=>?_)
 obtain⟨g1,g2⟩:=look_dropT hv
 rcases hTr.end_ t v g2 with ⟨p,oj,q1,q2,q3,q4,_⟩|⟨q1,q2⟩
 ·obtain⟨k,k1,k2⟩:=(opsK_get hks).1 q2
  refine h3 p k oj t v k1 ?_ k2 q3 q4
  cases e:listed.getD k false with
  |true=>rfl
  |false=>exact absurd (mem_dstK (List.mem_filter.2 ⟨List.mem_of_getElem? k1,by rw [e];rfl⟩) k2 q3) g1
 ·exact h2 t v q1 fun j oj hj hoj=>by
   obtain⟨p,hp,e⟩:=List.getElem_of_mem hj
   exact q2 p oj ((opsK_get hks).2 ⟨j,by simp [hp,e],hoj⟩)
theorem wpAny_drawL2{P:Program}{N:Nat}{E:En}{all:List Oper}{ks:List Nat}{ia:Nat}{oa:Oper}{ta:TypeId}{z:List Value}{tm tm':Tm}{own:Ow}{vs:List AV}{Q:Exit→Act→World→Prop}(hks:∀ k∈ks,k<all.length)(hnd:ks.Nodup)
  (kc:List Nat) (hkc:∀ k∈kc,k∈ks) (hup:upKc all ks kc=true) (huse:useB all ks=true) (hback:backB all ks=true) (hdist:distB all ks=true) (hTr:Tr (GoA P all own) N all (opsK all ks) tm vs tm') (hia:ia∈ks) (hoa:all[ia]?=some oa) (hal:∀ (e:Operand→Value) (w:World),(execOp e oa).run P w=.ok (.value (.pointer (some ⟨w.heap.size,0,none⟩))) (w.alloc (.cells z.toArray ta))) (hag:oa.guard=none) (haa:isAll oa=true) (hne:∀ (j:Nat) (oj:Oper),j∈ks→all[j]?=some oj→isAll oj=true→j=ia) (hok:okO own.length own=true) (hgs:E.gs.length≤own.length)
  (hend:∀ J,J∈subl (ks.filter fun k=>!kc.contains k)→∀ S ids a n,Sim N E (dropT (dstK all J) tm') (if ia∈J then own else own++[.blk (zAv z)]) S ids a n→wpAny P .any all.toArray Q (J.length+(all.length-ks.length)) (listedK all.length (lateK ks J)) a n) :
  ∀ (f:Nat) (listed:Array Bool) (a:Act) (n:World),DInvA N E all ks ia (zAv z) tm own vs listed a n→(ks.filter fun j=>!listed.getD j false).length=f→wpAny P .any all.toArray Q (f+(all.length-ks.length)) listed a n:=by
 intro f
 induction f with
 |zero=>exact fun listed a n hinv hf=>wpAny_drawE2 hks kc hia hTr hend listed a n hinv hf (fun j hj=>by
   have:=List.length_eq_zero_iff.1 hf
   rw [List.filter_eq_nil_iff] at this
   simpa using this j (hkc j hj))
 |succ f ih =>
  intro listed a n hinv hf
  by_cases hdone:∀ j∈kc,listed.getD j false=true
  ·exact wpAny_drawE2 hks kc hia hTr hend listed a n hinv hf hdone
  rw [show f+1+(all.length-ks.length)=(f+(all.length-ks.length))+1 by omega]
  obtain⟨i0,hi0,hu0⟩:∃ i,i∈kc∧listed.getD i false=false:=by
   by_cases hex:∃ i,i∈kc∧listed.getD i false=false
   ·exact hex
   ·refine absurd (fun j hj=>?_) hdone
    cases e:listed.getD j false with
    |true=>rfl
    |false=>exact absurd ⟨j,hj,e⟩ hex
  have hsz:=hinv.hi.size
  have gD:∀ j,j<all.length→listed.getD j true=listed.getD j false:=fun j hj=>by simp [Array.getD,hsz,hj]
  have hready:∀ m,m≤ks.length→(∃ i,i∈ks.take m∧listed.getD i false=false)→∃ i,i∈Region.ready .any all.toArray listed:=by
   intro m
   induction m with
   |zero=>rintro _ ⟨i,hi,_⟩;simp at hi
   |succ m ih =>
    intro hm ⟨i,hi,hui⟩
    by_cases hex:∃ i,i∈ks.take m∧listed.getD i false=false
    ·exact ih (by omega) hex
    ·have him:ks[m]?=some i:=by
      rw [List.take_add_one] at hi
      rcases List.mem_append.1 hi with h|h
      ·exact absurd ⟨i,h,hui⟩ hex
      ·cases e:ks[m]? with
       |none=>rw [e] at h;simp at h
       |some q=>rw [e] at h;simp at h;rw [h]
     have hil:i<all.length:=hks i (List.mem_of_getElem? him)
     refine⟨i,mem_ready.2 ⟨by rw [gD i hil];exact hui,all[i],by simp [hil],fun e he hb=>?_⟩⟩
     have hlt:=backB_spec hback him (List.getElem?_eq_getElem hil) e he hb
     cases hg:listed.getD e.on false with
     |true=>rfl
     |false=>exact absurd ⟨e.on,hlt,hg⟩ hex
  refine⟨fun h0=>?_,fun i hi=>?_⟩
  ·obtain⟨i,hi⟩:=hready ks.length (Nat.le_refl _) ⟨i0,by rw [List.take_length];exact hkc i0 hi0,hu0⟩
   rw [h0] at hi;cases hi
  ·have hih:i∈ks:=upKc_wait hup hinv.hi hi0 hu0 hi
   obtain⟨p,hp,ep⟩:=List.getElem_of_mem hih
   have hip:ks[p]?=some i:=by simp [hp,ep]
   obtain⟨hun,o,ho',hdeps⟩:=mem_ready.1 hi
   have hil:i<all.length:=hks i hih
   have ho:all[i]?=some o:=by simpa using ho'
   have hun':listed.getD i false=false:=by rw [← gD i hil];exact hun
   obtain⟨hvl,hTa⟩:=hTr.at_
   obtain⟨v,d,tmi,g1,g2,g3,g4,g5⟩:=hTa p o ((opsK_get hks).2 ⟨i,hip,ho⟩)
   obtain⟨S,ids,h1,h2,h3⟩:=hinv.st
   have hsl:Sl S n ids (rst tmi (useTs all o)) a:=fun t u hu=>by
    obtain⟨q1,q2⟩:=rst_look hu
    rcases g5 t u q2 with ⟨q,oj,p1,p2,p3,p4,_⟩|⟨p1,p2⟩
    ·obtain⟨j,k1,k2⟩:=(opsK_get hks).1 p2
     obtain⟨r1,r2⟩:=useB_spec huse hip ho q1 k2 p3
     exact h3 q j oj t u k1 (up_ready hinv.hi r2 hi) k2 p3 p4
    ·refine h2 t u p1 fun j oj hj hoj e=>?_
     obtain⟨r1,r2⟩:=useB_spec huse hip ho q1 hoj e
     obtain⟨q,hq,eq⟩:=List.getElem_of_mem r1
     rw [List.getElem_take] at eq
     have hql:q<p:=by simp at hq;omega
     exact p2 q oj hql ((opsK_get hks).2 ⟨j,by rw [← eq];exact List.getElem?_eq_getElem (by omega),hoj⟩) e
   have hlist:∀ j,(listed.setIfInBounds i true).getD j false=if j=i then true else listed.getD j false:=fun j=>by
    by_cases e:j=i
    ·subst e;simp [Array.getD,hsz,hil]
    ·rw [getD_set_ne false (fun e'=>e e'.symm),if_neg e]
   have hcount:(ks.filter fun j=>!(listed.setIfInBounds i true).getD j false).length=f:=by
    have e1:(ks.filter fun j=>!(listed.setIfInBounds i true).getD j false)=(ks.filter fun j=>!listed.getD j false).erase i:=by
     rw [List.Nodup.erase_eq_filter (hnd.filter _),List.filter_filter]
     refine List.filter_congr fun j _=>?_
     rw [hlist]
     by_cases e:j=i
     ·subst e;simp
     ·simp [e]
    rw [e1,List.length_erase_of_mem (List.mem_filter.2 ⟨hih,by rw [hun'];rfl⟩),hf];rfl
   have hnext:∀ V S' n' ids',Ids ids ids'→Sim N E [] (if (listed.setIfInBounds i true).getD ia false=true then own++[.blk (zAv z)] else own) S' ids' a n'→R S' n' ids' v V→Past n n'→(∀ b,S b→S' b)→(∀ b,S' b→b<n.heap.size→S b)→(∀ b,S' b→b<n'.heap.size)→DInvA N E all ks ia (zAv z) tm own vs (listed.setIfInBounds i true) (a.put (some d) V) n':=fun V S' n' ids' hII h4 hV hp k1 k2 k3=>by
    have hkp:Kp S S' n n':=⟨hp.size,k1,fun b hb _=>hp.block b hb⟩
    have hget:∀ t,t≠d→(a.put (some d) V).tmps[t]?=a.tmps[t]?:=fun t ht=>by
     simp only [Act.put];rw [Array.getElem?_setIfInBounds_ne (fun e=>ht e.symm)]
    refine⟨hinv.hi.set hi,fun j hj=>by rw [hlist,if_neg ((fun e=>hj (by rw [e];exact hih)))];exact hinv.out j hj,S',ids',?_,fun t u hu hno=>?_,fun q j oj d' u hj hl hoj hd' hu=>?_⟩
    ·exact { h4 with size:=by simp [Act.put,h4.size],defers:=h4.defers,sl:=fun t v hv=>by simp [look] at hv }
    ·obtain⟨U,q1,q2⟩:=h2 t u hu hno
     have hne:t≠d:=fun e=>hno i o hih ho (by rw [g2,e])
     exact⟨U,by rw [hget t hne];exact q1,(q2.kp hkp).ids hII⟩
    ·rw [hlist] at hl
     by_cases e:j=i
     ·subst e
      have hqp:q=p:=(List.getElem?_inj (List.getElem?_eq_some_iff.1 hj).1 hnd).1 (hj.trans hip.symm)
      subst hqp
      obtain rfl:o=oj:=Option.some.inj (ho.symm.trans hoj)
      obtain rfl:d=d':=Option.some.inj (g2.symm.trans hd')
      obtain rfl:v=u:=Option.some.inj (g1.symm.trans hu)
      exact⟨V,by simp [Act.put,h1.size,g3],hV⟩
     ·rw [if_neg e] at hl
      obtain⟨U,q1,q2⟩:=h3 q j oj d' u hj hl hoj hd' hu
      have hne:d'≠d:=fun e'=>e (distB_spec hdist (List.mem_of_getElem? hj) hih hoj ho (by rw [hd',e']) g2)
      exact⟨U,by rw [hget d' hne];exact q1,(q2.kp hkp).ids hII⟩
   unfold wpOp
   simp only [ho']
   rcases g4 with ⟨e1,e2⟩|⟨e1,e2,g4⟩
   ·
    have hii:i=ia:=hne i o hih ho e1
    subst hii
    obtain rfl:oa=o:=Option.some.inj (hoa.symm.trans ho)
    have hwant:Region.wanted oa (yielded all.toArray a.tmps)=true:=by simp [Region.wanted,hag]
    rw [if_pos hwant]
    refine .inl ?_
    rw [if_neg (by rw [hun'];simp)] at h1
    unfold Oper.wp
    rw [hal,Oper.upon_value,g2]
    have hp:Past n (n.alloc (.cells z.toArray ta)):=bself n _
    have h4:=h1.new (zAv z) z ta ((PL_iff.1 (PL_av1 S n z)).imp fun _ _ h=>P1_R1 h)
    have hlen1:ids.length=own.length:=h1.len
    refine ih _ _ _ (hnext (.pointer (some ⟨n.heap.size,0,none⟩)) S _ (ids++[Loc.at_ n.heap.size]) (Ids.push _ _) ?_ ?_ hp (fun _ h=>h) (fun _ h _=>h) (fun b hb=>Nat.lt_of_lt_of_le (h1.slt b hb) hp.size)) hcount
    ·rw [if_pos (by rw [hlist,if_pos rfl])];exact h4
    ·rw [e2];exact R.new_own hlen1 n.heap.size
   ·
    have hii:i≠ia:=fun e=>by subst e;rw [Option.some.inj (ho.symm.trans hoa)] at e1;rw [haa] at e1;cases e1
    have hcur:(if (listed.setIfInBounds i true).getD ia false=true then own++[OB.blk (zAv z)] else own)=(if listed.getD ia false=true then own++[OB.blk (zAv z)] else own):=by
     have e0:(listed.setIfInBounds i true).getD ia false=listed.getD ia false:=by rw [hlist];exact if_neg (fun e=>hii e.symm)
     rw [e0]
    obtain⟨ids0,hI0,hs0⟩:∃ ids0,Ids ids0 ids∧Sim N E (rst tmi (useTs all o)) own S ids0 a n:=by
     by_cases hl:listed.getD ia false=true
     ·rw [if_pos hl] at h1
      have h5:=(h1.weak (l:=[]) (lo:=own) trivial (Pre.app own _) rfl hok hgs).with (tm':=rst tmi (useTs all o)) (fun t u hu=>by obtain⟨U,q1,q2⟩:=hsl t u hu;exact⟨U,q1,q2.take (okT_of e2 hu)⟩)
      refine⟨_,⟨fun q b hq=>?_,fun q L hq hf=>?_⟩,h5⟩
      ·rw [nth_eq,List.getElem?_take] at hq
       split at hq
       ·rw [nth_eq];exact hq
       ·cases hq
      ·refine⟨L,?_,hf,.inl rfl⟩
       rw [nth_eq,List.getElem?_take] at hq
       split at hq
       ·rw [nth_eq];exact hq
       ·cases hq
     ·rw [if_neg hl] at h1
      exact⟨ids,Ids.refl _,h1.with hsl⟩
    rcases g4 N E S ids0 a n hs0 with ⟨w1,w2⟩|⟨w1,w2⟩
    ·rw [if_pos w1]
     refine .inl (Oper.wp_mono (fun a' n' ⟨V,S',e,k0,k1,k2,k3,k4⟩=>?_) (w2 Q))
     subst e
     rw [g2]
     exact ih _ _ _ (hnext V S' n' ids (Ids.refl _) (by rw [hcur];exact h1.grow k1 k2 k3 k4) (k0.ids hI0) k1 k2 k3 k4) hcount
    ·rw [if_neg (by rw [w1];simp)]
     subst w2
     rw [g2]
     exact ih _ _ _ (hnext undef S n ids (Ids.refl _) (by rw [hcur];exact h1) rfl (Below.refl _ _) (fun _ h=>h) (fun _ h _=>h) h1.slt) hcount
def drawR(all:List Oper)(ks kc:List Nat)(ia:Nat)(tA tB:OT)(m:Nat):Bool :=
 Region.noSelect all.toArray&&ks.all (fun k=>decide (k<all.length))&&nodupB ks&&(opsK all ks).all (fun o=>o.dst.isSome)&&upKc all ks kc&&useB all ks&&backB all ks&&distB all ks&&Nat.beq (all.length-ks.length) m &&
 tA.node all.toArray (listedK all.length ks)&&tA.sub all.toArray (listedK all.length ks)&&tA.len m&&tB.node all.toArray (listedK all.length (lateK ks [ia]))&&tB.sub all.toArray (listedK all.length (lateK ks [ia]))&&tB.len (m+1)&&kc.all (fun k=>ks.contains k)
theorem Drw.allocR{T:Tab}{P:Program}(hT:TabOk P T){N:Nat}{E:En}{id:Nat}{l:List Oper}{K:Exit→Tm→Ow→Prop}{tm:Tm}{own:Ow}(ks kc:List Nat)(ia:Nat)(tA tB:OT)(m:Nat)(hJl:(ks.filter fun k=>!kc.contains k)=[ia])(hB:drawR l ks kc ia tA tB m=true)(hA:allB T l ks ia=true)(hok:okO own.length own=true)(hgs:E.gs.length≤own.length)
  (hk:opsC l ks fun lo=>WDA T P N l own lo (fun tm=>Both (zavC (zrAt T l ia) fun z=>pushK own (.blk z) fun _ own=>WT T P N E l tA (K .normal) tm own) (dropJ l [ia] tm fun tm=>WT T P N E l tB (K .normal) tm own)) tm):Drw T P N E (.region id ⟨l⟩ true) l K tm own:=by
 refine .sem ⟨fun S ids a n hs Q hQ hpan=>?_⟩
 simp only [drawR,Bool.and_eq_true] at hB
 obtain⟨⟨⟨⟨⟨⟨⟨⟨⟨⟨⟨⟨⟨⟨⟨b1,b2⟩,b2'⟩,b3⟩,b4⟩,b5⟩,b6⟩,b7⟩,bm⟩,t1⟩,t2⟩,t3⟩,t4⟩,t5⟩,t6⟩,b9⟩:=hB
 have hm:=Nat.eq_of_beq_eq_true bm
 have hks:∀ k∈ks,k<l.length:=fun k hk=>by simpa using List.all_eq_true.1 b2 k hk
 have hnd:=nodupB_spec b2'
 have hia:ia∈ks:=by
  have:ia∈ks.filter fun k=>!kc.contains k:=by rw [hJl];exact List.mem_cons_self
  exact(List.mem_filter.1 this).1
 obtain⟨vs,tm',h1,hAB⟩:=WDA_tr hT (fun o ho=>List.all_eq_true.1 b3 o ho) (opsC_out hk)
 obtain⟨h2,h3⟩:=hAB
 rw [zavC_iff] at h2
 unfold allB at hA
 split at hA
 ·rename_i oa hoa
  split at hA
  ·rename_i ta hop
   simp only [Bool.and_eq_true,Option.isNone_iff_eq_none] at hA
   obtain⟨⟨⟨c1,c2⟩,c3⟩,c4⟩:=hA
   split at c3
   ·rename_i z hz
    obtain⟨ti,tv,z1,z2,z3⟩:=hT.zr ta z hz
    have hzr:zrAt T l ia=z:=by unfold zrAt;rw [hoa];simp only [hop,hz];rfl
    rw [hzr,pushK_iff] at h2
    refine wp_region_any hT.mixed ?_
    have hp:Past n { n with drawn:=n.drawn+1 }:=Past.draw n
    have hs':=hs.past hp
    have hf:(ks.filter fun j=>!(Array.replicate l.length false).getD j false).length=ks.length:=by
     rw [List.filter_eq_self.2 (fun j hj=>by simp [Array.getD])]
    have:=wpAny_drawL2 (P:=P) (N:=N) (E:=E) (all:=l) (ks:=ks) (Q:=Q) (oa:=oa) (ta:=ta) (z:=z) hks hnd kc (fun k hk=>by simpa using List.all_eq_true.1 b9 k hk) b4 b5 b6 b7 h1 hia hoa (fun e w=>by
      unfold execOp
      simp only [hop,Instr.alloc]
      have hv:tv.cells=⟨z⟩:=by rw [← z3]
      simp [zeroValue,typeInfo,z1,z2,Sem.run_bind,newVar,newRow,hv]) c1 (by simp [isAll,hop]) (fun j oj hj hoj hjj=>by
      have:=List.all_eq_true.1 c4 j hj
      simp only [hoj,hjj] at this
      simpa using this) hok hgs (fun J hJ S ids a n hs=>by
      rw [hJl] at hJ
      have hJ2:J=[]∨J=[ia]:=by simpa [subl] using hJ
      rcases hJ2 with rfl|rfl
      ·have e:lateK ks []=ks:=by unfold lateK;rw [List.filter_eq_self.2];intro k _;rfl
       rw [e,List.length_nil,Nat.zero_add,hm]
       rw [if_neg (by simp)] at hs
       exact wpAny_tree hT (fun a n h=>hQ .normal a n h) m tA _ tm' _ S ids a n t1 t2 t3 h2 hs
      ·rw [List.length_singleton,hm,Nat.add_comm]
       rw [if_pos (by simp)] at hs
       exact wpAny_tree hT (fun a n h=>hQ .normal a n h) (m+1) tB _ _ _ S ids a n t4 t5 t6 (dropJ_iff (K:=fun tm=>WT T P N E l tB (K .normal) tm own) h3) hs) ks.length (Array.replicate l.length false) a _ ⟨⟨by simp,fun j oj _ hl=>by simp [Array.getD] at hl⟩,fun j hj=>by simp [Array.getD],S,ids,by rw [if_neg (by simp [Array.getD])];exact hs'.nil,fun t v hv _=>hs'.sl t v hv,fun p j oj d v _ hl=>by simp [Array.getD] at hl⟩ hf
    have hle:ks.length≤l.length:=by
     have:=hnd.length_le_of_subset (l₂:=List.range l.length) (fun k hk=>List.mem_range.2 (hks k hk))
     simpa using this
    rw [show ks.length+(l.length-ks.length)=l.length by omega] at this
    simpa using this
   ·cases c3
  ·cases hA
 ·cases hA
theorem flat_ones:∀ (l:List AV),(l.map fun x=>[x]).flatten=l
 |[]=>rfl
 |x::l=>by simp [flat_ones l]
theorem OpAt.bsG{P:Program}{T:Tab}(hT:TabOk P T){N:Nat}{E:En}{o:Oper}{K:Tm→Ow→Prop}{tm:Tm}{own:Ow}{t e len:Nat}{z:List Value}{parts:List (Nat×Operand)}(ho:o.op=.buildSlice t len ⟨parts⟩)(hsl:look T.sl t=some e)(hk:look T.tk e=some .sc)(hz:look T.zr e=some z)(hb:(Nat.beq z.length 1&&Nat.ble 1 len&&Nat.ble len 16777216)=true)
  (h:partsK tm (fun i=>some (i*1,.sc)) parts (zsOf (len*1) z) fun cs=>puL cs=true∧cs.length=len∧put N tm o.dst (.gro own.length len) fun tm=>K tm (own++[.buf e 1 (cs.map fun x=>[x])])):OpAt P N E o K tm own:=by
 refine⟨fun S ids a n hsim Q=>?_⟩
 simp only [Bool.and_eq_true] at hb
 obtain⟨⟨hb1,hb2⟩,hb3⟩:=hb
 obtain⟨z',⟨g1,g1',g1''⟩,g2⟩:=partsK_sound h
 obtain⟨zv',g3,g4⟩:=g2 S n ids a hsim.sl _ (zsOf_R1 S n ids z (len*1))
 have hf:=g4 (fun i=>some (i*szOf .sc,szOf .sc)) (fun i d hd=>by cases hd;rfl)
 have hr:=run_buildSlice (P:=P) hT (t:=t) (len:=len) (parts:=(parts.map fun p=>(p.1,a.eval p.2)).toArray) hsl hk hz (Nat.eq_of_beq_eq_true hb1) (by simpa [szOf] using nLe hb2) (by simpa [szOf] using nLe hb3) (by simpa [szOf] using hf) n
 have hp:Past n (n.alloc (.cells zv'.toArray e)):=bself n _
 have hlt:n.heap.size<(n.alloc (.cells zv'.toArray e)).heap.size:=(Bx.new n zv' e _ rfl).lt
 have hlen:zv'.length=len:=by rw [g3.len,g1']
 have hcm:len≤maxLen:=by have:=nLe hb3;simp only [maxLen];omega
 have hpl:PL S n z' zv':=(RL_pu g1).1 (R1L_R g3)
 have hown:(n.alloc (.cells zv'.toArray e)).ownsRow 0 e 1 (.slice (some ⟨n.heap.size,0,none⟩) (z'.map fun x=>[x]).length len) (z'.map fun x=>[x]).length zv' :=
  ⟨by simp [hlen,g1'],.inr ⟨n.heap.size,len,zv'.toArray,rfl,Nat.zero_le _,heap_alloc_new n _,by simp [g1'],hcm,by simp [hlen],by simp [g1',← hlen]⟩⟩
 have hmm:(z'.map fun x=>[x]).length=len:=by simp [g1']
 have h1:=(hsim.past hp).push (o:=.buf e 1 (z'.map fun x=>[x])) (L:=⟨false,some n.heap.size,.slice (some ⟨n.heap.size,0,none⟩) len len,len⟩)
  ⟨some ⟨n.heap.size,0,none⟩,len,zv',by rw [hmm];rfl,(fun x hx=>by obtain⟨y,_,rfl⟩:=List.mem_map.1 hx;rfl),hown,by rw [flat_ones];exact hpl.kp (.past hp)⟩
  (fun b hb=>by
   obtain rfl:n.heap.size=b:=by simpa using hb
   exact⟨fun hS=>by have:=hsim.slt _ hS;omega,hlt,hsim.fr.size⟩)
  (fun j o' L' b g1 g2 g3 g4 e=>by
   obtain rfl:n.heap.size=b:=by simpa using e
   have:=hsim.lt g1 g2 g3 g4
   omega)
 obtain⟨tm',k1,k2⟩:=put_sound g1''
 have:=k2 E _ _ _ a _ (.slice (some ⟨n.heap.size,0,none⟩) len len) h1 ⟨_,by rw [← hsim.len,nth_append_new],rfl,Nat.le_refl _,⟨_,len,len,rfl⟩,fun _=>rfl⟩
 unfold Oper.wp execOp
 simp only [ho]
 show (match Sem.run P (Functor.map Next.value (Instr.buildSlice t len ((⟨parts⟩:Array (Nat×Operand)).map fun x=>(x.1,a.eval x.2)))) n with|_=>_)
 rw [Sem.run_map]
 rw [show ((⟨parts⟩:Array (Nat×Operand)).map fun x=>(x.1,a.eval x.2))=(parts.map fun p=>(p.1,a.eval p.2)).toArray by simp,hr]
 exact⟨tm',_,_,_,k1,this⟩
theorem SGood.end_b{t:W.Trk}{s:W.RSet}(ht:TLen t)(hs:SGood t s){k:Nat}(hk:k<s.list.length):ROk t (s.list.getD k ⟨0,[]⟩):=(hs.at_ hk).toROk
theorem below_(n:W.Nav)(h:NavOk n):Ret Tryz.prog 136 [.ptr (navC n)] (·=spV n.below):=by
 have ht:=h.tk.len
 refine enterO tabOk (N:=75) (gs:=[]) (args:=[_]) Tryz.func136 rfl rfl rfl (nLe rfl) (fun E hE=>?_)
 cases hon:n.place.on
 ·have hnot:(!n.place.on)=true:=by rw [hon];rfl
  conv=>whnf
  repeat' ((first|refine Br.ot (by assumption) ?_|refine FinAt.val rfl ?_);conv=>whnf)
  show spV n.grades=spV n.below
  unfold W.Nav.below
  rw [hon];rfl
 ·have hp:=h.pl hon
  have hs:=hp.set
  have hsn:=hs.n
  have hnot:(!n.place.on)=false:=by rw [hon];rfl
  have key:∀ k,k≤n.place.set.list.length→(∀ j,j<k→¬ n.place.set.end_ n.t (n.place.set.list.getD j ⟨0,[]⟩)=n.place.pos.hi)→(k<n.place.set.list.length→n.place.set.end_ n.t (n.place.set.list.getD k ⟨0,[]⟩)=n.place.pos.hi)→n.below=if k<n.place.set.list.length then n.grades else if (n.place.set.grades n.t n.place.pos).2 then (n.place.set.grades n.t n.place.pos).1 else n.grades:=fun k hk h1 h2=>by
   unfold W.Nav.below
   rw [hon]
   have hnn:¬ ((!true)=true):=by simp
   rw [if_neg hnn]
   by_cases hlt:k<n.place.set.list.length
   ·rw [if_pos hlt,if_pos]
    rw [List.any_eq_true]
    refine⟨n.place.set.list.getD k ⟨0,[]⟩,by simp [List.getD,hlt],by simpa using h2 hlt⟩
   ·rw [if_neg hlt,if_neg]
    rw [Bool.not_eq_true,List.any_eq_false]
    intro r hr
    obtain⟨j,hj,e⟩:=List.getElem_of_mem hr
    have:=h1 j (by omega)
    simp only [List.getD,List.getElem?_eq_getElem hj,Option.getD_some,e] at this
    simpa using this
  conv=>whnf
  repeat' ((refine Br.of (by assumption) ?_);conv=>whnf)
  refine LoopAt.rule tabOk [(0,_),(2,_),(22,_),(23,_)] (fun (i:Nat)=>[(24,.int .i64 (i:Int))]) (fun (i:Nat)=>[.blk [I 0,I 0]]) (fun (i:Nat)=>i≤n.place.set.list.length∧∀ j,j<i→¬ n.place.set.end_ n.t (n.place.set.list.getD j ⟨0,[]⟩)=n.place.pos.hi) (fun (i:Nat)=>n.place.set.list.length-i) 0 (by trivial) ⟨Nat.zero_le _,fun j hj=>absurd hj (by omega)⟩ (by trivial) (by trivial) (fun _=>⟨rfl,rfl,rfl,by simp [hE]⟩) (fun i hk=>?_)
  obtain⟨hk,hno⟩:=hk
  by_cases hlt:i<n.place.set.list.length
  ·conv=>whnf
   repeat' (first|((first|refine Br.pt (by omega) ?_|refine CallX.pu (end_ n.t n.place.set _ ht hs.f (hs.end_b ht hlt)) rfl rfl ?_|refine Ob.mk (by omega) ?_|refine Ob.mk (by unfold W.I64 at *;omega) ?_|refine Drw.loose (by kernel_rfl) ?_|refine Ix.nat _ ?_|refine FinAt.val rfl ?_);conv=>whnf)|((refine Br.d (fun h=>?_) (fun h=>?_))<;>conv=>whnf))
   ·show spV n.grades=spV n.below
    rw [key i hk hno (fun _=>by assumption),if_pos hlt]
   ·refine⟨i+1,⟨by omega,fun j hj=>?_⟩,by omega,(by trivial),(by trivial),(by trivial)⟩
    rcases Nat.lt_or_ge j i with q|q
    ·exact hno j q
    ·obtain rfl:j=i:=by omega
     assumption
  ·obtain rfl:i=n.place.set.list.length:=by omega
   have hk2:=key _ hk hno (fun q=>absurd q (by omega))
   rw [if_neg (by omega)] at hk2
   conv=>whnf
   repeat' (first|((first|(refine Drw.len 21 19 rfl rfl ?_;refine Drw.allocM tabOk [0,1,2,3,4,5,6,7,8,9,10,11,12,13,14,15,16,18,17] [0,1,2,3,4,5,6,7,8,9,10,11,12,13,14,15,16,18] [[],[17]] [19,20] 18 (by kernel_rfl) (by kernel_rfl) (by kernel_rfl) (by kernel_rfl) rfl (by simp [hE]) ?_)|refine Br.pf (by omega) ?_|refine CallD.pu (grades_ n.t n.place.set n.place.pos ht h.tk.nok.2.2 hs.ok) rfl ?_|refine FinAt.val rfl ?_);conv=>whnf)|((first|refine Br.mk (fun h=>?_) (fun h=>?_)|refine Both.mk ?_ ?_)<;>conv=>whnf))
   all_goals first
    |(
      show spV (n.place.set.grades n.t n.place.pos).1=spV n.below
      rw [hk2,if_pos (by assumption)])
    |(
      show spV n.grades=spV n.below
      rw [hk2,if_neg (by simp_all)])
theorem grade_b{t:W.Trk}(ht:TrkOk t)(i k:Nat):W.I64 ((t.segs.getD i default).pieces.getD k default).grade:=by
 by_cases hi:i<t.segs.length
 ·have:=ht.seg i hi
  unfold W.segOk at this
  simp only [Bool.and_eq_true,decide_eq_true_eq] at this
  have hp:=this.1.1.2
  unfold W.piecesOk at hp
  simp only [Bool.and_eq_true,List.all_eq_true,List.mem_range,decide_eq_true_eq] at hp
  by_cases hk:k<(t.segs.getD i default).pieces.length
  ·have:=hp.2 k hk
   unfold W.I64;omega
  ·have e:(t.segs.getD i default).pieces.getD k default=default:=by rw [List.getD_eq_getElem?_getD,List.getElem?_eq_none (by omega)];rfl
   rw [e];show W.I64 0;unfold W.I64;omega
 ·have e:t.segs.getD i default=default:=by rw [List.getD_eq_getElem?_getD,List.getElem?_eq_none (by omega)];rfl
  rw [e];show W.I64 0;unfold W.I64;omega
theorem bounds_i64{l:List W.Piece}{s:W.Sp}(h:∀ k,W.I64 (l.getD k default).grade):SpI (W.bounds l s).1:=by
 have key:∀ n,SpI (W.it (W.boundsStep l s) (⟨0,0⟩,false) n).1:=fun n=>by
  induction n with
  |zero=>exact SpI.zero
  |succ n ih =>
   show SpI (W.boundsStep l s n _).1
   unfold W.boundsStep
   split
   ·exact ih
   ·dsimp only
    have hg:SpI ⟨(l.getD n default).grade,(l.getD n default).grade⟩:=⟨h n,h n⟩
    split
    ·exact ih.hull hg
    ·exact hg.hull hg
 exact key _
theorem below_i64(n:W.Nav)(h:NavOk n):SpI n.below:=by
 unfold W.Nav.below
 split
 ·exact h.gr
 ·split
  ·exact h.gr
  ·split
   ·have key:∀ (vs:List (Int×Int)) (st:W.Sp×Bool),SpI st.1→SpI (vs.foldl (W.gradeStep n.t n.place.pos) st).1:=by
     intro vs
     induction vs with
     |nil=>exact fun _ h=>h
     |cons v vs ih =>
      intro st hst
      rw [List.foldl_cons]
      refine ih _ ?_
      unfold W.gradeStep
      dsimp only
      have hb:=bounds_i64 (l:=(n.t.seg v.1).pieces) (s:=⟨(n.place.pos.meet ⟨v.2,v.2+n.t.len v.1⟩).1.lo-v.2,(n.place.pos.meet ⟨v.2,v.2+n.t.len v.1⟩).1.hi-v.2⟩) (grade_b h.tk v.1.toNat)
      split
      ·dsimp only
       split
       ·exact hst.hull hb
       ·exact hb.hull hb
      ·exact hst
    exact key _ _ SpI.zero
   ·exact h.gr
theorem accel_(n:W.Nav)(m:Ml.M)(hN:NavOk n)(hm:Ml.fit m):Ret Tryz.prog 93 [.ptr (navC n),.agg (mlC m)] (·=.agg (snC (n.accelS m))):=by
 have hc:=hN.cf
 have hb:=below_i64 n hN
 have hv:=hm 4
 have hms:=hc.maxSpeed
 have hsp:=hN.sp
 have h1:=hsp.lo
 have h2:=hsp.hi
 have h3:=hsp.right
 have ha:SpI (W.accel n.c (m.val 4) n.below):=SpI.grow
 refine enterO tabOk (N:=29) (gs:=[]) (args:=[_,_]) Tryz.func93 rfl rfl rfl (nLe rfl) (fun E hE=>?_)
 conv=>whnf
 repeat' (first|((first|refine CallS.q (of_ m 4 (by omega) (by omega)) rfl ?_|refine CallX.pu (below_ n hN) rfl rfl ?_|refine CallX.pu (accel n.c (m.val 4) n.below.lo n.below.hi hc.accErr.1 hc.accErr.2 (by first|assumption|omega|(unfold W.I64 at *;omega)) hb.1 hb.2) rfl rfl ?_|refine CallX.pu (from_ _ _ _ _ (by first|assumption|omega|(unfold W.I64 at *;omega)) (by first|assumption|omega|(unfold W.I64 at *;omega)) ha.1 ha.2) rfl rfl ?_|refine Drw.loose (by kernel_rfl) ?_|refine FinAt.val rfl ?_);conv=>whnf)|((refine Br.mk (fun h=>?_) (fun h=>?_))<;>conv=>whnf))
 all_goals
  show AV.agg _=AV.agg _
  unfold W.Nav.accelS
  first|rw [if_pos (show m.has 4=true by simpa using h)]|rw [if_neg (show ¬ m.has 4=true by simpa using h)]
theorem CtB.ok{k:W.Counter}{c:Int}(h:CtB k c)(hc:0≤c∧c≤100000):CtOk k:=⟨h.l.1,h.l.2,by have:=h.sum;unfold W.I64;omega⟩
theorem together_i64(n:W.Nav)(m:Ml.M)(a b:W.Counter×Int×Bool)(c:W.Nav):SpI (W.together (W.fitOf (W.tachoSensor n.circ0 n.c.pulses a) (W.tachoSensor n.circ1 n.c.pulses b) (c.radarS m))).1 :=
 SpI.together (fitOf_i64 SpI.tachoS SpI.tachoS (SpI.radarS c m))
theorem CallX.blk0{f:Nat}{xs c:List AV}{r:AV}{K:AV→Prop}{tm:Tm}{own:Ow}(h:Ret Tryz.prog f (.ptr c::xs) (·=r))(hb:nth own 0=some (.blk c))(hc:puL c=true)(hx:puL xs=true)(hf:flat r=true)(hK:K r):CallX Tryz.prog f (.own 0 0::xs) tm own K :=
 .of [0] (RvL.cons (Rv.ownP (by simp) hb (by rw [List.drop_zero];exact RvL.pu hc)) (RvL.pu hx)) (Als.cons hb rfl (Als.nil _)) h hf hK
theorem sense_(n:W.Nav)(m:Ml.M)(hk0:CtOk n.k0)(hk1:CtOk n.k1)(hN:NavOk (n.sense m).1)(hm:Ml.fit m):RetO Tryz.prog 55 [.blk (navC n)] [.own 0 0,.agg (mlC m)] (fun r gs'=>r=.agg (fusedC (n.sense m).2)∧gs'=[.blk (navC (n.sense m).1)]):=by
 have hc:ConfB n.c:=hN.cf
 have hc0:SpI n.circ0:=hN.c0
 have hc1:SpI n.circ1:=hN.c1
 have hpl:=hc.pulses
 have hsp:SpeedB n.c n.speed:=hN.sp
 have hs1:=hsp.lo
 have hs2:=hsp.hi
 have hs3:=hsp.right
 have hms:=hc.maxSpeed
 have hma:=hc.maxAccel
 have hv1:=hm 1
 have hv2:=hm 2
 have hv3:=hm 3
 obtain⟨a,ha⟩:∃ a,a=n.k0.next (m.val 1) (m.has 1):=⟨_,rfl⟩
 obtain⟨b,hb⟩:∃ b,b=n.k1.next (m.val 2) (m.has 2):=⟨_,rfl⟩
 have hN2:NavOk { n with k0:=a.1,k1:=b.1 }:=by rw [ha,hb];exact hN
 have t0:=tacho0 n m hk0 hc0 (by unfold W.I64;omega) (by unfold W.I64;omega)
 rw [← ha] at t0
 have t1:=tacho1 { n with k0:=a.1 } m hk1 hc1 (show W.I64 n.c.pulses by unfold W.I64;omega) (by unfold W.I64;omega)
 dsimp only at t1
 rw [← hb] at t1
 have t2:=radar_ { n with k0:=a.1,k1:=b.1 } m hc.radBase.1 hc.radBase.2 hc.radPart.1 hc.radPart.2 (by omega) (by omega)
 have t3:=accel_ { n with k0:=a.1,k1:=b.1 } m hN2 hm
 have hT:SpI (W.together (W.fitOf (W.tachoSensor n.circ0 n.c.pulses a) (W.tachoSensor n.circ1 n.c.pulses b) (n.radarS m))).1:=together_i64 n m a b n
 refine enterO tabOk (N:=30) (gs:=[_]) (args:=[_,_]) Tryz.func55 rfl rfl rfl (nLe rfl) (fun E hE=>?_)
 conv=>whnf
 repeat' (first|((first|refine CallX.blk0 t3 rfl rfl rfl rfl ?_|refine Drw.held tabOk 3 1 [0,1,3,4,6,7] (.alt (.go 2 (.alt (.go 5 (.alt (.go 8 (.alt (.go 9 (.go 10 (.go 11 .done))) (.go 10 (.go 9 (.go 11 .done))))) (.go 10 (.go 8 (.go 9 (.go 11 .done)))))) (.go 10 (.go 5 (.go 8 (.go 9 (.go 11 .done))))))) (.go 10 (.go 2 (.go 5 (.go 8 (.go 9 (.go 11 .done))))))) 6 rfl rfl rfl rfl (by kernel_rfl) ?_|refine And.intro rfl ?_|refine CallS.call (CallN.updE [0] [] (RvJL.cons (RvJ.ownP rfl) (RvJL.pu rfl)) (Als.nil _) (by simp) (Giv.one rfl (by simp) (RcJ.pu rfl)) (t0) ?_)|refine CallS.call (CallN.updE [0] [] (RvJL.cons (RvJ.ownP rfl) (RvJL.pu rfl)) (Als.nil _) (by simp) (Giv.one rfl (by simp) (RcJ.pu rfl)) (t1) ?_)|refine CallS.call (CallN.updE [0] [] (RvJL.cons (RvJ.ownP rfl) (RvJL.pu rfl)) (Als.nil _) (by simp) (Giv.one rfl (by simp) (RcJ.pu rfl)) (t2) ?_)|refine CallX.pu (prior n.c n.speed.lo n.speed.hi (by omega) hms.2 (by omega) hma.2 (by unfold W.I64;omega) (by unfold W.I64;omega)) rfl rfl ?_|refine CallX.pu (fuse (W.prior n.c n.speed) (W.tachoSensor n.circ0 n.c.pulses a) (W.tachoSensor n.circ1 n.c.pulses b) (n.radarS m) (n.accelS m) hT) rfl rfl ?_|refine Drw.loose (by kernel_rfl) ?_);conv=>whnf)|((refine Both.mk ?_ ?_)<;>conv=>whnf))
 all_goals
  refine FinAt.asis [] (RvL.pu rfl) (by simp) (by show 1≤_;simp) rfl ⟨?_,?_⟩
  ·subst ha;subst hb;rfl
  ·subst ha;subst hb;rfl
structure ForL(p:List W.Rt)(A:List W.Rt→Prop):Prop where
 mk::out:∀ l,l.Perm p→A l
theorem CallN.move{N:Nat}{E:En}{f:Nat}{xs:List AV}{dst:Option Nat}{K:Tm→Ow→Prop}{tm:Tm}{own:Ow}{t:W.Trk}{p:W.Place}{s:W.Sp}(h:Ret Tryz.prog f xs (MoveIs t p s))(hp:puL xs=true)
  (hK:Br (decide ((p.move t s).2=0)) (ForL (p.move t s).1.set.list fun l=>put N tm dst (.tup [plV { (p.move t s).1 with set:=⟨(p.move t s).1.set.from_,l⟩ },I 0]) fun tm=>K tm own) (put N tm dst (.tup [plZ,I (p.move t s).2]) fun tm=>K tm own)):CallN Tryz.prog N E f xs dst K tm own:=by
 refine CallN.puP h hp fun v hv=>?_
 rcases hv with ⟨h1,rfl⟩|⟨h1,u,⟨l,hl,rfl⟩,rfl⟩
 ·exact hK.el.elim (fun q=>absurd (of_decide_eq_true q.1) h1) (fun q=>q.2)
 ·exact hK.el.elim (fun q=>q.2.out l hl) (fun q=>absurd h1 (of_decide_eq_false q.1))
theorem move_none{t:W.Trk}{p:W.Place}{s:W.Sp}(h:(p.move t s).2≠0):(p.move t s).1=W.Place.none:=by
 unfold W.Place.move at h ⊢
 split
 ·rfl
 ·next h1 =>
  rw [if_neg h1] at h
  dsimp only at h ⊢
  split
  ·rfl
  ·next h2 =>
   rw [if_neg h2] at h
   split
   ·rfl
   ·next h3=>rw [if_neg h3] at h;exact absurd rfl h
theorem navMove(n:W.Nav)(s:W.Sp)(hN:NavOk n)(hs:SpeedB n.c s):RetO Tryz.prog 56 [.blk (navC n)] [.own 0 0,.agg [I s.lo,I s.hi]] (fun r gs'=>∃ n' over,r=.bool over∧gs'=[.blk (navC n')]∧MoveR n s n' over):=by
 have hms:=hN.cf.maxSpeed
 have hmb:=mid_b hs
 have hdi:=hN.di
 have hcy:=hN.cy
 have hs1:=hs.lo
 have hs2:=hs.hi
 have hs3:=hs.right
 have hab:0≤W.abs s.mid∧W.abs s.mid≤16777216:=by unfold W.abs;split<;>omega
 have hA:Ret Tryz.prog 94 [I s.mid] (·=.tup [I (W.abs s.mid),.bool true]):=by
  have:=nAbs (a:=s.mid) (by unfold W.I64;omega)
  rw [W.fit_ok (by unfold W.I64;omega),W.fitB_ok (by unfold W.I64;omega)] at this
  exact this
 have hD:Ret Tryz.prog 96 [I n.dist,I (W.abs s.mid)] (·=.tup [I (n.dist+W.abs s.mid),.bool true]):=by
  have:=nAdd (a:=n.dist) (b:=W.abs s.mid) (by unfold W.I64;omega) (by unfold W.I64;omega)
  rw [W.fit_ok (by unfold W.I64;omega),W.fitB_ok (by unfold W.I64;omega)] at this
  exact this
 have hok:(W.fitB (W.abs s.mid)&&W.fitB (n.dist+W.fit (W.abs s.mid)))=true:=by
  rw [W.fit_ok (by unfold W.I64;omega),W.fitB_ok (by unfold W.I64;omega),W.fitB_ok (by unfold W.I64;omega)];rfl
 have hmv:n.move s=({ n with speed:=s,dist:=n.dist+W.abs s.mid,place:=if n.place.on then (n.place.move n.t s).1 else n.place },(n.place.on&&decide ((n.place.move n.t s).2=20))):=by
  unfold W.Nav.move
  dsimp only
  rw [hok];rfl
 refine enterO tabOk (N:=67) (gs:=[_]) (args:=[_,_]) Tryz.func56 rfl rfl rfl (nLe rfl) (fun E hE=>?_)
 cases hon:n.place.on
 ·conv=>whnf
  repeat' ((first|refine Br.of (by assumption) ?_|refine Br.ot rfl ?_|refine CallS.q (spMid s.lo s.hi (by unfold W.I64;omega) (by unfold W.I64;omega)) rfl ?_|refine CallS.q (hA) rfl ?_|refine CallS.q (hD) rfl ?_);conv=>whnf)
  have hmv2:n.move s=({ n with speed:=s,dist:=n.dist+W.abs s.mid },false):=by rw [hmv,if_neg (by rw [hon];simp),hon];rfl
  refine FinAt.asis [] (RvL.pu rfl) (by simp) (by show 1≤_;simp) rfl ⟨(n.move s).1,_,rfl,?_,⟨n.place.set.list,?_,?_,?_⟩⟩
  all_goals rw [hmv2]
  ·rfl
  ·rfl
 ·have hp:=hN.pl hon
  have hlo:=hp.lo
  have hhi:=hp.hi
  have hM:=move_ n.t n.place s hN.tk.len hN.tk.nok.1 (fun _=>hp.set) (by unfold W.I64;omega) (by unfold W.I64;omega) hp.est (by unfold W.I64;omega) (by unfold W.I64;omega)
  conv=>whnf
  repeat' (first|((first|(refine Drw.len 16 14 rfl rfl ?_;refine Drw.allocR tabOk [0,1,2,3,4,5,6,7,8,13] [0,1,2,3,4,5,6,7,8] 13 (.go 9 (.go 10 (.alt (.go 11 (.alt (.go 12 (.go 14 (.go 15 .done))) (.go 14 (.go 12 (.go 15 .done))))) (.go 12 (.go 11 (.go 14 (.go 15 .done))))))) (.alt (.go 9 (.alt (.go 10 (.alt (.go 11 (.alt (.go 12 (.go 13 (.go 14 (.go 15 .done)))) (.go 13 (.alt (.go 12 (.go 14 (.go 15 .done))) (.go 14 (.go 12 (.go 15 .done))))))) (.alt (.go 12 (.alt (.go 11 (.go 13 (.go 14 (.go 15 .done)))) (.go 13 (.go 11 (.go 14 (.go 15 .done)))))) (.go 13 (.alt (.go 11 (.alt (.go 12 (.go 14 (.go 15 .done))) (.go 14 (.go 12 (.go 15 .done))))) (.go 12 (.go 11 (.go 14 (.go 15 .done))))))))) (.go 13 (.go 10 (.alt (.go 11 (.alt (.go 12 (.go 14 (.go 15 .done))) (.go 14 (.go 12 (.go 15 .done))))) (.go 12 (.go 11 (.go 14 (.go 15 .done))))))))) (.go 13 (.go 9 (.go 10 (.alt (.go 11 (.alt (.go 12 (.go 14 (.go 15 .done))) (.go 14 (.go 12 (.go 15 .done))))) (.go 12 (.go 11 (.go 14 (.go 15 .done))))))))) 6 rfl (by kernel_rfl) (by kernel_rfl) rfl (by simp [hE]) ?_)|refine CallS.call (CallN.move hM rfl ?_)|refine ForL.mk (fun l hl=>?_)|refine Br.ot (by assumption) ?_|refine Br.ot rfl ?_|refine Br.of rfl ?_|refine CallS.q (spMid s.lo s.hi (by unfold W.I64;omega) (by unfold W.I64;omega)) rfl ?_|refine CallS.q (hA) rfl ?_|refine CallS.q (hD) rfl ?_);conv=>whnf)|((first|refine Br.d (fun h=>?_) (fun h=>?_)|refine Both.mk ?_ ?_)<;>conv=>whnf))
  all_goals
   have hmv2:n.move s=({ n with speed:=s,dist:=n.dist+W.abs s.mid,place:=(n.place.move n.t s).1 },decide ((n.place.move n.t s).2=20)):=by rw [hmv,if_pos hon,hon];rfl
   first
    |(
      refine FinAt.asis [] (RvL.pu rfl) (by simp) (by show 1≤_;simp) rfl ⟨withL (n.move s).1 l,_,rfl,?_,⟨l,?_,rfl,?_⟩⟩
      ·rw [hmv2];rfl
      ·rw [hmv2];exact hl
      ·rw [hmv2];show _=decide ((n.place.move n.t s).2=20);rw [h])
    |(
      refine FinAt.one (ars:=[.bool (decide ((n.place.move n.t s).2=20))]) (cs':=navC { n with speed:=s,dist:=n.dist+W.abs s.mid,place:=W.Place.none }) [] (RvL.pu rfl) (by simp) rfl ?_ ⟨withL (n.move s).1 [],_,rfl,?_,⟨[],?_,rfl,?_⟩⟩
      ·repeat (first|exact RvL.nil|refine RvL.cons (Rv.pu rfl) ?_|refine RvL.cons Rv.emp ?_)
      ·rw [hmv2,move_none h];rfl
      ·rw [hmv2,move_none h];exact .refl _
      ·rw [hmv2])
theorem visits_b{t:W.Trk}{s:W.RSet}(ht:TLen t)(hs:SOk t s){v:Int×Int}(hv:v∈s.visits t):0≤v.1∧v.1<t.segs.length∧-s.from_≤v.2∧v.2≤-s.from_+13194139533312:=by
 unfold W.RSet.visits at hv
 obtain⟨r,hr,hv⟩:=List.mem_flatMap.1 hv
 obtain⟨i,hi,e⟩:=List.getElem_of_mem hr
 have hro:ROk t r:=by
  have:=hs.r i hi
  simpa [List.getD,hi,e] using this
 obtain⟨k,hk,e2⟩:=List.getElem_of_mem hv
 rw [along_len] at hk
 have h1:=along_get t s.from_ r.path k hk
 rw [List.getElem?_eq_getElem (by rw [along_len];exact hk),e2] at h1
 have h1:=Option.some.inj h1
 subst h1
 have h2:=pre_le (f:=s.from_) ht hro.p k (by omega)
 have h3:=hro.p k hk
 have h4:=path_len hro.len hro.lo hro.hi
 have h5:=hro.hi
 exact⟨h3.1,h3.2,h2.1,by dsimp only;omega⟩
theorem raw_b{t:W.Trk}{s:W.RSet}{g:W.Grp}(ht:TLen t)(hs:SOk t s)(h4:0≤g.offset)(h5:g.offset≤1099511627776){x:Int}(hx:x∈s.placesRaw t g):-1099511627776≤x∧x≤17592186044416:=by
 unfold W.RSet.placesRaw at hx
 obtain⟨v,hv,rfl⟩:=List.mem_map.1 hx
 have:=visits_b ht hs (List.mem_filter.1 hv).1
 have:=hs.f
 omega
def FitIs(t:W.Trk)(s:W.RSet)(g:W.Grp)(far:Int)(p:W.Sp)(v:AV):Prop:=∃ l:List Int,v=isV l∧l.length≤192∧∀ x,x∈l↔x∈s.placesRaw t g∧W.fitsAt far p x=true
def fitN(far:Int)(p:W.Sp)(l:List Int)(k:Nat):List Int:=(l.take k).filter (W.fitsAt far p)
theorem fitN_succ{far:Int}{p:W.Sp}{l:List Int}{k:Nat}(h:k<l.length):fitN far p l (k+1)=fitN far p l k++if W.fitsAt far p (l.getD k 0)=true then [l.getD k 0] else []:=by
 unfold fitN
 rw [List.take_succ_eq_append_getElem h,List.filter_append]
 congr 1
 have e:l.getD k 0=l[k]:=by simp [List.getD,h]
 rw [e]
 by_cases hf:W.fitsAt far p l[k]=true<;>simp [hf]
theorem fitN_len(far:Int)(p:W.Sp)(l:List Int)(k:Nat):(fitN far p l k).length≤k:=by
 unfold fitN
 have:=List.length_filter_le (W.fitsAt far p) (l.take k)
 rw [List.length_take] at this
 omega
theorem fitting_(c:W.Conf)(t:W.Trk)(s:W.RSet)(p:W.Sp)(i:Nat)(hc:ConfB c)(ht:TLen t)(hs:SOk t s)(hi:i<t.grps.length)(hg:t.grps.length≤400)(hgr:GrpOk t (t.grps.getD i default)) :
  Ret Tryz.prog 147 [confV c,trkV t,setV s,.agg [I p.lo,I p.hi],I i] (FitIs t s (t.grps.getD i default) (W.window c (t.grps.getD i default)) p):=by
 obtain⟨g1,g2,g3,g4,g5⟩:=hgr
 have hoff:(t.grps.getD i default).offset≤1099511627776:=by
  have:=ht (t.grps.getD i default).seg.toNat (by omega)
  have e:t.len (t.grps.getD i default).seg=(t.segs.getD (t.grps.getD i default).seg.toNat default).length:=rfl
  omega
 have hant:=hc.antenna
 have hw:0≤W.window c (t.grps.getD i default)∧W.window c (t.grps.getD i default)≤20000000:=by unfold W.window;omega
 refine enterO tabOk (N:=55) (gs:=[]) (args:=[_,_,_,_,_]) Tryz.func147 rfl rfl rfl (nLe rfl) (fun E hE=>?_)
 conv=>whnf
 refine CallS.call (CallN.puP (places_ t s i ht hs hi hg g3.1 hoff) rfl (fun v hv=>?_))
 obtain⟨l,rfl,hl,hm⟩:=hv
 conv=>whnf
 refine LoopAt.emp 11 2 1 rfl ?_
 have hwn:=window c (t.grps.getD i default) (by unfold W.I64;omega) (by unfold W.I64;omega)
 obtain⟨far,hfar⟩:∃ far,far=W.window c (t.grps.getD i default):=⟨_,rfl⟩
 rw [← hfar] at hwn hw ⊢
 refine LoopAt.rule tabOk [(4,_),(5,_),(6,_),(8,_),(21,_),(22,_)] (fun (q:Nat×Nat×List (List AV))=>[(23,.int .i64 q.1),(11,.gro 4 q.2.1)]) (fun (q:Nat×Nat×List (List AV))=>[.blk (confC c),.blk [sgsV t.segs,gpsV t.grps],.blk [I s.from_,rtsV s.list],.blk [I p.lo,I p.hi],.buf 2 1 q.2.2]) (fun (q:Nat×Nat×List (List AV))=>q.1≤l.length∧q.2.1=(fitN far p l q.1).length∧q.2.2=(fitN far p l q.1).map i1) (fun (q:Nat×Nat×List (List AV))=>l.length-q.1) (0,0,[]) (by trivial) ⟨by omega,rfl,rfl⟩ (by trivial) (by trivial) (fun _=>⟨rfl,rfl,rfl,by simp [hE]⟩) (fun q hk=>?_)
 obtain⟨k,n,cs⟩:=q
 obtain⟨hk,hn,hcs⟩:=hk
 dsimp only at hk hn hcs ⊢
 have hn2:n≤k:=by rw [hn];exact fitN_len _ _ _ _
 have hcl:cs.length=n:=by rw [hcs,hn,List.length_map]
 by_cases hlt:k<l.length
 ·have hb:=raw_b ht hs g3.1 hoff ((hm (l.getD k 0)).1 (by simp [List.getD,hlt]))
  have hsucc:=fitN_succ (far:=far) (p:=p) hlt
  have hfa:W.fitsAt far p (l.getD k 0)=((W.Sp.grow ⟨l.getD k 0,l.getD k 0⟩ far).2&&((W.Sp.grow ⟨l.getD k 0,l.getD k 0⟩ far).1.meet p).2):=rfl
  obtain⟨w,hw'⟩:∃ w,w=W.Sp.grow ⟨l.getD k 0,l.getD k 0⟩ far:=⟨_,rfl⟩
  rw [← hw'] at hfa
  obtain⟨⟨wl,wh⟩,wb⟩:=w
  have har:Ret Tryz.prog 176 [I (l.getD k 0),I far] (·=.tup [.agg [I wl,I wh],.bool wb]):=by
   have:=spAround (l.getD k 0) far (by unfold W.I64;omega) (by unfold W.I64;omega)
   rw [← hw'] at this
   exact this
  have ended:∀ b,W.fitsAt far p (l.getD k 0)=b→(fitN far p l (k+1))=fitN far p l k++if b=true then [l.getD k 0] else []:=fun b h=>by rw [hsucc,h]
  cases wb
  ·have hf:W.fitsAt far p (l.getD k 0)=false:=hfa
   conv=>whnf
   repeat' (first|((first|(refine Drw.len 15 13 rfl rfl ?_;refine Drw.allocM tabOk [0,1,2,3,4,5,6,7,8,9,10,12,11] [0,1,2,3,4,5,6,7,8,9,10,12] [[],[11]] [13,14] 12 (by kernel_rfl) (by kernel_rfl) (by kernel_rfl) (by kernel_rfl) rfl (by simp [hE]) ?_)|refine Br.pt (by omega) ?_|refine Br.of rfl ?_|refine CallS.q (spMeet _ _ _ _) rfl ?_|refine CallD.pu (hwn) rfl ?_|refine CallD.pu (har) rfl ?_|refine Ob.mk (by omega) ?_|refine Ob.mk (by unfold W.I64 at *;omega) ?_|refine Ix.nat _ ?_);conv=>whnf)|((refine Both.mk ?_ ?_)<;>conv=>whnf))
   all_goals
    refine⟨(k+1,n,cs),⟨by dsimp only;omega,?_,?_⟩,by dsimp only;omega,(by trivial),(by trivial),(by trivial)⟩
    ·dsimp only;rw [ended _ hf];simpa using hn
    ·dsimp only;rw [ended _ hf];simpa using hcs
  ·have hf:W.fitsAt far p (l.getD k 0)=(W.Sp.meet ⟨wl,wh⟩ p).2:=by rw [hfa];rfl
   conv=>whnf
   repeat' (first|((first|(refine Drw.len 15 13 rfl rfl ?_;refine Drw.allocM tabOk [0,1,2,3,4,5,6,7,8,9,10,12,11] [0,1,2,3,4,5,6,7,8,9,10,12] [[],[11]] [13,14] 12 (by kernel_rfl) (by kernel_rfl) (by kernel_rfl) (by kernel_rfl) rfl (by simp [hE]) ?_)|refine OpAt.appG apI64 rfl [7] rfl rfl rfl hcl (by simp) (by repeat (first|exact Als.nil _|refine Als.cons rfl rfl ?_)) (by simp [hE]) (Xs.one rfl rfl rfl (RvL.pu rfl) rfl) (by decide) (by omega) ?_|refine Br.pt (by omega) ?_|refine Br.ot rfl ?_|refine CallS.q (spMeet _ _ _ _) rfl ?_|refine CallD.pu (hwn) rfl ?_|refine CallD.pu (har) rfl ?_|refine Ob.mk (by omega) ?_|refine Ob.mk (by unfold W.I64 at *;omega) ?_|refine Ix.nat _ ?_|refine BsN.mark ?_);conv=>whnf)|((first|refine Br.mk (fun h=>?_) (fun h=>?_)|refine Both.mk ?_ ?_)<;>conv=>whnf))
   all_goals
    have hf2:=hf.trans h
    first
     |(
       refine Exists.intro (k+1,n+1,_) ⟨⟨by dsimp only;omega,?_,?_⟩,by dsimp only;omega,(by trivial),(by trivial),(by trivial)⟩
       ·dsimp only;rw [ended _ hf2];simp [hn]
       ·dsimp only;rw [ended _ hf2,hcs];simp)
     |(
       refine Exists.intro (k+1,n,_) ⟨⟨by dsimp only;omega,?_,?_⟩,by dsimp only;omega,(by trivial),(by trivial),(by trivial)⟩
       ·dsimp only;rw [ended _ hf2];simp [hn]
       ·dsimp only;rw [ended _ hf2,hcs];simp)
 ·conv=>whnf
  repeat' ((refine Br.pf (by omega) ?_);conv=>whnf)
  obtain rfl:k=l.length:=by omega
  have hall:fitN far p l l.length=l.filter (W.fitsAt far p):=by unfold fitN;rw [List.take_length]
  refine FinAt.gen (ars:=[isV (l.filter (W.fitsAt far p))]) [4] (RvL.cons ?_ RvL.nil) (by repeat (first|exact Als.nil _|refine Als.cons rfl rfl ?_)) ⟨_,rfl,Nat.le_trans (List.length_filter_le _ _) hl,fun x=>by rw [List.mem_filter,hm]⟩
  rw [hall] at hn hcs
  subst hn
  exact Rv.gro (by simp) rfl (by rw [hcs,List.length_map]) (fun j hj=>PLe.of (by rw [hcs];simp [List.getD,hj]))
abbrev foundV(x:W.Found):AV:=.agg [I x.group,isV x.at_,.bool x.ok,.bool x.accepted]
theorem navFitting(n:W.Nav)(was:W.Place)(s:W.Sp)(i:Nat)(hN:NavOk n)(hs:SpeedB n.c s)(hp:SGood n.t n.place.set)(h1:W.I64 was.pos.lo)(h2:W.I64 was.pos.hi)(hi:i<n.t.grps.length) :
  RetO Tryz.prog 100 [.blk (navC n)] [.own 0 0,plV was,.agg [I s.lo,I s.hi],I i] (fun v gs'=>∃ l,v=isV l∧gs'=[.blk (navC n)]∧FitL n was s i l):=by
 have hms:=hN.cf.maxSpeed
 have hs1:=hs.lo
 have hs2:=hs.hi
 have hs3:=hs.right
 have hpa:=passage was.pos.lo was.pos.hi s.lo s.hi h1 h2 (by unfold W.I64;omega) (by unfold W.I64;omega)
 refine enterO tabOk (N:=36) (gs:=[_]) (args:=[_,_,_,_]) Tryz.func100 rfl rfl rfl (nLe rfl) (fun E hE=>?_)
 cases hok:(W.passage was.pos s).2
 ·have hn:(!(W.passage ⟨was.pos.lo,was.pos.hi⟩ ⟨s.lo,s.hi⟩).2)=true:=by rw [show (W.passage ⟨was.pos.lo,was.pos.hi⟩ ⟨s.lo,s.hi⟩).2=false from hok];rfl
  conv=>whnf
  repeat' ((first|refine FinAt.asis (ars:=[isV []]) [] (RvL.cons Rv.emp RvL.nil) (by simp) (by show 1≤_;simp) rfl ?_|refine Br.ot (by assumption) ?_|refine CallS.q (hpa) rfl ?_);conv=>whnf)
  exact⟨[],rfl,rfl,.inr ⟨hok,rfl⟩⟩
 ·have hn:(!(W.passage ⟨was.pos.lo,was.pos.hi⟩ ⟨s.lo,s.hi⟩).2)=false:=by rw [show (W.passage ⟨was.pos.lo,was.pos.hi⟩ ⟨s.lo,s.hi⟩).2=true from hok];rfl
  conv=>whnf
  repeat' ((first|refine Drw.lateP tabOk [0,1,2,3,4,5,6,7,8,9,10,11,12,13,14] [] [15,16] (by kernel_rfl) (by kernel_rfl) ?_|refine Br.of (by assumption) ?_|refine CallS.q (hpa) rfl ?_);conv=>whnf)
  refine CallS.call (CallN.puP (fitting_ n.c n.t n.place.set (W.passage was.pos s).1 i hN.cf hN.tk.len hp.ok hi hN.tk.g (hN.tk.gr hi).1) rfl (fun v hv=>?_))
  obtain⟨l,rfl,hl,hm⟩:=hv
  conv=>whnf
  exact FinAt.asis [] (RvL.pu rfl) (by simp) (by show 1≤_;simp) rfl ⟨l,rfl,rfl,.inl ⟨hok,hl,hm⟩⟩
theorem navLook(n:W.Nav)(m:Ml.M)(was:W.Place)(s:W.Sp)(hN:NavOk n)(hs:SpeedB n.c s)(hw:n.place.on=true→W.I64 was.pos.lo∧W.I64 was.pos.hi)(hm:Ml.fit m) :
  RetO Tryz.prog 57 [.blk (navC n)] [.own 0 0,.agg (mlC m),plV was,.agg [I s.lo,I s.hi]] (fun v gs'=>∃ x,v=foundV x∧gs'=[.blk (navC n)]∧LookR n m was s x):=by
 have hv:=hm 5
 refine enterO tabOk (N:=56) (gs:=[_]) (args:=[_,_,_,_]) Tryz.func57 rfl rfl rfl (nLe rfl) (fun E hE=>?_)
 cases h5:m.has 5
 ·have hn:(!(m.has 5))=true:=by rw [h5];rfl
  conv=>whnf
  repeat' ((first|refine FinAt.asis (ars:=[foundV ⟨0,[],true,false⟩]) [] (RvL.cons (Rv.agg (RvL.cons (Rv.pu rfl) (RvL.cons Rv.emp (RvL.pu rfl)))) RvL.nil) (by simp) (by show 1≤_;simp) rfl ?_|refine Br.ot (by assumption) ?_|refine CallS.q (of_ m 5 (by omega) (by omega)) rfl ?_);conv=>whnf)
  exact⟨_,rfl,rfl,.inl ⟨h5,rfl⟩⟩
 ·have hn:(!(m.has 5))=false:=by rw [h5];rfl
  conv=>whnf
  repeat' ((first|refine Br.of (by assumption) ?_|refine CallS.q (of_ m 5 (by omega) (by omega)) rfl ?_);conv=>whnf)
  refine CallS.call (CallN.puP (find n.t hN.tk (m.val 5)) rfl (fun v hv=>?_))
  obtain⟨i,b,rfl,hi,hf⟩:=hv
  cases hfi:n.t.find (m.val 5) with
  |none =>
   rw [hfi] at hf
   obtain rfl:b=false:=hf
   conv=>whnf
   repeat' ((first|refine FinAt.asis (ars:=[foundV ⟨0,[],false,false⟩]) [] (RvL.cons (Rv.agg (RvL.cons (Rv.pu rfl) (RvL.cons Rv.emp (RvL.pu rfl)))) RvL.nil) (by simp) (by show 1≤_;simp) rfl ?_|refine Br.ot rfl ?_);conv=>whnf)
   exact⟨_,rfl,rfl,.inr (.inl ⟨h5,hfi,rfl⟩)⟩
  |some k =>
   rw [hfi] at hf
   obtain⟨rfl,rfl⟩:b=true∧i=k:=hf
   have hlt:=(find_lt hfi).1
   cases hon:n.place.on
   ·conv=>whnf
    repeat' ((first|refine FinAt.asis (ars:=[foundV ⟨i,[],true,true⟩]) [] (RvL.cons (Rv.agg (RvL.cons (Rv.pu rfl) (RvL.cons Rv.emp (RvL.pu rfl)))) RvL.nil) (by simp) (by show 1≤_;simp) rfl ?_|refine Br.of (by assumption) ?_|refine Br.of rfl ?_);conv=>whnf)
    exact⟨_,rfl,rfl,.inr (.inr ⟨h5,i,hfi,.inr ⟨hon,rfl⟩⟩)⟩
   ·obtain⟨w1,w2⟩:=hw hon
    conv=>whnf
    repeat' ((first|refine Br.ot (by assumption) ?_|refine Br.of rfl ?_);conv=>whnf)
    refine CallS.call (CallN.upd [0] [] (RvJL.cons (RvJ.ownP rfl) (RvJL.pu rfl)) (Als.nil _) (by simp) (Giv.one rfl (by simp) (RcJ.pu rfl)) (navFitting n was s i hN hs (hN.pl hon).set w1 w2 hlt) (fun v gs' hv _=>?_))
    obtain⟨l,rfl,rfl,hl⟩:=hv
    conv=>whnf
    have e:decide ((0:Int)<l.length)=decide (0<l.length):=by
     by_cases h0:0<l.length
     ·rw [decide_eq_true h0,decide_eq_true (by omega)]
     ·rw [decide_eq_false h0,decide_eq_false (by omega)]
    rw [e]
    exact FinAt.asis [] (RvL.pu rfl) (by simp) (by show 1≤_;simp) rfl ⟨_,rfl,rfl,.inr (.inr ⟨h5,i,hfi,.inl ⟨hon,l,hl,rfl⟩⟩)⟩
theorem learnE(c w:W.Sp)(p n:Int)(h0:SpI c)(h2:SpI w)(h4:W.I64 p)(h5:-4611686018427387904<n)(h6:n≤4611686018427387904):Ret Tryz.prog 150 [.agg [I c.lo,I c.hi],.agg [I w.lo,I w.hi],I p,I n] (·=.tup [spV (W.learn c w p n),.bool (W.learnB c w p n).2]):=by
 have:=learn c.lo c.hi w.lo w.hi p n h0.1 h0.2 h2.1 h2.2 h4 h5 h6
 rw [W.learnB_fst] at this
 exact this
theorem navLearn(n:W.Nav)(a:Int)(hN:NavOk n)(hp:SpI n.place.pos)(ha:W.I64 a):RetO Tryz.prog 102 [.blk (navC n)] [.own 0 0,I a] (fun r gs'=>r=.tup []∧gs'=[.blk (navC (n.learn a))]):=by
 have hpl:=hN.cf.pulses
 have ho:=hN.ori
 have hcy:=hN.cy
 have hk0:=hN.k0.sum
 have hk1:=hN.k1.sum
 have hs0:=hN.s0
 have hs1:=hN.s1
 have hadd:=spAdd n.place.pos.lo n.place.pos.hi a a hp.1 hp.2 ha ha
 refine enterO tabOk (N:=72) (gs:=[_]) (args:=[_,_]) Tryz.func102 rfl rfl rfl (nLe rfl) (fun E hE=>?_)
 obtain⟨w,hw⟩:∃ w,w=n.place.pos.add ⟨a,a⟩:=⟨_,rfl⟩
 have hwi:SpI w.1:=by rw [hw];exact SpI.add
 rw [show W.Sp.add ⟨n.place.pos.lo,n.place.pos.hi⟩ ⟨a,a⟩=w from hw.symm] at hadd
 have hL:n.learn a=if !w.2 then n else if !(w.1.sub n.origin).2 then n else { n with circ0:=W.learn n.circ0 (w.1.sub n.origin).1 n.c.pulses (n.k0.sum-n.sum0),circ1:=W.learn n.circ1 (w.1.sub n.origin).1 n.c.pulses (n.k1.sum-n.sum1) }:=by rw [hw];rfl
 obtain⟨w1,w2⟩:=w
 cases w2
 ·conv=>whnf
  repeat' (first|((first|(refine Drw.len 14 12 rfl rfl ?_;refine Drw.allocM tabOk [0,1,2,3,4,5,6,7,8,9,11,10] [0,1,2,3,4,5,6,7,8,9,11] [[],[10]] [12,13] 11 (by kernel_rfl) (by kernel_rfl) (by kernel_rfl) (by kernel_rfl) rfl (by simp [hE]) ?_)|refine Br.ot rfl ?_|refine CallD.pu (spAt a) rfl ?_|refine CallD.pu (hadd) rfl ?_);conv=>whnf)|((refine Both.mk ?_ ?_)<;>conv=>whnf))
  all_goals
   refine FinAt.asis [] RvL.nil (by simp) (by show 1≤_;simp) rfl ⟨rfl,?_⟩
   rw [hL];rfl
 ·have hsub:=spSub w1.lo w1.hi n.origin.lo n.origin.hi hwi.1 hwi.2 ho.1 ho.2
  obtain⟨u,hu⟩:∃ u,u=w1.sub n.origin:=⟨_,rfl⟩
  have hui:SpI u.1:=by rw [hu];exact SpI.sub
  rw [show W.Sp.sub ⟨w1.lo,w1.hi⟩ ⟨n.origin.lo,n.origin.hi⟩=u from hu.symm] at hsub
  dsimp only at hL
  rw [← hu] at hL
  obtain⟨u1,u2⟩:=u
  cases u2
  ·conv=>whnf
   repeat' (first|((first|(refine Drw.len 14 12 rfl rfl ?_;refine Drw.allocM tabOk [0,1,2,3,4,5,6,7,8,9,11,10] [0,1,2,3,4,5,6,7,8,9,11] [[],[10]] [12,13] 11 (by kernel_rfl) (by kernel_rfl) (by kernel_rfl) (by kernel_rfl) rfl (by simp [hE]) ?_)|(refine Drw.len 12 10 rfl rfl ?_;refine Drw.lateM tabOk [0,1,2,3,4,5,6,7,8,9] [0,1,2,3,4,5,6,7,8] [[],[9]] [10,11] (by kernel_rfl) (by kernel_rfl) (by kernel_rfl) ?_)|refine Br.ot rfl ?_|refine Br.of rfl ?_|refine CallD.pu (spAt a) rfl ?_|refine CallD.pu (hadd) rfl ?_|refine CallD.pu (hsub) rfl ?_);conv=>whnf)|((refine Both.mk ?_ ?_)<;>conv=>whnf))
   all_goals
    refine FinAt.asis [] RvL.nil (by simp) (by show 1≤_;simp) rfl ⟨rfl,?_⟩
    rw [hL];rfl
  ·have l0:=learnE n.circ0 u1 n.c.pulses (n.k0.sum-n.sum0) hN.c0 hui (by unfold W.I64;omega) (by omega) (by omega)
   have l1:=learnE n.circ1 u1 n.c.pulses (n.k1.sum-n.sum1) hN.c1 hui (by unfold W.I64;omega) (by omega) (by omega)
   conv=>whnf
   repeat' (first|((first|(refine Drw.len 14 12 rfl rfl ?_;refine Drw.allocM tabOk [0,1,2,3,4,5,6,7,8,9,11,10] [0,1,2,3,4,5,6,7,8,9,11] [[],[10]] [12,13] 11 (by kernel_rfl) (by kernel_rfl) (by kernel_rfl) (by kernel_rfl) rfl (by simp [hE]) ?_)|(refine Drw.len 12 10 rfl rfl ?_;refine Drw.lateM tabOk [0,1,2,3,4,5,6,7,8,9] [0,1,2,3,4,5,6,7,8] [[],[9]] [10,11] (by kernel_rfl) (by kernel_rfl) (by kernel_rfl) ?_)|refine LoopAt.few tabOk 3 ?_|(refine Drw.len 37 36 rfl rfl ?_;refine Drw.lateM tabOk [0,1,2,3,4,5,6,7,8,9,10,11,12,13,14,15,16,17,18,19,20,21,22,23,24,25,26,27,28,29,30,31,32,33,34,35] [0,1,2,3,4,5,6,7,8,9,10,11,12,13,14,15,16,17,18,19,20,21,22,23,24,25,26,27,28,29,30,31,33,34,35] [[],[32]] [36] (by kernel_rfl) (by kernel_rfl) (by kernel_rfl) ?_)|refine Br.pt (by omega) ?_|refine Br.pf (by omega) ?_|refine Br.of rfl ?_|refine CallD.pu (spAt a) rfl ?_|refine CallD.pu (hadd) rfl ?_|refine CallD.pu (hsub) rfl ?_|refine CallD.pu (l0) rfl ?_|refine CallD.pu (l1) rfl ?_|refine Ob.mk (by omega) ?_|refine Ob.mk (by unfold W.I64 at *;omega) ?_|refine Ix.of 0 rfl ?_|refine Ix.of 1 rfl ?_|refine Pc.lit ?_);conv=>whnf)|((refine Both.mk ?_ ?_)<;>conv=>whnf))
   all_goals
    refine FinAt.asis [] RvL.nil (by simp) (by show 1≤_;simp) rfl ⟨rfl,?_⟩
    rw [hL];rfl
theorem navAccept(n:W.Nav)(x:W.Found)(s:W.Sp)(i:Nat)(hN:NavOk n)(hs:SpeedB n.c s)(hx:x.group=i)(hi:i<n.t.grps.length)(ha:∀ y∈x.at_,W.I64 y):RetO Tryz.prog 58 [.blk (navC n)] [.own 0 0,foundV x,.agg [I s.lo,I s.hi]] (fun r gs'=>r=.tup []∧gs'=[.blk (navC (n.accept x s))]):=by
 obtain⟨g,at_,ok,acc⟩:=x
 dsimp only at hx ha
 subst hx
 have hms:=hN.cf.maxSpeed
 have hant:=hN.cf.antenna
 have hs1:=hs.lo
 have hs2:=hs.hi
 have hs3:=hs.right
 have hg:=(hN.tk.gr hi).1
 have hr:=reset n.c n.t i s.lo s.hi hi hg.acc hant (by omega) (by omega)
 obtain⟨p,hp⟩:∃ p,p=W.resetAt n.c (n.t.grps.getD i default) i s:=⟨_,rfl⟩
 rw [show W.resetAt n.c (n.t.grps.getD i default) i ⟨s.lo,s.hi⟩=p from hp.symm] at hr
 have hpB:PlB n.t p:=by rw [hp];exact reset_b hN.cf hN.tk hi hs
 have hN1:NavOk { n with place:=p }:={ off:=hN.off,cf:=hN.cf,tk:=hN.tk,en:=hN.en,gr:=hN.gr,cy:=hN.cy,k0:=hN.k0,k1:=hN.k1,c0:=hN.c0,c1:=hN.c1,sp:=hN.sp,di:=hN.di,pl:=fun _=>hpB,ori:=hN.ori,s0:=hN.s0,s1:=hN.s1,st:=hN.st,ro:=hN.ro,w0:=hN.w0,w1:=hN.w1 }
 have hpi:SpI p.pos:=⟨by have:=hpB.lo;unfold W.I64;omega,by have:=hpB.hi;unfold W.I64;omega⟩
 have hA:∀ b:Bool,(n.place.on&&n.clean&&decide (at_.length=1))=b→n.accept ⟨i,at_,ok,acc⟩ s={ (if b then ({ n with place:=p }:W.Nav).learn (at_.getD 0 0) else { n with place:=p }) with clean:=true,origin:=(if b then ({ n with place:=p }:W.Nav).learn (at_.getD 0 0) else { n with place:=p }).place.pos,sum0:=(if b then ({ n with place:=p }:W.Nav).learn (at_.getD 0 0) else { n with place:=p }).k0.sum,sum1:=(if b then ({ n with place:=p }:W.Nav).learn (at_.getD 0 0) else { n with place:=p }).k1.sum }:=fun b hb=>by
  subst hb
  subst hp
  rfl
 by_cases hb:(n.place.on&&n.clean&&decide (at_.length=1))=true
 ·have hA:=hA true hb
  simp only [Bool.and_eq_true,decide_eq_true_eq] at hb
  obtain⟨⟨hon,hcl⟩,hl⟩:=hb
  have hl1:((at_.length:Nat):Int)=1:=by omega
  have hl0:0<at_.length:=by omega
  have hL:=navLearn { n with place:=p } (at_.getD 0 0) hN1 hpi (ha _ (by simp [List.getD,hl0]))
  rw [if_pos rfl] at hA
  obtain⟨q,hq⟩:∃ q,q=({ n with place:=p }:W.Nav).learn (at_.getD 0 0):=⟨_,rfl⟩
  rw [← hq] at hA hL
  refine enterO tabOk (N:=79) (gs:=[_]) (args:=[_,_,_]) Tryz.func58 rfl rfl rfl (nLe rfl) (fun E hE=>?_)
  conv=>whnf
  repeat' ((first|(refine Drw.len 16 15 rfl rfl ?_;refine Drw.lateP tabOk [0,1,2,3,4,5,6,7,8,9,10,11,12,13,14] [] [15] (by kernel_rfl) (by kernel_rfl) ?_)|refine CallS.call (CallN.updE [0] [] (RvJL.cons (RvJ.ownP rfl) (RvJL.pu rfl)) (Als.nil _) (by simp) (Giv.one rfl (by simp) (RcJ.pu rfl)) hL ?_)|refine LoopAt.few tabOk 3 ?_|(refine Drw.len 9 8 rfl rfl ?_;refine Drw.lateP tabOk [0,1,2,3,4,5,6,7] [] [8] (by kernel_rfl) (by kernel_rfl) ?_)|refine Br.ot (by assumption) ?_|refine Br.pt (by assumption) ?_|refine Br.pt (by omega) ?_|refine Br.pf (by omega) ?_|refine CallD.pu (hr) rfl ?_|refine Ob.mk (by omega) ?_|refine Ob.mk (by unfold W.I64 at *;omega) ?_|refine Ix.of 0 rfl ?_|refine Ix.of 1 rfl ?_|refine Pc.lit ?_);conv=>whnf)
  refine FinAt.asis [] RvL.nil (by simp) (by show 1≤_;simp) rfl ⟨rfl,?_⟩
  rw [hA];rfl
 ·have hA:=hA false (by simpa using hb)
  rw [if_neg (by simp)] at hA
  cases hon:n.place.on
  ·refine enterO tabOk (N:=79) (gs:=[_]) (args:=[_,_,_]) Tryz.func58 rfl rfl rfl (nLe rfl) (fun E hE=>?_)
   conv=>whnf
   repeat' ((first|(refine Drw.len 16 15 rfl rfl ?_;refine Drw.lateP tabOk [0,1,2,3,4,5,6,7,8,9,10,11,12,13,14] [] [15] (by kernel_rfl) (by kernel_rfl) ?_)|refine LoopAt.few tabOk 3 ?_|(refine Drw.len 9 8 rfl rfl ?_;refine Drw.lateP tabOk [0,1,2,3,4,5,6,7] [] [8] (by kernel_rfl) (by kernel_rfl) ?_)|refine Br.of (by assumption) ?_|refine Br.pt (by omega) ?_|refine Br.pf (by omega) ?_|refine Br.of rfl ?_|refine CallD.pu (hr) rfl ?_|refine Ob.mk (by omega) ?_|refine Ob.mk (by unfold W.I64 at *;omega) ?_|refine Ix.of 0 rfl ?_|refine Ix.of 1 rfl ?_|refine Pc.lit ?_);conv=>whnf)
   refine FinAt.asis [] RvL.nil (by simp) (by show 1≤_;simp) rfl ⟨rfl,?_⟩
   rw [hA];rfl
  ·cases hcl:n.clean
   ·refine enterO tabOk (N:=79) (gs:=[_]) (args:=[_,_,_]) Tryz.func58 rfl rfl rfl (nLe rfl) (fun E hE=>?_)
    conv=>whnf
    repeat' ((first|(refine Drw.len 16 15 rfl rfl ?_;refine Drw.lateP tabOk [0,1,2,3,4,5,6,7,8,9,10,11,12,13,14] [] [15] (by kernel_rfl) (by kernel_rfl) ?_)|refine LoopAt.few tabOk 3 ?_|(refine Drw.len 9 8 rfl rfl ?_;refine Drw.lateP tabOk [0,1,2,3,4,5,6,7] [] [8] (by kernel_rfl) (by kernel_rfl) ?_)|refine Br.ot (by assumption) ?_|refine Br.of (by assumption) ?_|refine Br.pt (by omega) ?_|refine Br.pf (by omega) ?_|refine Br.of rfl ?_|refine CallD.pu (hr) rfl ?_|refine Ob.mk (by omega) ?_|refine Ob.mk (by unfold W.I64 at *;omega) ?_|refine Ix.of 0 rfl ?_|refine Ix.of 1 rfl ?_|refine Pc.lit ?_);conv=>whnf)
    refine FinAt.asis [] RvL.nil (by simp) (by show 1≤_;simp) rfl ⟨rfl,?_⟩
    rw [hA];rfl
   ·have hl:¬ ((at_.length:Nat):Int)=1:=fun e=>hb (by rw [hon,hcl,decide_eq_true (by omega)];rfl)
    refine enterO tabOk (N:=79) (gs:=[_]) (args:=[_,_,_]) Tryz.func58 rfl rfl rfl (nLe rfl) (fun E hE=>?_)
    conv=>whnf
    repeat' ((first|(refine Drw.len 16 15 rfl rfl ?_;refine Drw.lateP tabOk [0,1,2,3,4,5,6,7,8,9,10,11,12,13,14] [] [15] (by kernel_rfl) (by kernel_rfl) ?_)|refine LoopAt.few tabOk 3 ?_|(refine Drw.len 9 8 rfl rfl ?_;refine Drw.lateP tabOk [0,1,2,3,4,5,6,7] [] [8] (by kernel_rfl) (by kernel_rfl) ?_)|refine Br.ot (by assumption) ?_|refine Br.pf (by assumption) ?_|refine Br.pt (by omega) ?_|refine Br.pf (by omega) ?_|refine CallD.pu (hr) rfl ?_|refine Ob.mk (by omega) ?_|refine Ob.mk (by unfold W.I64 at *;omega) ?_|refine Ix.of 0 rfl ?_|refine Ix.of 1 rfl ?_|refine Pc.lit ?_);conv=>whnf)
    refine FinAt.asis [] RvL.nil (by simp) (by show 1≤_;simp) rfl ⟨rfl,?_⟩
    rw [hA];rfl
end Y
end Go.Proofs.YtllemifiammnnaaGreat
