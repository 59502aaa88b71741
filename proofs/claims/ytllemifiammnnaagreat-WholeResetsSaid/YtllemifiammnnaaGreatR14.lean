/- Part 14 of the proof. No condition. -/
import Derived.Test.YtllemifiammnnaaGreatR13
import Derived.Test.YtllemifiammnnaaGreatR11
import Derived.Test.YtllemifiammnnaaGreatR09
set_option linter.unusedVariables false
set_option linter.unusedSimpArgs false
set_option maxRecDepth 100000
set_option maxHeartbeats 4000000
namespace Go.Proofs.YtllemifiammnnaaGreat
namespace Y
open Go Go.RowKit Go.Sort
section
variable{c:W.Conf}{t:W.Trk}{s:W.Script}
theorem getD_memB{α:Type}{l:List α}{i:Nat}(d:α)(h:i<l.length):l.getD i d∈l:=by
 rw [List.getD_eq_getElem?_getD,List.getElem?_eq_getElem h];exact List.getElem_mem h
theorem yJunk(s:W.Script)(hb:ScrB s)(hn:s.ticks.length≤1000000)(hl:∀ i,i<s.ticks.length→∀ j,j<((s.ticks.getD i default).junk).length→((s.ticks.getD i default).junk.getD j []).length≤1000000):Ret Tryz.prog 29 [scrV s] (·=.bool (W.junkMay s)):=by
 refine enterO tabOk (N:=55) (gs:=[]) (args:=[_]) Tryz.func29 rfl rfl rfl (nLe rfl) (fun E hE=>?_)
 conv=>whnf
 refine LoopAt.rule tabOk [(1,_),(2,_)] (fun (i:Nat)=>[(3,.int .i64 (i:Int))]) (fun (i:Nat)=>[.blk (scrC s)]) (fun (i:Nat)=>i≤s.ticks.length∧∀ j,j<i→W.junkAt s j=true) (fun (i:Nat)=>s.ticks.length-i) 0 (by trivial) ⟨Nat.zero_le _,fun j hj=>absurd hj (by omega)⟩ (by trivial) (by trivial) (fun _=>⟨rfl,rfl,rfl,by simp [hE]⟩) (fun i hk=>?_)
 obtain⟨hk,hno⟩:=hk
 by_cases hlt:i<s.ticks.length
 ·have er:W.junkAt s i=(decide ((s.ticks.getD i default).junk.length≤27)&&W.allB (fun j=>W.junkText i ((s.ticks.getD i default).junk.getD j [])) (s.ticks.getD i default).junk.length):=rfl
  have no:W.junkAt s i=false→AV.bool false=.bool (W.junkMay s):=fun hf=>by
   unfold W.junkMay;rw [W.allB_no hlt hf]
  have hmem:s.ticks.getD i default∈s.ticks:=by simp [List.getD,hlt]
  conv=>whnf
  repeat' (first|((first|refine Br.pt (by omega) ?_|refine Ob.mk (by omega) ?_|refine Ix.nat _ ?_|refine FinAt.val rfl ?_);conv=>whnf)|((refine Br.d (fun h=>?_) (fun h=>?_))<;>conv=>whnf))
  ·exact no (by rw [er,decide_eq_false (by omega)];rfl)
  ·obtain⟨q,rfl⟩:∃ q,q=i:=⟨i,rfl⟩
   refine LoopAt.rule tabOk [(1,_),(2,_),(3,_)] (fun (i:Nat)=>[(4,.int .i64 (i:Int))]) (fun (i:Nat)=>[.blk (scrC s)]) (fun (i:Nat)=>i≤(s.ticks.getD q default).junk.length∧∀ j,j<i→W.junkText q ((s.ticks.getD q default).junk.getD j [])=true) (fun (i:Nat)=>(s.ticks.getD q default).junk.length-i) 0 (by trivial) ⟨Nat.zero_le _,fun j hj=>absurd hj (by omega)⟩ (by trivial) (by trivial) (fun _=>⟨rfl,rfl,rfl,by simp [hE]⟩) (fun i hk=>?_)
   obtain⟨hk2,hno2⟩:=hk
   by_cases hlt2:i<(s.ticks.getD q default).junk.length
   ·have hmem2:(s.ticks.getD q default).junk.getD i []∈(s.ticks.getD q default).junk:=getD_memB _ hlt2
    have eG:=r7Get ((s.ticks.getD q default).junk.getD i []) (hb _ hmem _ hmem2) (hl q hlt i hlt2)
    have e5:((q%256:Nat):Int)=(q:Int)%256:=rfl
    have er2:W.junkText q ((s.ticks.getD q default).junk.getD i [])=!(decide ((Fr.get ((s.ticks.getD q default).junk.getD i [])).err=0)&&decide ((Fr.get ((s.ticks.getD q default).junk.getD i [])).seq=(q:Int)%256)):=rfl
    conv=>whnf
    repeat' (first|((first|refine Br.pt (by assumption) ?_|refine Br.pf (by assumption) ?_|refine Br.pt (by omega) ?_|refine Br.of rfl ?_|refine CallS.q (eG) rfl ?_|refine Ob.mk (by omega) ?_|refine Ob.mk (by unfold W.I64 at *;omega) ?_|refine Ix.nat _ ?_|refine FinAt.val rfl ?_);conv=>whnf)|((refine Br.d (fun h=>?_) (fun h=>?_))<;>conv=>whnf))
    ·refine no ?_
     rw [er,W.allB_no hlt2 (by rw [er2,decide_eq_true (by assumption),decide_eq_true (by assumption)];rfl),Bool.and_false]
    ·exact⟨i+1,⟨hlt2,W.all_step hno2 (by rw [er2,decide_eq_false (p:=_=(q:Int)%256) (by assumption),Bool.and_false];rfl)⟩,by omega,(by trivial),(by trivial),(by trivial)⟩
    ·exact⟨i+1,⟨hlt2,W.all_step hno2 (by rw [er2,decide_eq_false (p:=_=(0:Int)) (by assumption)];rfl)⟩,by omega,(by trivial),(by trivial),(by trivial)⟩
   ·obtain rfl:i=(s.ticks.getD q default).junk.length:=by omega
    conv=>whnf
    repeat' ((first|refine Br.pf (by omega) ?_|refine Ob.mk (by omega) ?_|refine Ob.mk (by unfold W.I64 at *;omega) ?_|refine Ix.nat _ ?_);conv=>whnf)
    exact⟨q+1,⟨hlt,W.all_step hno (by rw [er,decide_eq_true (by omega),W.allB_yes hno2];rfl)⟩,by omega,(by trivial),(by trivial),(by trivial)⟩
 ·obtain rfl:i=s.ticks.length:=by omega
  conv=>whnf
  repeat' ((first|refine Br.pf (by omega) ?_|refine FinAt.val rfl ?_);conv=>whnf)
  unfold W.junkMay
  rw [W.allB_yes hno]
  rfl
structure ScrO(s:W.Script):Prop where
 b:ScrB s
 ticks:s.ticks.length≤1000000
 reads:s.reads.length≤1000000
 route:s.route.length≤1000000
 junk:∀ i,i<s.ticks.length→∀ j,j<((s.ticks.getD i default).junk).length→((s.ticks.getD i default).junk.getD j []).length≤1000000
 rd:∀ i,i<s.reads.length→W.I64 (s.reads.getD i default).cycle∧W.I64 (s.reads.getD i default).point
 grp:∀ i,i<s.reads.length→W.I64 (s.reads.getD i default).group
theorem yAdmit(c:W.Conf)(t:W.Trk)(s:W.Script)(h0:t.segs.length≤1000000)(h1:t.grps.length≤1000000)(hs:ScrO s):Ret Tryz.prog 15 [confV c,trkV t,scrV s] (·=I (W.admits c t s)):=by
 have eFit:=yFits c t h0 h1
 have hb:=hs.b
 have ht:=hs.ticks
 unfold W.admits
 refine enterO tabOk (N:=58) (gs:=[]) (args:=[_,_,_]) Tryz.func15 rfl rfl rfl (nLe rfl) (fun E hE=>?_)
 by_cases a1:(W.fitsR c t).1=0
 ·obtain⟨c1,c2⟩:=fitsR_zero a1
  have hR:=RChk.of c2
  have eRt:=yRoute t s.route h0 hs.route (fun k hk=>by have:=hR.ok.nok.2.1 k hk;omega)
  have hC:=(ConfOk.of (wrongR_ok c1)).b
  rw [if_neg (fun q=>q a1)]
  rw [a1] at eFit
  by_cases a2:W.routeMay t s.route=true
  ·rw [if_neg (by rw [a2];decide)]
   rw [a2] at eRt
   have eOn:=yOn t s hb (route_len a2).2 hs.ticks hR.lens (route_in a2)
   by_cases a3:W.onMay t s=true
   ·rw [if_neg (by rw [a3];decide)]
    rw [a3] at eOn
    have hn:=(on_facts a3).1
    have eSp:=ySpeeds c s hb hs.ticks (by have:=hC.maxSpeed;omega) hC.maxSpeed.2 (by have:=hC.maxAccel;omega) hC.maxAccel.2
    by_cases a4:W.speedsMay c s=true
    ·rw [if_neg (by rw [a4];decide)]
     rw [a4] at eSp
     have eNu:=yNumbers c s hb hs.ticks hC.accErr.1 hC.accErr.2
     by_cases a5:W.numbersMay c s=0
     ·rw [if_neg (fun q=>q a5)]
      rw [a5] at eNu
      have hA:AdN c t s:=⟨hR,hC,a2,a3,a4,a5⟩
      have eRd:=yReads hA hb hs.reads hs.rd
      have eJ:=yJunk s hb hs.ticks hs.junk
      conv=>whnf
      repeat' ((first|refine Br.nf (by omega) ?_|refine Br.of rfl ?_|refine CallS.q (eFit) rfl ?_|refine CallS.q (eRt) rfl ?_|refine CallS.q (eOn) rfl ?_|refine CallS.q (eSp) rfl ?_|refine CallS.q (eNu) rfl ?_);conv=>whnf)
      refine LoopAt.rule tabOk [(3,_),(4,_),(5,_),(6,_)] (fun (i:Nat)=>[(10,.int .i64 (i:Int))]) (fun (i:Nat)=>[.blk (confC c),.blk [sgsV t.segs,gpsV t.grps],.blk (scrC s)]) (fun (i:Nat)=>i≤s.ticks.length∧∀ j,j<i→W.sensorsMay c s j=true) (fun (i:Nat)=>s.ticks.length-i) 0 (by trivial) ⟨Nat.zero_le _,fun j hj=>absurd hj (by omega)⟩ (by trivial) (by trivial) (fun _=>⟨rfl,rfl,rfl,by simp [hE]⟩) (fun i hk=>?_)
      obtain⟨hk,hno⟩:=hk
      by_cases hlt:i<s.ticks.length
      ·have eS:=ySensors c s i hlt hb hA.sgo
       by_cases a6:W.sensorsMay c s i=true
       ·rw [a6] at eS
        conv=>whnf
        repeat' ((first|refine Br.pt (by omega) ?_|refine Br.of rfl ?_|refine CallS.q (eS) rfl ?_|refine Ob.mk (by unfold W.I64 at *;omega) ?_);conv=>whnf)
        exact⟨i+1,⟨hlt,W.all_step hno a6⟩,by omega,(by trivial),(by trivial),(by trivial)⟩
       ·rw [show W.sensorsMay c s i=false by simpa using a6] at eS
        rw [if_pos (by rw [W.allB_no hlt (show W.sensorsMay c s i=false by simpa using a6)];rfl)]
        conv=>whnf
        repeat' ((first|refine Br.pt (by omega) ?_|refine Br.ot rfl ?_|refine CallS.q (eS) rfl ?_|refine FinAt.val rfl ?_);conv=>whnf)
        rfl
      ·obtain rfl:i=s.ticks.length:=by omega
       rw [if_neg (by rw [W.allB_yes hno];decide)]
       by_cases a7:W.readsMay c t s=true
       ·rw [if_neg (by rw [a7];decide)]
        rw [a7] at eRd
        by_cases a8:W.junkMay s=true
        ·rw [if_neg (by rw [a8];decide)]
         rw [a8] at eJ
         conv=>whnf
         repeat' ((first|refine Br.pf (by omega) ?_|refine Br.of rfl ?_|refine CallS.q (eRd) rfl ?_|refine CallS.q (eJ) rfl ?_|refine FinAt.val rfl ?_);conv=>whnf)
         rfl
        ·rw [if_pos (by simpa using a8)]
         rw [show W.junkMay s=false by simpa using a8] at eJ
         conv=>whnf
         repeat' ((first|refine Br.pf (by omega) ?_|refine Br.ot rfl ?_|refine Br.of rfl ?_|refine CallS.q (eRd) rfl ?_|refine CallS.q (eJ) rfl ?_|refine FinAt.val rfl ?_);conv=>whnf)
         rfl
       ·rw [if_pos (by simpa using a7)]
        rw [show W.readsMay c t s=false by simpa using a7] at eRd
        conv=>whnf
        repeat' ((first|refine Br.pf (by omega) ?_|refine Br.ot rfl ?_|refine CallS.q (eRd) rfl ?_|refine FinAt.val rfl ?_);conv=>whnf)
        rfl
     ·rw [if_pos a5]
      conv=>whnf
      repeat' ((first|refine Br.nt (by assumption) ?_|refine Br.nf (by omega) ?_|refine Br.of rfl ?_|refine CallS.q (eFit) rfl ?_|refine CallS.q (eRt) rfl ?_|refine CallS.q (eOn) rfl ?_|refine CallS.q (eSp) rfl ?_|refine CallS.q (eNu) rfl ?_|refine FinAt.val rfl ?_);conv=>whnf)
      rfl
    ·rw [if_pos (by simpa using a4)]
     rw [show W.speedsMay c s=false by simpa using a4] at eSp
     conv=>whnf
     repeat' ((first|refine Br.nf (by omega) ?_|refine Br.ot rfl ?_|refine Br.of rfl ?_|refine CallS.q (eFit) rfl ?_|refine CallS.q (eRt) rfl ?_|refine CallS.q (eOn) rfl ?_|refine CallS.q (eSp) rfl ?_|refine FinAt.val rfl ?_);conv=>whnf)
     rfl
   ·rw [if_pos (by simpa using a3)]
    rw [show W.onMay t s=false by simpa using a3] at eOn
    conv=>whnf
    repeat' ((first|refine Br.nf (by omega) ?_|refine Br.ot rfl ?_|refine Br.of rfl ?_|refine CallS.q (eFit) rfl ?_|refine CallS.q (eRt) rfl ?_|refine CallS.q (eOn) rfl ?_|refine FinAt.val rfl ?_);conv=>whnf)
    rfl
  ·rw [if_pos (by simpa using a2)]
   rw [show W.routeMay t s.route=false by simpa using a2] at eRt
   conv=>whnf
   repeat' ((first|refine Br.nf (by omega) ?_|refine Br.ot rfl ?_|refine CallS.q (eFit) rfl ?_|refine CallS.q (eRt) rfl ?_|refine FinAt.val rfl ?_);conv=>whnf)
   rfl
 ·rw [if_pos a1]
  conv=>whnf
  repeat' ((first|refine Br.nt (by assumption) ?_|refine CallS.q (eFit) rfl ?_|refine FinAt.val rfl ?_);conv=>whnf)
  rfl
end
abbrev u1(x:Int):List AV:=[.int .u8 x]
theorem u1_len(x:Int):(u1 x).length=1:=rfl
theorem okU{k:Nat}{l:List Int}{r:List Value}:okO k [.blk (ar u1 l r)]=true:=by simp [okO,okL1_ar k (e:=u1) (fun x=>rfl)]
theorem u8_wrap{x:Int}(h0:0≤x)(h1:x<256):IntKind.u8.wrap x=x:=by
 simp only [IntKind.wrap,IntKind.bits,IntKind.signed]
 simp
 omega
def ints(l:List Nat):List Int:=l.map fun x:Nat=>(x:Int)
theorem ints_app(a b:List Nat):ints (a++b)=ints a++ints b:=by simp [ints]
theorem set_drop{l:List Int}{i:Nat}(x:Int)(h:i<l.length):(l.set i x).drop i=x::l.drop (i+1):=by
 rw [List.drop_eq_getElem_cons (by simpa using h),List.getElem_set_self,List.drop_set_of_lt (by omega)]
theorem bytes_fin{l:List Int}{e:List Nat}{n:Nat}(h:ints e=l)(hl:l.length=n)(hn:n≤1000):RvL [.blk (ar u1 l [])] [0] [.sl 0 0 1 n n] [bytesV e]:=by
 subst h
 have hel:e.length=n:=by rw [← hl];simp [ints]
 refine RvL.cons ?_ RvL.nil
 unfold bytesV
 rw [hel]
 refine Rv.slM (cs:=ar u1 (ints e) []) (by simp) rfl ⟨Nat.le_refl _,by simp [maxLen];omega⟩ (fun j hj=>?_)
 obtain⟨q1,q2⟩:=ar_el (e:=u1) (sz:=1) (fun _=>rfl) (r:=[]) (0:Int) (l:=ints e) (show j<(ints e).length by omega)
 refine⟨by omega,?_⟩
 rw [Nat.zero_add,q2]
 have:(ints e).getD j 0=((e.getD j 0:Nat):Int):=by
  have hj':j<e.length:=by omega
  simp [ints,List.getD,hj']
 rw [this]
 exact RvL.pu rfl
theorem putP(v:Int)(n:Nat)(hn:1≤n∧n≤8)(hv:0≤v∧v≤9223372036854775807)(m:Int)(hm:m=n):Ret Tryz.prog 52 [I v,I m] (·=bytesV (encN n v.toNat)):=by
 subst hm
 refine enterO tabOk (N:=46) (gs:=[]) (args:=[_,_]) Tryz.func52 rfl rfl rfl (nLe rfl) (fun E hE=>?_)
 conv=>whnf
 repeat' ((first|refine OpAt.mkSl (et:=5) (m:=n) (kd:=.u8) (e:=u1) (bts:=1) (fun _=>rfl) rfl (by kernel_rfl) (by kernel_rfl) (by omega) (by omega) rfl rfl ?_|refine Br.pf (by omega) ?_|refine Ob.mk (by unfold W.I64 at *;omega) ?_);conv=>whnf)
 refine LoopAt.rule tabOk [(4,_),(5,_)] (fun (i:Nat×Int×List Int)=>[(0,.int .i64 i.2.1),(8,.int .i64 ((i.1:Int)-1))]) (fun (i:Nat×Int×List Int)=>[.blk (ar u1 i.2.2 [])]) (fun (i:Nat×Int×List Int)=>i.1≤n∧(0≤i.2.1∧i.2.1≤9223372036854775807)∧i.2.2.length=n∧ints (encN n v.toNat)=ints (encN i.1 i.2.1.toNat)++i.2.2.drop i.1) (fun (i:Nat×Int×List Int)=>i.1) (n,v,List.replicate n 0) (by (repeat refine And.intro (by first|rfl|exact congrArg (fun z=>some (AV.int .i64 z)) (by first|omega|(dsimp only;omega))) ?_);exact trivial) ⟨Nat.le_refl _,hv,by simp,by simp [List.drop_of_length_le]⟩ (by (repeat refine And.intro (by first|rfl|exact congrArg (fun z=>some (AV.int .i64 z)) (by first|omega|(dsimp only;omega))) ?_);exact trivial) (by (repeat refine And.intro (by first|rfl|exact congrArg (fun z=>some (AV.int .i64 z)) (by first|omega|(dsimp only;omega))) ?_);exact trivial) (fun _=>⟨rfl,rfl,okU,by simp [hE]⟩) (fun i hk=>?_)
 obtain⟨j,q,l⟩:=i
 obtain⟨hj,hq,hl,he⟩:=hk
 dsimp only at hj hq hl he ⊢
 by_cases h0:j=0
 ·subst h0
  conv=>whnf
  repeat' ((refine Br.pf (by omega) ?_);conv=>whnf)
  rw [List.drop_zero] at he
  exact FinAt.gen [0] (bytes_fin (e:=encN n v.toNat) (by simpa [ints,encN] using he) hl (by omega)) (by repeat (first|exact Als.nil _|refine Als.cons rfl rfl ?_)) rfl
 ·obtain⟨i,rfl⟩:∃ i,j=i+1:=⟨j-1,by omega⟩
  have hw:IntKind.u8.wrap (q%256)=q%256:=u8_wrap (by omega) (by omega)
  have hix:(((i+1:Nat):Int)-1).toNat=i:=by omega
  conv=>whnf
  repeat' ((first|refine Ix.tn (by omega) ?_|refine Pc.sym ?_|refine StAt.el (e:=u1) (n:=1) u1_len _ rfl rfl _ (Nat.mul_one _).symm (by first|omega|(simp only [List.length_set];omega)) ?_|refine Br.pt (by omega) ?_|refine Ob.mk (by omega) ?_|refine Ob.mk (by unfold W.I64 at *;omega) ?_);conv=>whnf)
  rw [hw,hix]
  refine⟨(i,q/256,l.set (0+i*1) (q%256)),⟨by dsimp only;omega,by dsimp only;omega,by simpa using hl,?_⟩,by dsimp only;omega,(by (repeat refine And.intro (by first|rfl|exact congrArg (fun z=>some (AV.int .i64 z)) (by first|omega|(dsimp only;omega))) ?_);exact trivial),(by trivial),(by trivial)⟩
  dsimp only
  rw [he,encN,ints_app,List.append_assoc,show 0+i*1=i by omega,set_drop _ (by omega)]
  have e1:(q/256).toNat=q.toNat/256:=by omega
  have e2:((q.toNat%256:Nat):Int)=q%256:=by omega
  rw [e1]
  simp [ints,e2]
theorem putM(v:Int)(hv:-2147483648≤v∧v<0):Ret Tryz.prog 52 [I v,I 4] (·=bytesV (encN 4 (u32 v))):=by
 refine enterO tabOk (N:=46) (gs:=[]) (args:=[_,_]) Tryz.func52 rfl rfl rfl (nLe rfl) (fun E hE=>?_)
 conv=>whnf
 repeat' ((first|refine OpAt.mkSl (et:=5) (m:=4) (kd:=.u8) (e:=u1) (bts:=1) (fun _=>rfl) rfl (by kernel_rfl) (by kernel_rfl) (by omega) (by omega) rfl rfl ?_|refine Br.pt (by omega) ?_|refine Ob.mk (by unfold W.I64 at *;omega) ?_);conv=>whnf)
 refine LoopAt.rule tabOk [(4,_),(5,_)] (fun (i:Nat×Int×List Int)=>[(6,.int .i64 i.2.1),(7,.int .i64 ((i.1:Int)-1))]) (fun (i:Nat×Int×List Int)=>[.blk (ar u1 i.2.2 [])]) (fun (i:Nat×Int×List Int)=>i.1≤4∧(0≤i.2.1∧i.2.1<256 ^ i.1)∧i.2.2.length=4∧ints (encN 4 (u32 v))=ints (encN i.1 (256 ^ i.1-1-i.2.1).toNat)++i.2.2.drop i.1) (fun (i:Nat×Int×List Int)=>i.1) (4,-1-v,List.replicate 4 0) (by (repeat refine And.intro (by first|rfl|exact congrArg (fun z=>some (AV.int .i64 z)) (by first|omega|(dsimp only;omega))) ?_);exact trivial) ⟨Nat.le_refl _,⟨by dsimp only;omega,by dsimp only;omega⟩,rfl,by dsimp only;rw [show (256 ^ 4-1-(-1-v):Int).toNat=u32 v by unfold u32;omega];simp⟩ (by (repeat refine And.intro (by first|rfl|exact congrArg (fun z=>some (AV.int .i64 z)) (by first|omega|(dsimp only;omega))) ?_);exact trivial) (by (repeat refine And.intro (by first|rfl|exact congrArg (fun z=>some (AV.int .i64 z)) (by first|omega|(dsimp only;omega))) ?_);exact trivial) (fun _=>⟨rfl,rfl,okU,by simp [hE]⟩) (fun i hk=>?_)
 obtain⟨j,q,l⟩:=i
 obtain⟨hj,hq,hl,he⟩:=hk
 dsimp only at hj hq hl he ⊢
 by_cases h0:j=0
 ·subst h0
  conv=>whnf
  repeat' ((refine Br.pf (by omega) ?_);conv=>whnf)
  rw [List.drop_zero] at he
  exact FinAt.gen [0] (bytes_fin (e:=encN 4 (u32 v)) (by simpa [ints,encN] using he) hl (by omega)) (by repeat (first|exact Als.nil _|refine Als.cons rfl rfl ?_)) rfl
 ·obtain⟨i,rfl⟩:∃ i,j=i+1:=⟨j-1,by omega⟩
  have hp:(256:Int) ^ (i+1)=256 ^ i*256:=Int.pow_succ _ _
  have hp0:0<(256:Int) ^ i:=Int.pow_pos (by omega)
  have hple:(256:Int) ^ (i+1)≤4294967296:=by
   have:i≤3:=by omega
   match i,this with
   |0,_|1,_|2,_|3,_=>decide
  obtain⟨P,hP⟩:∃ P,P=(256:Int) ^ i:=⟨_,rfl⟩
  rw [← hP] at hp hp0
  have hw:IntKind.u8.wrap (255-q%256)=255-q%256:=u8_wrap (by omega) (by omega)
  have hix:(((i+1:Nat):Int)-1).toNat=i:=by omega
  conv=>whnf
  repeat' ((first|refine Ix.tn (by omega) ?_|refine Pc.sym ?_|refine StAt.el (e:=u1) (n:=1) u1_len _ rfl rfl _ (Nat.mul_one _).symm (by first|omega|(simp only [List.length_set];omega)) ?_|refine Br.pt (by omega) ?_|refine Ob.mk (by omega) ?_|refine Ob.mk (by unfold W.I64 at *;omega) ?_);conv=>whnf)
  rw [hw,hix]
  refine⟨(i,q/256,l.set (0+i*1) (255-q%256)),⟨by dsimp only;omega,⟨by dsimp only;omega,by dsimp only;rw [← hP];omega⟩,by simpa using hl,?_⟩,by dsimp only;omega,(by (repeat refine And.intro (by first|rfl|exact congrArg (fun z=>some (AV.int .i64 z)) (by first|omega|(dsimp only;omega))) ?_);exact trivial),(by trivial),(by trivial)⟩
  dsimp only
  rw [he,encN,ints_app,List.append_assoc,show 0+i*1=i by omega,set_drop _ (by omega)]
  have e1:(256 ^ (i+1)-1-q:Int).toNat/256=(256 ^ i-1-q/256:Int).toNat:=by rw [hp,← hP];omega
  have e2:(((256 ^ (i+1)-1-q:Int).toNat%256:Nat):Int)=255-q%256:=by rw [hp];omega
  rw [e1]
  simp [ints,e2]
def bc(l:List Nat):List (List AV):=l.map fun x:Nat=>[.int .u8 (x:Int)]
theorem bc_len(l:List Nat):(bc l).length=l.length:=by simp [bc]
theorem bc_app(a b:List Nat):bc (a++b)=bc a++bc b:=by simp [bc]
theorem apU8:Ap Tryz.prog 85 5 1:=⟨.int .u8 0,1,by kernel_rfl,by kernel_rfl,rfl,by decide,by decide⟩
theorem bc_range(e:List Nat):(List.range e.length).map (fun i=>[AV.int .u8 ((e.getD i 0:Nat):Int)])=bc e:=by
 unfold bc
 apply List.ext_getElem?
 intro i
 rw [List.getElem?_map,List.getElem?_map]
 by_cases h:i<e.length
 ·simp [h,List.getD]
 ·rw [List.getElem?_eq_none (by simpa using h),List.getElem?_eq_none (by omega)];rfl
theorem XsB{own:Ow}(e:List Nat)(h:0<e.length):Xs own [] (bytesV e) e.length 1 (bc e):=by
 have:=Xs.lst (own:=own) (sz:=1) (f:=fun i=>[AV.int .u8 ((e.getD i 0:Nat):Int)]) h (fun i _=>rfl)
 rw [bc_range] at this
 exact this
theorem gro_bytes{own:Ow}{i m:Nat}{I:List Nat}{ty:Nat}{e:List Nat}(hi:i∈I)(hb:nth own i=some (.buf ty 1 (bc e)))(hm:e.length=m):Rv own I (.gro i m) (bytesV e):=by
 subst hm
 exact Rv.gro hi hb (bc_len e) (fun j hj=>PLe.of (by simp [bc,List.getD,hj]))
def packS(t:W.Trk)(k:Nat):List Nat:=headT++(encN 2 t.segs.length++(t.segs.take k).flatMap encS)
def packG(t:W.Trk)(k:Nat):List Nat:=packS t t.segs.length++(encN 2 t.grps.length++(t.grps.take k).flatMap encG)
theorem take_flat{α:Type}(f:α→List Nat){l:List α}{k:Nat}(h:k<l.length)(d:α):(l.take (k+1)).flatMap f=(l.take k).flatMap f++f (l.getD k d):=by
 rw [List.take_succ_eq_append_getElem h,List.flatMap_append]
 simp [List.getD,h]
theorem packS_succ{t:W.Trk}{k:Nat}(h:k<t.segs.length):packS t (k+1)=packS t k++encS (t.segs.getD k default):=by
 unfold packS
 rw [take_flat encS h default]
 simp only [List.append_assoc]
theorem packG_succ{t:W.Trk}{k:Nat}(h:k<t.grps.length):packG t (k+1)=packG t k++encG (t.grps.getD k default):=by
 unfold packG
 rw [take_flat encG h default]
 simp only [List.append_assoc]
theorem packG_all(t:W.Trk):packG t t.grps.length=headT++encT t:=by
 unfold packG packS encT
 rw [List.take_length,List.take_length]
 simp only [List.append_assoc]
def segA(s:W.Seg)(k:Nat):List Nat:=encN 8 s.length.toNat++(encN 1 s.pieces.length++(s.pieces.take k).flatMap encPiece)
def segB(s:W.Seg)(k:Nat):List Nat:=segA s s.pieces.length++(encN 1 s.next.length++(s.next.take k).flatMap fun x=>encN 1 x.toNat)
theorem segA_succ{s:W.Seg}{k:Nat}(h:k<s.pieces.length):segA s (k+1)=segA s k++encPiece (s.pieces.getD k default):=by
 unfold segA
 rw [take_flat encPiece h default]
 simp only [List.append_assoc]
theorem segB_succ{s:W.Seg}{k:Nat}(h:k<s.next.length):segB s (k+1)=segB s k++encN 1 (s.next.getD k 0).toNat:=by
 unfold segB
 rw [take_flat (fun x=>encN 1 x.toNat) h 0]
 simp only [List.append_assoc]
theorem segB_all(s:W.Seg):segB s s.next.length=encS s:=by
 unfold segB segA encS
 rw [List.take_length,List.take_length]
 simp only [List.append_assoc]
theorem segA_len(s:W.Seg)(k:Nat):(segA s k).length≤9+12*k:=by
 unfold segA
 simp only [List.length_append,encN_len]
 have h1:=flatMap_le (f:=encPiece) (n:=12) (l:=s.pieces.take k) fun x _=>by unfold encPiece;simp [encN_len]
 have h2:=List.length_take_le k s.pieces
 have:=Nat.mul_le_mul_right 12 h2
 omega
theorem segB_len{s:W.Seg}(hs:SgB s)(k:Nat)(hk:k≤s.next.length):(segB s k).length≤1000:=by
 unfold segB
 simp only [List.length_append,encN_len]
 have h0:=segA_len s s.pieces.length
 have h1:=flatMap_le (f:=fun x:Int=>encN 1 x.toNat) (n:=1) (l:=s.next.take k) fun x _=>by simp [encN_len]
 have h2:=List.length_take_le k s.next
 have:=hs.pn
 have:=hs.nn
 omega
theorem packS_len{t:W.Trk}(h:ImgOk t)(k:Nat)(hk:k≤t.segs.length):(packS t k).length≤200006:=by
 unfold packS headT
 simp only [List.length_append,encN_len,List.length_cons,List.length_nil]
 have h1:=flatMap_le (f:=encS) (n:=1000) (l:=t.segs.take k) fun x hx=>encS_len (h.sg x (List.mem_of_mem_take hx))
 have h2:=List.length_take_le k t.segs
 have:=h.sn
 omega
theorem packG_len{t:W.Trk}(h:ImgOk t)(k:Nat)(hk:k≤t.grps.length):(packG t k).length≤300000:=by
 unfold packG
 simp only [List.length_append,encN_len]
 have h0:=packS_len h t.segs.length (Nat.le_refl _)
 have h1:=flatMap_le (f:=encG) (n:=19) (l:=t.grps.take k) fun x _=>by unfold encG;simp [encN_len]
 have h2:=List.length_take_le k t.grps
 have:=h.gn
 omega
theorem enc1{x:Int}(h:0≤x∧x<256):encN 1 x.toNat=[x.toNat]:=by
 show [x.toNat%256]=[x.toNat]
 rw [Nat.mod_eq_of_lt (by omega)]
theorem putG(g:Int)(hg:-2147483648≤g∧g<2147483648):Ret Tryz.prog 52 [I g,I 4] (·=bytesV (encN 4 (u32 g))):=by
 by_cases h:g<0
 ·exact putM g ⟨hg.1,h⟩
 ·have:=putP g 4 (by omega) (by omega) 4 rfl
  have e:g.toNat=u32 g:=by unfold u32;omega
  rw [e] at this
  exact this
theorem packC(t:W.Trk)(h:ImgOk t):Ret Tryz.prog 31 [trkV t] (·=bytesV (packT t)):=by
 have hsn:=h.sn
 have hgn:=h.gn
 have e0:packS t 0=headT++encN 2 t.segs.length:=by unfold packS;simp
 refine enterO tabOk (N:=145) (gs:=[]) (args:=[_]) Tryz.func31 rfl rfl rfl (nLe rfl) (fun E hE=>?_)
 have hp2:=putP t.segs.length 2 (by omega) (by omega) 2 rfl
 have hq2:=putP t.grps.length 2 (by omega) (by omega) 2 rfl
 rw [Int.toNat_natCast] at hp2 hq2
 conv=>whnf
 repeat' ((first|refine BsN.sem (OpAt.bsG tabOk rfl rfl rfl rfl rfl ?_)|refine⟨rfl,rfl,?_⟩|refine OpAt.appG apU8 rfl [] rfl rfl rfl rfl (by simp) (Als.nil _) (by simp) (XsB _ (by simp [encN_len])) (by simp [encN_len]) (by simp [encN_len]) ?_|refine CallS.q (hp2) rfl ?_);conv=>whnf)
 refine LoopAt.rule tabOk [(1,_),(2,_)] (fun (i:Nat×Nat×List (List AV))=>[(4,.int .i64 i.1),(3,.gro 1 i.2.1)]) (fun (i:Nat×Nat×List (List AV))=>[.blk [sgsV t.segs,gpsV t.grps],.buf 5 1 i.2.2]) (fun (i:Nat×Nat×List (List AV))=>i.1≤t.segs.length∧i.2.1=(packS t i.1).length∧i.2.2=bc (packS t i.1)) (fun (i:Nat×Nat×List (List AV))=>t.segs.length-i.1) (0,4+(encN 2 t.segs.length).length,bc headT++bc (encN 2 t.segs.length)) (by trivial) ⟨by simp,by dsimp only;rw [e0];simp [headT];omega,by dsimp only;rw [e0,bc_app]⟩ (by trivial) (by trivial) (fun _=>⟨rfl,rfl,rfl,by simp [hE]⟩) (fun i hk=>?_)
 obtain⟨k,n,cs⟩:=i
 obtain⟨hk,hn,hcs⟩:=hk
 dsimp only at hk hn hcs ⊢
 have hcl:cs.length=n:=by rw [hcs,bc_len,hn]
 have hnb:n≤200006:=by rw [hn];exact packS_len h k hk
 by_cases hlt:k<t.segs.length
 ·have hs:=h.sg (t.segs.getD k default) (by simp [List.getD,hlt])
  have hlen:=hs.len
  have hpn:=hs.pn
  have hnn:=hs.nn
  have hsucc:=packS_succ hlt
  obtain⟨s,hse⟩:∃ s,s=t.segs.getD k default:=⟨_,rfl⟩
  rw [← hse] at hs hlen hpn hnn hsucc
  have hp8:=putP s.length 8 (by omega) (by omega) 8 rfl
  have hw1:IntKind.u8.wrap (s.pieces.length:Int)=(s.pieces.length:Int):=u8_wrap (by omega) (by omega)
  have hw2:IntKind.u8.wrap (s.next.length:Int)=(s.next.length:Int):=u8_wrap (by omega) (by omega)
  have hsl:(s.pieces.length:Int)=((s.pieces.length:Nat):Int):=rfl
  rw [hse] at hp8
  conv=>whnf
  repeat' ((first|refine OpAt.appG apU8 rfl [] rfl rfl rfl (by simp [bc_len,encN_len,hcl]) (by simp) (Als.nil _) (by simp) (XsB _ (by simp [encN_len])) (by simp [encN_len]) (by (try simp only [encN_len,List.length_cons,List.length_nil]);omega) ?_|refine OpAt.appG apU8 rfl [] rfl rfl rfl (by simp [bc_len,encN_len,hcl]) (by simp) (Als.nil _) (by simp) (Xs.one rfl rfl rfl (RvL.pu rfl) rfl) (by decide) (by (try simp only [encN_len,List.length_cons,List.length_nil]);omega) ?_|refine Br.pt (by omega) ?_|refine CallS.q (hp8) rfl ?_|refine Ob.mk (by omega) ?_|refine Ix.nat _ ?_|refine BsN.mark ?_);conv=>whnf)
  rw [← hse,hw1]
  refine LoopAt.rule tabOk [(1,_),(2,_),(4,_),(5,_)] (fun (i:Nat×Nat×List (List AV))=>[(6,.int .i64 i.1),(3,.gro 1 i.2.1)]) (fun (i:Nat×Nat×List (List AV))=>[.blk [sgsV t.segs,gpsV t.grps],.buf 5 1 i.2.2,.blk (sgC s)]) (fun (i:Nat×Nat×List (List AV))=>i.1≤s.pieces.length∧i.2.1=n+(segA s i.1).length∧i.2.2=cs++bc (segA s i.1)) (fun (i:Nat×Nat×List (List AV))=>s.pieces.length-i.1) (0,n+(encN 8 s.length.toNat).length+1,cs++bc (encN 8 s.length.toNat)++bc [s.pieces.length]) (by trivial) ⟨by simp,by simp [segA,encN_len],by dsimp only;rw [segA,List.take_zero,List.flatMap_nil,List.append_nil,bc_app,List.append_assoc];congr 2;show bc [s.pieces.length]=bc [s.pieces.length%256];rw [Nat.mod_eq_of_lt (by omega)]⟩ (by trivial) (by trivial) (fun _=>⟨rfl,rfl,rfl,by simp [hE]⟩) (fun i hk=>?_)
  obtain⟨a,m,ds⟩:=i
  obtain⟨ha,hm,hds⟩:=hk
  dsimp only at ha hm hds ⊢
  have hcl2:ds.length=m:=by rw [hds,List.length_append,bc_len,hcl,hm]
  have hal:=segA_len s a
  by_cases hlt2:a<s.pieces.length
  ·have hp:=hs.pc (s.pieces.getD a default) (by simp [List.getD,hlt2])
   obtain⟨hp1,hp2,hp3,hp4⟩:=hp
   have q8:=putP (s.pieces.getD a default).from_ 8 (by omega) (by omega) 8 rfl
   have q4:=putG (s.pieces.getD a default).grade ⟨hp3,hp4⟩
   conv=>whnf
   repeat' ((first|refine OpAt.appG apU8 rfl [] rfl rfl rfl (by simp [bc_len,encN_len,hcl2]) (by simp) (Als.nil _) (by simp) (XsB _ (by simp [encN_len])) (by simp [encN_len]) (by (try simp only [encN_len,List.length_cons,List.length_nil]);omega) ?_|refine Br.pt (by omega) ?_|refine CallS.q (q8) rfl ?_|refine CallS.q (q4) rfl ?_|refine Ob.mk (by omega) ?_|refine Ob.mk (by unfold W.I64 at *;omega) ?_|refine Ix.nat _ ?_);conv=>whnf)
   refine⟨(a+1,_,_),⟨by dsimp only;omega,?_,?_⟩,by dsimp only;omega,(by trivial),(by trivial),(by trivial)⟩
   ·dsimp only;rw [segA_succ hlt2,hm];simp [encPiece,encN_len];omega
   ·dsimp only;rw [segA_succ hlt2,hds,bc_app];simp [encPiece,bc_app]
  ·obtain rfl:a=s.pieces.length:=by omega
   conv=>whnf
   repeat' ((first|refine OpAt.appG apU8 rfl [] rfl rfl rfl (by simp [bc_len,encN_len,hcl2]) (by simp) (Als.nil _) (by simp) (Xs.one rfl rfl rfl (RvL.pu rfl) rfl) (by decide) (by (try simp only [encN_len,List.length_cons,List.length_nil]);omega) ?_|refine Br.pf (by omega) ?_|refine BsN.mark ?_);conv=>whnf)
   rw [hw2]
   refine LoopAt.rule tabOk [(1,_),(2,_),(4,_),(5,_)] (fun (i:Nat×Nat×List (List AV))=>[(7,.int .i64 i.1),(3,.gro 1 i.2.1)]) (fun (i:Nat×Nat×List (List AV))=>[.blk [sgsV t.segs,gpsV t.grps],.buf 5 1 i.2.2,.blk (sgC s)]) (fun (i:Nat×Nat×List (List AV))=>i.1≤s.next.length∧i.2.1=n+(segB s i.1).length∧i.2.2=cs++bc (segB s i.1)) (fun (i:Nat×Nat×List (List AV))=>s.next.length-i.1) (0,m+1,ds++bc [s.next.length]) (by trivial) ⟨by simp,by simp [segB,encN_len,hm];omega,by dsimp only;rw [segB,List.take_zero,List.flatMap_nil,List.append_nil,bc_app,hds,List.append_assoc];congr 2;show bc [s.next.length]=bc [s.next.length%256];rw [Nat.mod_eq_of_lt (by omega)]⟩ (by trivial) (by trivial) (fun _=>⟨rfl,rfl,rfl,by simp [hE]⟩) (fun i hk=>?_)
   clear hm hds hcl2 hal
   obtain⟨b,m,ds⟩:=i
   obtain⟨hb,hm,hds⟩:=hk
   dsimp only at hb hm hds ⊢
   have hcl2:ds.length=m:=by rw [hds,List.length_append,bc_len,hcl,hm]
   have hbl:=segB_len hs b hb
   by_cases hlt3:b<s.next.length
   ·have hx:=hs.nx (s.next.getD b 0) (by simp [List.getD,hlt3])
    have hw3:IntKind.u8.wrap (s.next.getD b 0)=(((s.next.getD b 0).toNat:Nat):Int):=by rw [u8_wrap hx.1 hx.2];omega
    conv=>whnf
    repeat' ((first|refine OpAt.appG apU8 rfl [] rfl rfl rfl (by simp [bc_len,encN_len,hcl2]) (by simp) (Als.nil _) (by simp) (Xs.one rfl rfl rfl (RvL.pu rfl) rfl) (by decide) (by (try simp only [encN_len,List.length_cons,List.length_nil]);omega) ?_|refine Br.pt (by omega) ?_|refine Ob.mk (by omega) ?_|refine Ob.mk (by unfold W.I64 at *;omega) ?_|refine Ix.nat _ ?_|refine BsN.mark ?_);conv=>whnf)
    rw [hw3]
    refine⟨(b+1,m+1,ds++bc [(s.next.getD b 0).toNat]),⟨by dsimp only;omega,?_,?_⟩,by dsimp only;omega,(by trivial),(by trivial),(by trivial)⟩
    ·dsimp only;rw [segB_succ hlt3,hm];simp [encN_len];omega
    ·dsimp only;rw [segB_succ hlt3,hds,bc_app,enc1 hx];simp
   ·obtain rfl:b=s.next.length:=by omega
    conv=>whnf
    repeat' ((first|refine Br.pf (by omega) ?_|refine Ob.mk (by unfold W.I64 at *;omega) ?_);conv=>whnf)
    refine⟨(k+1,m,ds),⟨by dsimp only;omega,?_,?_⟩,by dsimp only;omega,(by trivial),(by trivial),(by trivial)⟩
    ·dsimp only;rw [hsucc,hm,hn,List.length_append,segB_all]
    ·dsimp only;rw [hsucc,hds,hcs,bc_app,segB_all]
 ·obtain rfl:k=t.segs.length:=by omega
  conv=>whnf
  repeat' ((first|refine OpAt.appG apU8 rfl [] rfl rfl rfl (by simp [bc_len,encN_len,hcl]) (by simp) (Als.nil _) (by simp) (XsB _ (by simp [encN_len])) (by simp [encN_len]) (by (try simp only [encN_len,List.length_cons,List.length_nil]);omega) ?_|refine Br.pf (by omega) ?_|refine CallS.q (hq2) rfl ?_);conv=>whnf)
  refine LoopAt.rule tabOk [(1,_),(2,_)] (fun (i:Nat×Nat×List (List AV))=>[(8,.int .i64 i.1),(3,.gro 1 i.2.1)]) (fun (i:Nat×Nat×List (List AV))=>[.blk [sgsV t.segs,gpsV t.grps],.buf 5 1 i.2.2]) (fun (i:Nat×Nat×List (List AV))=>i.1≤t.grps.length∧i.2.1=(packG t i.1).length∧i.2.2=bc (packG t i.1)) (fun (i:Nat×Nat×List (List AV))=>t.grps.length-i.1) (0,n+(encN 2 t.grps.length).length,cs++bc (encN 2 t.grps.length)) (by trivial) ⟨by simp,by dsimp only;rw [packG,hn];simp,by dsimp only;rw [packG,hcs];simp [bc_app]⟩ (by trivial) (by trivial) (fun _=>⟨rfl,rfl,rfl,by simp [hE]⟩) (fun i hk=>?_)
  clear hn hcs hcl hnb
  obtain⟨k,n,cs⟩:=i
  obtain⟨hk,hn,hcs⟩:=hk
  dsimp only at hk hn hcs ⊢
  have hcl:cs.length=n:=by rw [hcs,bc_len,hn]
  have hnb:n≤300000:=by rw [hn];exact packG_len h k hk
  by_cases hlt:k<t.grps.length
  ·have hg:=h.gp (t.grps.getD k default) (by simp [List.getD,hlt])
   have hsucc:=packG_succ hlt
   obtain⟨g1,g2,g3,g4,g5⟩:=hg
   have q1:=putP (t.grps.getD k default).id 2 (by omega) (by omega) 2 rfl
   have q3:=putP (t.grps.getD k default).offset 8 (by omega) (by omega) 8 rfl
   have q4:=putP (t.grps.getD k default).acc 4 (by omega) (by omega) 4 rfl
   have q5:=putP (t.grps.getD k default).slack 4 (by omega) (by omega) 4 rfl
   have hw3:IntKind.u8.wrap (t.grps.getD k default).seg=(((t.grps.getD k default).seg.toNat:Nat):Int):=by rw [u8_wrap g2.1 g2.2];omega
   conv=>whnf
   repeat' ((first|refine OpAt.appG apU8 rfl [] rfl rfl rfl (by simp [bc_len,encN_len,hcl]) (by simp) (Als.nil _) (by simp) (XsB _ (by simp [encN_len])) (by simp [encN_len]) (by (try simp only [encN_len,List.length_cons,List.length_nil]);omega) ?_|refine OpAt.appG apU8 rfl [] rfl rfl rfl (by simp [bc_len,encN_len,hcl]) (by simp) (Als.nil _) (by simp) (Xs.one rfl rfl rfl (RvL.pu rfl) rfl) (by decide) (by (try simp only [encN_len,List.length_cons,List.length_nil]);omega) ?_|refine Br.pt (by omega) ?_|refine CallS.q (q1) rfl ?_|refine CallS.q (q3) rfl ?_|refine CallS.q (q4) rfl ?_|refine CallS.q (q5) rfl ?_|refine Ob.mk (by omega) ?_|refine Ob.mk (by unfold W.I64 at *;omega) ?_|refine Ix.nat _ ?_|refine BsN.mark ?_);conv=>whnf)
   rw [hw3]
   refine⟨(k+1,_,cs++bc (encN 2 (t.grps.getD k default).id.toNat)++bc [(t.grps.getD k default).seg.toNat]++bc (encN 8 (t.grps.getD k default).offset.toNat)++bc (encN 4 (t.grps.getD k default).acc.toNat)++bc (encN 4 (t.grps.getD k default).slack.toNat)),⟨by dsimp only;omega,?_,?_⟩,by dsimp only;omega,(by trivial),(by trivial),(by trivial)⟩
   ·dsimp only;rw [hsucc,hn];simp [encG,encN_len]
   ·dsimp only;rw [hsucc,hcs,bc_app];simp only [encG,bc_app,enc1 g2,List.append_assoc]
  ·obtain rfl:k=t.grps.length:=by omega
   rw [packG_all] at hn hcs
   have hsum:=r6Sum (headT++encT t) (headE_b t) (by rw [← hn];omega)
   have hlt16:=(Crc.sum (headT++encT t)).isLt
   conv=>whnf
   repeat' ((refine Br.pf (by omega) ?_);conv=>whnf)
   subst hcs
   refine CallS.call (CallN.flat [1] (RvL.cons (gro_bytes (by simp) rfl hn.symm) RvL.nil) (by repeat (first|exact Als.nil _|refine Als.cons rfl rfl ?_)) hsum (fun r hr=>by subst hr;rfl) (fun r hr=>?_))
   subst hr
   obtain⟨x,hx⟩:∃ x,x=(Crc.sum (headT++encT t)).toNat:=⟨_,rfl⟩
   have hpt:packT t=(headT++encT t)++[x/256,x%256]:=by rw [hx];rfl
   rw [← hx] at hlt16 ⊢
   have hw1:IntKind.u8.wrap ((x:Int)/256)=((x/256:Nat):Int):=by rw [u8_wrap (by omega) (by omega)];rfl
   have hw2:IntKind.u8.wrap ((x:Int)%256)=((x%256:Nat):Int):=by rw [u8_wrap (by omega) (by omega)];rfl
   conv=>whnf
   repeat' ((first|refine OpAt.appG (es:=[[AV.int .u8 (IntKind.u8.wrap ((x:Int)/256))],[AV.int .u8 (IntKind.u8.wrap ((x:Int)%256))]]) apU8 rfl [] rfl rfl rfl hcl (by simp) (Als.nil _) (by simp) (Xs.sl rfl rfl (fun y hy=>by simp only [List.mem_cons,List.not_mem_nil,or_false] at hy;rcases hy with rfl|rfl<;>rfl) rfl (RvL.pu rfl)) (by decide) (by omega) ?_|refine Ob.mk (by omega) ?_|refine Ob.mk (by unfold W.I64 at *;omega) ?_|refine BsN.mark ?_);conv=>whnf)
   rw [hw1,hw2]
   have hb:bc (headT++encT t)++[[AV.int .u8 ((x/256:Nat):Int)],[AV.int .u8 ((x%256:Nat):Int)]]=bc (packT t):=by rw [hpt,bc_app (headT++encT t)];rfl
   rw [hb]
   exact FinAt.gen [1] (RvL.cons (gro_bytes (by simp) rfl (by rw [hpt,List.length_append,← hn];rfl)) RvL.nil) (by repeat (first|exact Als.nil _|refine Als.cons rfl rfl ?_)) rfl
theorem r7Size(k:Int)(hk:W.I64 k):Ret Tryz.prog 67 [I k] (·=I (Fr.sz k)):=by
 unfold W.I64 at hk
 by_cases h1:k<1∨5<k
 ·rw [show Fr.sz k=0 by unfold Fr.sz;rw [if_neg (by omega),if_neg (by omega)]]
  refine enterO tabOk (N:=14) (gs:=[]) (args:=[_]) Tryz.func67 rfl rfl rfl (nLe rfl) (fun E hE=>?_)
  conv=>whnf
  repeat' (first|((first|refine Br.pt (by assumption) ?_|refine Br.pf (by assumption) ?_|refine Br.pt (by omega) ?_|refine Br.ot rfl ?_|refine FinAt.val rfl ?_);conv=>whnf)|((refine Br.d (fun h=>?_) (fun h=>?_))<;>conv=>whnf))
  all_goals first|rfl|omega
 ·obtain rfl|rfl|rfl|rfl|rfl:k=1∨k=2∨k=3∨k=4∨k=5:=by omega
  all_goals
   refine enterO tabOk (N:=14) (gs:=[]) (args:=[_]) Tryz.func67 rfl rfl rfl (nLe rfl) (fun E hE=>?_)
   conv=>whnf
   repeat' ((first|refine Br.pf (by omega) ?_|refine Ob.mk (by omega) ?_|refine Ob.mk (by simp only [Option.getD_some,Option.getD_none];omega) ?_|refine Ix.of 1 rfl ?_|refine Ix.nat _ ?_|refine Pc.lit ?_|refine FinAt.val rfl ?_);conv=>whnf)
   all_goals rfl
theorem be2(v:Int):Fr.be 2 v=[(v/256%256).toNat,(v%256).toNat]:=rfl
theorem be4(v:Int):Fr.be 4 v=[(v/256/256/256%256).toNat,(v/256/256%256).toNat,(v/256%256).toNat,(v%256).toNat]:=rfl
theorem kinds{kind:Int}{n:Nat}(h:Fr.sz kind=n)(hn:n≠0):1≤kind∧kind≤5:=by
 unfold Fr.sz at h
 split at h
 ·omega
 ·split at h<;>omega
theorem r7PutB(kind seq v:Int)(hk:W.I64 kind)(hs:W.I64 seq)(hv:W.I64 v)(h:Fr.sz kind=2)(ho:okB kind seq v=true):Ret Tryz.prog 34 [.agg [I kind,I seq,I v]] (·=.tup [bytesV (Fr.bytes kind seq v),I 0]):=by
 have eZ:=r7Size kind hk
 rw [h] at eZ
 have hkk:=kinds h (by omega)
 unfold W.I64 at hk hs hv
 have hb:(0≤seq∧seq≤255)∧0≤v∧v≤65535:=by
  unfold okB at ho
  rw [if_neg (by omega)] at ho
  simpa using ho
 have q1:IntKind.u8.wrap kind=((kind.toNat:Nat):Int):=by rw [u8_wrap (by omega) (by omega)];omega
 have q2:IntKind.u8.wrap seq=((seq.toNat:Nat):Int):=by rw [u8_wrap (by omega) (by omega)];omega
 have w0:IntKind.u8.wrap (v/256%256)=(((v/256%256).toNat:Nat):Int):=by rw [u8_wrap (by omega) (by omega)];omega
 have w1:IntKind.u8.wrap (v%256)=(((v%256).toNat:Nat):Int):=by rw [u8_wrap (by omega) (by omega)];omega
 refine enterO tabOk (N:=85) (gs:=[]) (args:=[_]) Tryz.func34 rfl rfl rfl (nLe rfl) (fun E hE=>?_)
 conv=>whnf
 repeat' ((first|refine BsN.sem (OpAt.bsG (len:=3) tabOk rfl rfl rfl rfl rfl ?_)|refine⟨rfl,rfl,?_⟩|refine OpAt.appG (es:=[[AV.int .u8 (IntKind.u8.wrap (v/256%256))],[AV.int .u8 (IntKind.u8.wrap (v%256))]]) apU8 rfl [] rfl rfl rfl rfl (by simp) (Als.nil _) (by simp) (Xs.sl rfl rfl (fun y hy=>by simp only [List.mem_cons,List.not_mem_nil,or_false] at hy;rcases hy with rfl|rfl<;>rfl) rfl (RvL.pu rfl)) (by decide) (by omega) ?_|refine Br.pf (by omega) ?_|refine CallS.q (eZ) rfl ?_|refine Ob.mk (by omega) ?_|refine Ob.mk (by unfold W.I64 at *;omega) ?_|refine BsN.mark ?_);conv=>whnf)
 rw [q1,q2,w0,w1]
 have eL:Fr.enc kind seq v=[kind.toNat,seq.toNat,2,(v/256%256).toNat,(v%256).toNat]:=by
  unfold Fr.enc;rw [h];rfl
 have eB:Fr.bytes kind seq v=Fr.enc kind seq v++[(Crc.sum (Fr.enc kind seq v)).toNat/256,(Crc.sum (Fr.enc kind seq v)).toNat%256]:=rfl
 rw [eB,eL]
 obtain⟨L,hL⟩:∃ L,L=[kind.toNat,seq.toNat,2,(v/256%256).toNat,(v%256).toNat]:=⟨_,rfl⟩
 have hLB:∀ x∈L,x<256:=by
  rw [hL];intro x hx
  simp only [List.mem_cons,List.not_mem_nil,or_false] at hx
  omega
 have hLn:L.length=5:=by rw [hL];rfl
 have hsum:=r6Sum L hLB (by omega)
 have eb:bc L=[[.int .u8 ((kind.toNat:Nat):Int)],[.int .u8 ((seq.toNat:Nat):Int)],[.int .u8 2],[.int .u8 (((v/256%256).toNat:Nat):Int)],[.int .u8 (((v%256).toNat:Nat):Int)]]:=by rw [hL];rfl
 rw [← hL]
 refine CallS.call (CallN.flat [1] (RvL.cons (gro_bytes (e:=L) (by simp) (by rw [eb];rfl) hLn) RvL.nil) (by repeat (first|exact Als.nil _|refine Als.cons rfl rfl ?_)) hsum (fun r hr=>by subst hr;rfl) (fun r hr=>?_))
 subst hr
 obtain⟨x,hx⟩:∃ x,x=(Crc.sum L).toNat:=⟨_,rfl⟩
 have hlt16:=(Crc.sum L).isLt
 rw [← hx] at hlt16 ⊢
 have hw1:IntKind.u8.wrap ((x:Int)/256)=((x/256:Nat):Int):=by rw [u8_wrap (by omega) (by omega)];rfl
 have hw2:IntKind.u8.wrap ((x:Int)%256)=((x%256:Nat):Int):=by rw [u8_wrap (by omega) (by omega)];rfl
 conv=>whnf
 repeat' ((first|refine OpAt.appG (es:=[[AV.int .u8 (IntKind.u8.wrap ((x:Int)/256))],[AV.int .u8 (IntKind.u8.wrap ((x:Int)%256))]]) apU8 rfl [] rfl rfl rfl rfl (by simp) (Als.nil _) (by simp) (Xs.sl rfl rfl (fun y hy=>by simp only [List.mem_cons,List.not_mem_nil,or_false] at hy;rcases hy with rfl|rfl<;>rfl) rfl (RvL.pu rfl)) (by decide) (by omega) ?_|refine Ob.mk (by omega) ?_|refine Ob.mk (by unfold W.I64 at *;omega) ?_|refine BsN.mark ?_);conv=>whnf)
 rw [hw1,hw2]
 exact FinAt.gen (ars:=[bytesV (L++[x/256,x%256]),I 0]) [1] (RvL.cons (gro_bytes (e:=L++[x/256,x%256]) (by simp) (by rw [bc_app,eb];rfl) (by rw [List.length_append,hLn];rfl)) (RvL.pu rfl)) (by repeat (first|exact Als.nil _|refine Als.cons rfl rfl ?_)) rfl
theorem r7PutP(kind seq v:Int)(hk:W.I64 kind)(hs:W.I64 seq)(hv:W.I64 v)(h:Fr.sz kind=4)(ho:okB kind seq v=true)(hp:0≤v):Ret Tryz.prog 34 [.agg [I kind,I seq,I v]] (·=.tup [bytesV (Fr.bytes kind seq v),I 0]):=by
 have eZ:=r7Size kind hk
 rw [h] at eZ
 have hkk:=kinds h (by omega)
 unfold W.I64 at hk hs hv
 have hb:(0≤seq∧seq≤255)∧-2147483648≤v∧v≤2147483647:=by
  unfold okB at ho
  rw [if_pos (by omega)] at ho
  simpa using ho
 have q1:IntKind.u8.wrap kind=((kind.toNat:Nat):Int):=by rw [u8_wrap (by omega) (by omega)];omega
 have q2:IntKind.u8.wrap seq=((seq.toNat:Nat):Int):=by rw [u8_wrap (by omega) (by omega)];omega
 have w0:IntKind.u8.wrap (v/16777216)=(((v/256/256/256%256).toNat:Nat):Int):=by rw [u8_wrap (by omega) (by omega)];omega
 have w1:IntKind.u8.wrap (v/65536%256)=(((v/256/256%256).toNat:Nat):Int):=by rw [u8_wrap (by omega) (by omega)];omega
 have w2:IntKind.u8.wrap (v/256%256)=(((v/256%256).toNat:Nat):Int):=by rw [u8_wrap (by omega) (by omega)];omega
 have w3:IntKind.u8.wrap (v%256)=(((v%256).toNat:Nat):Int):=by rw [u8_wrap (by omega) (by omega)];omega
 refine enterO tabOk (N:=85) (gs:=[]) (args:=[_]) Tryz.func34 rfl rfl rfl (nLe rfl) (fun E hE=>?_)
 conv=>whnf
 repeat' ((first|refine BsN.sem (OpAt.bsG (len:=3) tabOk rfl rfl rfl rfl rfl ?_)|refine⟨rfl,rfl,?_⟩|refine OpAt.appG (es:=[[AV.int .u8 (IntKind.u8.wrap (v/16777216))],[AV.int .u8 (IntKind.u8.wrap (v/65536%256))]]) apU8 rfl [] rfl rfl rfl rfl (by simp) (Als.nil _) (by simp) (Xs.sl rfl rfl (fun y hy=>by simp only [List.mem_cons,List.not_mem_nil,or_false] at hy;rcases hy with rfl|rfl<;>rfl) rfl (RvL.pu rfl)) (by decide) (by omega) ?_|refine OpAt.appG (es:=[[AV.int .u8 (IntKind.u8.wrap (v/256%256))],[AV.int .u8 (IntKind.u8.wrap (v%256))]]) apU8 rfl [] rfl rfl rfl rfl (by simp) (Als.nil _) (by simp) (Xs.sl rfl rfl (fun y hy=>by simp only [List.mem_cons,List.not_mem_nil,or_false] at hy;rcases hy with rfl|rfl<;>rfl) rfl (RvL.pu rfl)) (by decide) (by omega) ?_|refine Br.pt (by omega) ?_|refine Br.pf (by omega) ?_|refine CallS.q (eZ) rfl ?_|refine Ob.mk (by omega) ?_|refine Ob.mk (by unfold W.I64 at *;omega) ?_|refine BsN.mark ?_);conv=>whnf)
 rw [q1,q2,w0,w1,w2,w3]
 have eL:Fr.enc kind seq v=[kind.toNat,seq.toNat,4,(v/256/256/256%256).toNat,(v/256/256%256).toNat,(v/256%256).toNat,(v%256).toNat]:=by
  unfold Fr.enc;rw [h];rfl
 have eB:Fr.bytes kind seq v=Fr.enc kind seq v++[(Crc.sum (Fr.enc kind seq v)).toNat/256,(Crc.sum (Fr.enc kind seq v)).toNat%256]:=rfl
 rw [eB,eL]
 obtain⟨L,hL⟩:∃ L,L=[kind.toNat,seq.toNat,4,(v/256/256/256%256).toNat,(v/256/256%256).toNat,(v/256%256).toNat,(v%256).toNat]:=⟨_,rfl⟩
 have hLB:∀ x∈L,x<256:=by
  rw [hL];intro x hx
  simp only [List.mem_cons,List.not_mem_nil,or_false] at hx
  omega
 have hLn:L.length=7:=by rw [hL];rfl
 have hsum:=r6Sum L hLB (by omega)
 have eb:bc L=[[.int .u8 ((kind.toNat:Nat):Int)],[.int .u8 ((seq.toNat:Nat):Int)],[.int .u8 4],[.int .u8 (((v/256/256/256%256).toNat:Nat):Int)],[.int .u8 (((v/256/256%256).toNat:Nat):Int)],[.int .u8 (((v/256%256).toNat:Nat):Int)],[.int .u8 (((v%256).toNat:Nat):Int)]]:=by rw [hL];rfl
 rw [← hL]
 refine CallS.call (CallN.flat [1] (RvL.cons (gro_bytes (e:=L) (by simp) (by rw [eb];rfl) hLn) RvL.nil) (by repeat (first|exact Als.nil _|refine Als.cons rfl rfl ?_)) hsum (fun r hr=>by subst hr;rfl) (fun r hr=>?_))
 subst hr
 obtain⟨x,hx⟩:∃ x,x=(Crc.sum L).toNat:=⟨_,rfl⟩
 have hlt16:=(Crc.sum L).isLt
 rw [← hx] at hlt16 ⊢
 have hw1:IntKind.u8.wrap ((x:Int)/256)=((x/256:Nat):Int):=by rw [u8_wrap (by omega) (by omega)];rfl
 have hw2:IntKind.u8.wrap ((x:Int)%256)=((x%256:Nat):Int):=by rw [u8_wrap (by omega) (by omega)];rfl
 conv=>whnf
 repeat' ((first|refine OpAt.appG (es:=[[AV.int .u8 (IntKind.u8.wrap ((x:Int)/256))],[AV.int .u8 (IntKind.u8.wrap ((x:Int)%256))]]) apU8 rfl [] rfl rfl rfl rfl (by simp) (Als.nil _) (by simp) (Xs.sl rfl rfl (fun y hy=>by simp only [List.mem_cons,List.not_mem_nil,or_false] at hy;rcases hy with rfl|rfl<;>rfl) rfl (RvL.pu rfl)) (by decide) (by omega) ?_|refine Ob.mk (by omega) ?_|refine Ob.mk (by unfold W.I64 at *;omega) ?_|refine BsN.mark ?_);conv=>whnf)
 rw [hw1,hw2]
 exact FinAt.gen (ars:=[bytesV (L++[x/256,x%256]),I 0]) [1] (RvL.cons (gro_bytes (e:=L++[x/256,x%256]) (by simp) (by rw [bc_app,eb];rfl) (by rw [List.length_append,hLn];rfl)) (RvL.pu rfl)) (by repeat (first|exact Als.nil _|refine Als.cons rfl rfl ?_)) rfl
theorem r7PutM(kind seq v:Int)(hk:W.I64 kind)(hs:W.I64 seq)(hv:W.I64 v)(h:Fr.sz kind=4)(ho:okB kind seq v=true)(hp:v<0):Ret Tryz.prog 34 [.agg [I kind,I seq,I v]] (·=.tup [bytesV (Fr.bytes kind seq v),I 0]):=by
 have eZ:=r7Size kind hk
 rw [h] at eZ
 have hkk:=kinds h (by omega)
 unfold W.I64 at hk hs hv
 have hb:(0≤seq∧seq≤255)∧-2147483648≤v∧v≤2147483647:=by
  unfold okB at ho
  rw [if_pos (by omega)] at ho
  simpa using ho
 have q1:IntKind.u8.wrap kind=((kind.toNat:Nat):Int):=by rw [u8_wrap (by omega) (by omega)];omega
 have q2:IntKind.u8.wrap seq=((seq.toNat:Nat):Int):=by rw [u8_wrap (by omega) (by omega)];omega
 have w0:IntKind.u8.wrap ((v+4294967296)/16777216)=(((v/256/256/256%256).toNat:Nat):Int):=by rw [u8_wrap (by omega) (by omega)];omega
 have w1:IntKind.u8.wrap ((v+4294967296)/65536%256)=(((v/256/256%256).toNat:Nat):Int):=by rw [u8_wrap (by omega) (by omega)];omega
 have w2:IntKind.u8.wrap ((v+4294967296)/256%256)=(((v/256%256).toNat:Nat):Int):=by rw [u8_wrap (by omega) (by omega)];omega
 have w3:IntKind.u8.wrap ((v+4294967296)%256)=(((v%256).toNat:Nat):Int):=by rw [u8_wrap (by omega) (by omega)];omega
 refine enterO tabOk (N:=85) (gs:=[]) (args:=[_]) Tryz.func34 rfl rfl rfl (nLe rfl) (fun E hE=>?_)
 conv=>whnf
 repeat' ((first|refine BsN.sem (OpAt.bsG (len:=3) tabOk rfl rfl rfl rfl rfl ?_)|refine⟨rfl,rfl,?_⟩|refine OpAt.appG (es:=[[AV.int .u8 (IntKind.u8.wrap ((v+4294967296)/16777216))],[AV.int .u8 (IntKind.u8.wrap ((v+4294967296)/65536%256))]]) apU8 rfl [] rfl rfl rfl rfl (by simp) (Als.nil _) (by simp) (Xs.sl rfl rfl (fun y hy=>by simp only [List.mem_cons,List.not_mem_nil,or_false] at hy;rcases hy with rfl|rfl<;>rfl) rfl (RvL.pu rfl)) (by decide) (by omega) ?_|refine OpAt.appG (es:=[[AV.int .u8 (IntKind.u8.wrap ((v+4294967296)/256%256))],[AV.int .u8 (IntKind.u8.wrap ((v+4294967296)%256))]]) apU8 rfl [] rfl rfl rfl rfl (by simp) (Als.nil _) (by simp) (Xs.sl rfl rfl (fun y hy=>by simp only [List.mem_cons,List.not_mem_nil,or_false] at hy;rcases hy with rfl|rfl<;>rfl) rfl (RvL.pu rfl)) (by decide) (by omega) ?_|refine Br.pt (by assumption) ?_|refine Br.pt (by omega) ?_|refine Br.pf (by omega) ?_|refine CallS.q (eZ) rfl ?_|refine Ob.mk (by omega) ?_|refine Ob.mk (by unfold W.I64 at *;omega) ?_|refine BsN.mark ?_);conv=>whnf)
 rw [q1,q2,w0,w1,w2,w3]
 have eL:Fr.enc kind seq v=[kind.toNat,seq.toNat,4,(v/256/256/256%256).toNat,(v/256/256%256).toNat,(v/256%256).toNat,(v%256).toNat]:=by
  unfold Fr.enc;rw [h];rfl
 have eB:Fr.bytes kind seq v=Fr.enc kind seq v++[(Crc.sum (Fr.enc kind seq v)).toNat/256,(Crc.sum (Fr.enc kind seq v)).toNat%256]:=rfl
 rw [eB,eL]
 obtain⟨L,hL⟩:∃ L,L=[kind.toNat,seq.toNat,4,(v/256/256/256%256).toNat,(v/256/256%256).toNat,(v/256%256).toNat,(v%256).toNat]:=⟨_,rfl⟩
 have hLB:∀ x∈L,x<256:=by
  rw [hL];intro x hx
  simp only [List.mem_cons,List.not_mem_nil,or_false] at hx
  omega
 have hLn:L.length=7:=by rw [hL];rfl
 have hsum:=r6Sum L hLB (by omega)
 have eb:bc L=[[.int .u8 ((kind.toNat:Nat):Int)],[.int .u8 ((seq.toNat:Nat):Int)],[.int .u8 4],[.int .u8 (((v/256/256/256%256).toNat:Nat):Int)],[.int .u8 (((v/256/256%256).toNat:Nat):Int)],[.int .u8 (((v/256%256).toNat:Nat):Int)],[.int .u8 (((v%256).toNat:Nat):Int)]]:=by rw [hL];rfl
 rw [← hL]
 refine CallS.call (CallN.flat [1] (RvL.cons (gro_bytes (e:=L) (by simp) (by rw [eb];rfl) hLn) RvL.nil) (by repeat (first|exact Als.nil _|refine Als.cons rfl rfl ?_)) hsum (fun r hr=>by subst hr;rfl) (fun r hr=>?_))
 subst hr
 obtain⟨x,hx⟩:∃ x,x=(Crc.sum L).toNat:=⟨_,rfl⟩
 have hlt16:=(Crc.sum L).isLt
 rw [← hx] at hlt16 ⊢
 have hw1:IntKind.u8.wrap ((x:Int)/256)=((x/256:Nat):Int):=by rw [u8_wrap (by omega) (by omega)];rfl
 have hw2:IntKind.u8.wrap ((x:Int)%256)=((x%256:Nat):Int):=by rw [u8_wrap (by omega) (by omega)];rfl
 conv=>whnf
 repeat' ((first|refine OpAt.appG (es:=[[AV.int .u8 (IntKind.u8.wrap ((x:Int)/256))],[AV.int .u8 (IntKind.u8.wrap ((x:Int)%256))]]) apU8 rfl [] rfl rfl rfl rfl (by simp) (Als.nil _) (by simp) (Xs.sl rfl rfl (fun y hy=>by simp only [List.mem_cons,List.not_mem_nil,or_false] at hy;rcases hy with rfl|rfl<;>rfl) rfl (RvL.pu rfl)) (by decide) (by omega) ?_|refine Ob.mk (by omega) ?_|refine Ob.mk (by unfold W.I64 at *;omega) ?_|refine BsN.mark ?_);conv=>whnf)
 rw [hw1,hw2]
 exact FinAt.gen (ars:=[bytesV (L++[x/256,x%256]),I 0]) [1] (RvL.cons (gro_bytes (e:=L++[x/256,x%256]) (by simp) (by rw [bc_app,eb];rfl) (by rw [List.length_append,hLn];rfl)) (RvL.pu rfl)) (by repeat (first|exact Als.nil _|refine Als.cons rfl rfl ?_)) rfl
theorem r7Put0(kind seq v:Int)(hk:W.I64 kind)(h:Fr.sz kind=0):Ret Tryz.prog 34 [.agg [I kind,I seq,I v]] (·=.tup [.emp,I 30]):=by
 have eZ:=r7Size kind hk
 rw [h] at eZ
 unfold W.I64 at hk
 refine enterO tabOk (N:=85) (gs:=[]) (args:=[_]) Tryz.func34 rfl rfl rfl (nLe rfl) (fun E hE=>?_)
 conv=>whnf
 repeat' ((first|refine Br.pt (by omega) ?_|refine CallS.q (eZ) rfl ?_|refine FinAt.val rfl ?_);conv=>whnf)
 all_goals rfl
theorem r7PutN(kind seq v:Int)(hk:W.I64 kind)(h:Fr.sz kind≠0)(ho:okB kind seq v=false):Ret Tryz.prog 34 [.agg [I kind,I seq,I v]] (·=.tup [.emp,I 10]):=by
 have eZ:=r7Size kind hk
 have h24:Fr.sz kind=2∨Fr.sz kind=4:=by rcases Fr.sz_cases kind with q|q|q<;>omega
 unfold W.I64 at hk
 rcases h24 with h2|h4
 ·rw [h2] at eZ
  have hb:¬ ((0≤seq∧seq≤255)∧0≤v∧v≤65535):=by
   unfold okB at ho
   rw [if_neg (by omega)] at ho
   simpa using ho
  refine enterO tabOk (N:=85) (gs:=[]) (args:=[_]) Tryz.func34 rfl rfl rfl (nLe rfl) (fun E hE=>?_)
  conv=>whnf
  repeat' (first|((first|refine Br.pt (by assumption) ?_|refine Br.pf (by assumption) ?_|refine Br.pt (by omega) ?_|refine Br.pf (by omega) ?_|refine Br.ot rfl ?_|refine CallS.q (eZ) rfl ?_|refine FinAt.val rfl ?_);conv=>whnf)|((refine Br.d (fun h=>?_) (fun h=>?_))<;>conv=>whnf))
  all_goals rfl
 ·rw [h4] at eZ
  have hb:¬ ((0≤seq∧seq≤255)∧-2147483648≤v∧v≤2147483647):=by
   unfold okB at ho
   rw [if_pos (by omega)] at ho
   simpa using ho
  refine enterO tabOk (N:=85) (gs:=[]) (args:=[_]) Tryz.func34 rfl rfl rfl (nLe rfl) (fun E hE=>?_)
  conv=>whnf
  repeat' (first|((first|refine Br.pt (by assumption) ?_|refine Br.pf (by assumption) ?_|refine Br.pt (by omega) ?_|refine Br.pf (by omega) ?_|refine Br.ot rfl ?_|refine CallS.q (eZ) rfl ?_|refine FinAt.val rfl ?_);conv=>whnf)|((refine Br.d (fun h=>?_) (fun h=>?_))<;>conv=>whnf))
  all_goals rfl
theorem apTxt:Ap Tryz.prog 82 85 1:=⟨.slice none 0 0,24,by kernel_rfl,by kernel_rfl,rfl,by decide,by decide⟩
def tc(L:List (List Nat)):List (List AV):=L.map fun l=>[bytesV l]
theorem tc_len(L:List (List Nat)):(tc L).length=L.length:=by simp [tc]
theorem tc_app(a b:List (List Nat)):tc (a++b)=tc a++tc b:=by simp [tc]
theorem ySend(L:List (List Nat))(kind cycle v:Int)(hk:W.I64 kind)(hc:0≤cycle∧cycle≤1000000)(hv:W.I64 v)(n:Nat)(hn:L.length=n)(hL:n≤2000000) :
  RetV Tryz.prog 64 [.buf 85 1 (tc L)] [.gro 0 n,I kind,I cycle,I v] (fun r gs=>r=.gro 0 (L++sendB kind (cycle%256) v).length∧gs=[.buf 85 1 (tc (L++sendB kind (cycle%256) v))]):=by
 subst hn
 have hs:W.I64 (cycle%256):=by unfold W.I64;omega
 by_cases h0:Fr.sz kind=0
 ·have e0:=r7Put0 kind (cycle%256) v hk h0
  rw [show sendB kind (cycle%256) v=[] by unfold sendB;rw [if_neg (fun q=>q.1 h0)],List.append_nil]
  refine enterV tabOk (N:=27) (gs:=[_]) (args:=[_,_,_,_]) Tryz.func64 rfl rfl rfl (nLe rfl) (fun E hE=>?_)
  conv=>whnf
  repeat' ((first|refine Br.nt (by omega) ?_|refine CallS.q (e0) rfl ?_|refine Ob.mk (by omega) ?_);conv=>whnf)
  exact⟨_,rfl,rfl,rfl,Nat.le_refl _,rfl,rfl,rfl⟩
 ·by_cases h1:okB kind (cycle%256) v=true
  ·have e0:Ret Tryz.prog 34 [.agg [I kind,I (cycle%256),I v]] (·=.tup [bytesV (Fr.bytes kind (cycle%256) v),I 0]):=by
    rcases Fr.sz_cases kind with q|q|q
    ·omega
    ·exact r7PutB kind _ v hk hs hv q.1 h1
    ·by_cases hp:0≤v
     ·exact r7PutP kind _ v hk hs hv q.1 h1 hp
     ·exact r7PutM kind _ v hk hs hv q.1 h1 (by omega)
   rw [show sendB kind (cycle%256) v=[Fr.bytes kind (cycle%256) v] by unfold sendB;rw [if_pos ⟨h0,h1⟩]]
   refine enterV tabOk (N:=27) (gs:=[_]) (args:=[_,_,_,_]) Tryz.func64 rfl rfl rfl (nLe rfl) (fun E hE=>?_)
   conv=>whnf
   repeat' ((first|refine OpAt.appG apTxt rfl [] rfl rfl rfl (tc_len L) (by simp) (Als.nil _) (by simp) (Xs.one rfl rfl rfl (RvL.pu rfl) rfl) (by decide) (by omega) ?_|refine Br.nf (by omega) ?_|refine CallS.q (e0) rfl ?_|refine Ob.mk (by omega) ?_|refine BsN.mark ?_);conv=>whnf)
   refine⟨_,rfl,rfl,rfl,nLe rfl,rfl,by simp,?_⟩
   rw [tc_app]
   rfl
  ·have e0:=r7PutN kind (cycle%256) v hk h0 (by simpa using h1)
   rw [show sendB kind (cycle%256) v=[] by unfold sendB;rw [if_neg (fun q=>h1 q.2)],List.append_nil]
   refine enterV tabOk (N:=27) (gs:=[_]) (args:=[_,_,_,_]) Tryz.func64 rfl rfl rfl (nLe rfl) (fun E hE=>?_)
   conv=>whnf
   repeat' ((first|refine Br.nt (by omega) ?_|refine CallS.q (e0) rfl ?_|refine Ob.mk (by omega) ?_);conv=>whnf)
   exact⟨_,rfl,rfl,rfl,Nat.le_refl _,rfl,rfl,rfl⟩
theorem run_append_0{P:Program}{S E ty:TypeId}{i:TypeInfo}(hS:P.underlying S=some (.slice E))(hi:P.info? E=some i)(w:World)(A:Option Addr)(c:Nat):(Builtin.append_ #[S,S] ty #[.slice none 0 0,.slice A 0 c]).run P w=.ok (.slice none 0 0) w:=by
 cases A with
 |none=>simp [Builtin.append_,run_underlying hS,sizeOf,typeInfo,hi,Builtin.lenOf,Builtin.firstCells]
 |some a=>simp [Builtin.append_,run_underlying hS,sizeOf,typeInfo,hi,Builtin.lenOf,Builtin.firstCells,loadCells,loadCellsFrom]
theorem OpAt.app0{P:Program}{St e sz:Nat}{o:Oper}{s x:Operand}{tm:Tm}{own:Ow}{N:Nat}{E:En}{K:Tm→Ow→Prop}(hA:Ap P St e sz)(ho:o.op=.call { callee:=.builtin .append,args:=#[s,x],argTypes:=#[St,St] }){f:Nat→List AV}{sz':Nat}(hs:ev tm s fun v=>v=.emp)(hx:ev tm x fun v=>v=.lst sz' 0 f)
  (hK:put N tm o.dst .emp fun tm=>K tm own):OpAt P N E o K tm own:=by
 refine⟨fun S ids a w hsim Q=>?_⟩
 obtain⟨v,hv,h2⟩:=ev_sound hs
 subst hv
 obtain⟨u,hu,h3⟩:=ev_sound hx
 subst hu
 have e1:a.eval s=.slice none 0 0:=(h2 S w ids a hsim.sl).emp
 have h4:=(R_pu (a:=AV.lst sz' 0 f) rfl).1 (h3 S w ids a hsim.sl)
 obtain⟨A,c,e2,_⟩:=h4
 obtain⟨z,bytes,a1,a2,a3,a4,a5⟩:=hA
 obtain⟨i,hi,_⟩:=info_parts a2
 have hr:=run_append_0 (P:=P) (ty:=o.type) a1 hi w A c
 obtain⟨tm',k1,k2⟩:=put_sound hK
 have:=k2 E _ _ _ a w (.slice none 0 0) hsim (e1 ▸ h2 S w ids a hsim.sl)
 unfold Oper.wp execOp
 simp only [ho,resolve,invoke,builtin,Sem.run_bind,Sem.run_pure,Result.andThen_ok,List.map_toArray,List.map_cons,List.map_nil,e1,e2,hr]
 exact⟨tm',_,_,_,k1,this⟩
section
variable{P:Program}{f:Nat}{vs ars:List AV}{tm:Tm}{own:Ow}{N:Nat}{E:En}{dst:Option Nat}{K:Tm→Ow→Prop}
theorem CallN.updVE(J I:List Nat){gs gs0:List OB}{r0:AV}(hv:RvJL own J I vs ars)(hI:Als own I)(hg:∀ i∈I,E.gs.length≤i)(hJ:Giv own J I gs)(h:RetV P f gs ars (fun r g=>r=r0∧g=gs0))
  (hK:put N tm dst (rn0 J r0) fun tm=>K tm (putJ J (gs0.map (rnO J)) (killI I own))):CallN P N E f vs dst K tm own :=
 CallN.updV J I hv hI hg hJ h (fun r g hp _=>by obtain⟨rfl,rfl⟩:=hp;exact hK)
end
theorem givBuf{own:Ow}{j e sz:Nat}{l:List (List AV)}(hb:nth own j=some (.buf e sz l)):Giv own [j] [] [.buf e sz l] :=
 ⟨rfl,by simp,by simp,Giv.consO hb rfl (fun cs h=>by cases h) Giv.done⟩
section
def sentA(p:Int)(s:W.Script)(k:Nat)(i:Nat):List (List Nat):=(s.tick k).junk++((if 0<i then (if (s.tick k).lost 0=0 then sendB 1 ((k%256:Nat):Int) (s.count p 0 (k+1)%65536) else []) else [])++(if 1<i then (if (s.tick k).lost 1=0 then sendB 2 ((k%256:Nat):Int) (s.count p 1 (k+1)%65536) else []) else []))
theorem tc_range(L:List (List Nat)):(List.range L.length).map (fun i=>[bytesV (L.getD i [])])=tc L:=by
 unfold tc
 apply List.ext_getElem?
 intro i
 rw [List.getElem?_map,List.getElem?_map]
 by_cases h:i<L.length
 ·simp [h,List.getD]
 ·rw [List.getElem?_eq_none (by simpa using h),List.getElem?_eq_none (by omega)];rfl
theorem sendB_len(kind seq v:Int):(sendB kind seq v).length≤1:=by unfold sendB;split<;>simp
theorem sentA0(p:Int)(s:W.Script)(k:Nat):sentA p s k 0=(s.tick k).junk:=by simp [sentA]
theorem sentA1(p:Int)(s:W.Script)(k:Nat):sentA p s k 1=sentA p s k 0++(if (s.tick k).lost 0=0 then sendB 1 ((k%256:Nat):Int) (s.count p 0 (k+1)%65536) else []):=by simp [sentA]
theorem sentA2(p:Int)(s:W.Script)(k:Nat):sentA p s k 2=sentA p s k 1++(if (s.tick k).lost 1=0 then sendB 2 ((k%256:Nat):Int) (s.count p 1 (k+1)%65536) else []):=by simp [sentA]
variable{c:W.Conf}{t:W.Trk}{s:W.Script}
theorem gradeAt_bd{l:List W.Piece}{a:Int}(h0:0<l.length)(h:∀ j,j<l.length→-1048576≤(W.pieceAt l j).grade∧(W.pieceAt l j).grade≤1048576):∀ n,n≤l.length→-1048576≤W.gradeAt l a n∧W.gradeAt l a n≤1048576
 |0,_=>by unfold W.gradeAt;exact h 0 h0
 |n+1,hn=>by
  unfold W.gradeAt
  split
  ·exact h n (by omega)
  ·exact gradeAt_bd h0 h n (by omega)
theorem RChk.pcs(h:RChk t):W.PcsOk t:=fun k hk=>by
 have:=h.sg k hk
 unfold W.segMay W.may at this
 simp only [Bool.and_eq_true,decide_eq_true_eq] at this
 omega
theorem RChk.grades(h:RChk t)(k:Nat)(hk:k<t.segs.length):∀ j,j<(t.sg k).pieces.length→-1048576≤(W.pieceAt (t.sg k).pieces j).grade∧(W.pieceAt (t.sg k).pieces j).grade≤1048576:=fun j hj=>by
 have:=h.sg k hk
 unfold W.segMay W.may at this
 simp only [Bool.and_eq_true] at this
 have:=W.allB_at this.1.1.1.2.2 j hj
 unfold W.mayAt at this
 rw [decide_eq_true_eq] at this
 omega
theorem gradeOn_bd(h:RChk t){l:List Int}(hl:W.InOk t l)(a:Int):-1048576≤W.gradeOn t l a∧W.gradeOn t l a≤1048576:=by
 unfold W.gradeOn
 dsimp only
 split
 ·next h0 =>
  have hlt:(W.firstI (W.gradeHere t l a) l.length).toNat<l.length:=by
   unfold W.firstI at h0 ⊢
   cases e:(List.range l.length).find? (W.gradeHere t l a) with
   |none=>rw [e] at h0;exact absurd h0 (by decide)
   |some k=>exact List.mem_range.1 (List.mem_of_find?_eq_some e)
  have:=hl _ hlt
  have e:t.seg (l.getD (W.firstI (W.gradeHere t l a) l.length).toNat 0)=t.sg (l.getD (W.firstI (W.gradeHere t l a) l.length).toNat 0).toNat:=rfl
  rw [e]
  exact gradeAt_bd (h.pcs _ (by omega)).1 (h.grades _ (by omega)) _ (Nat.le_refl _)
 ·omega
theorem sentL_e(p:Int)(k:Nat):sentL t p s k=((sentA p s k 2++(if (s.tick k).lost 2=0 then sendB 3 ((k%256:Nat):Int) ((s.tick k).v+(s.tick k).rad) else []))++(if (s.tick k).lost 3=0 then sendB 4 ((k%256:Nat):Int) ((s.tick k).v-s.ahead k+W.gradeOn t s.route (s.place k)+(s.tick k).acc) else []))++(List.range s.reads.length).flatMap (sendR s k):=by
 simp [sentL,sentA]
theorem tc_fin{L:List (List Nat)}{own:Ow}{I:List Nat}{j:Nat}(hi:j∈I)(hb:nth own j=some (.buf 85 1 (tc L))):Rv own I (.gro j L.length) (textsV L) :=
 Rv.gro hi hb (tc_len L) (fun i hi=>PLe.of (by simp [tc,List.getD,hi]))
theorem ySent(h:AdN c t s)(hs:ScrO s)(k:Nat)(hk:k<s.ticks.length)(hj:(s.ticks.getD k default).junk.length≤27):Ret Tryz.prog 33 [trkV t,I c.pulses,scrV s,I k] (·=textsV (sentL t c.pulses s k)):=by
 have hb:=hs.b
 have hn4:=(on_facts h.on).1
 have hp:=h.conf.pulses
 have et:s.tick k=s.ticks.getD k default:=rfl
 have nk1:=W.NumOk.le h.num (m:=k+1) (by omega)
 have hv:=h.num.v k hk
 have hv0:=speed_facts h.speeds
 have hms:=h.conf.maxSpeed
 have hnf:=(num_facts h.nums).2.2 k hk
 have haccE:=h.conf.accErr
 have hgb:=gradeOn_bd h.chk (route_in h.route) (s.place k)
 have hpl:=h.place k (by omega)
 rw [et] at hv hnf
 have hrl:=hs.reads
 have hr4:=route_len h.route
 have e5:((k%256:Nat):Int)=(k:Int)%256:=rfl
 have eA:Ret Tryz.prog 66 [scrV s,I k] (·=I (s.place k)):=yAt s k hb (by omega) (by omega) (by omega) (h.vok _ (by omega))
 have eG:=yGrade t s.route (s.place k) (by omega) h.chk.lens (route_in h.route) h.chk.pcs (by omega) (by omega)
 have eC (j:Nat) (hj:j≤1):Ret Tryz.prog 63 [scrV s,I c.pulses,I j,I (k+1)] (·=.raw (.int .i64 (s.count c.pulses j (k+1)))):=yCountR s c.pulses (k+1) j hj hb hp.1 hp.2 (by omega) (by omega) (by omega) nk1
 rw [sentL_e]
 refine enterO tabOk (N:=118) (gs:=[]) (args:=[_,_,_,_]) Tryz.func33 rfl rfl rfl (nLe rfl) (fun E hE=>?_)
 rcases Nat.eq_zero_or_pos (s.ticks.getD k default).junk.length with h0|h0
 focus
  have h0':(s.ticks.getD k default).junk=[]:=List.length_eq_zero_iff.1 h0
  have h0'':textsV (s.ticks.getD k default).junk=.lst 1 0 (fun i=>[bytesV (([]:List (List Nat)).getD i [])]):=by rw [h0'];rfl
  conv=>whnf
  repeat' ((first|refine OpAt.app0 apTxt rfl rfl h0'' ?_|refine Ob.mk (by omega) ?_|refine Ix.nat _ ?_);conv=>whnf)
  refine LoopAt.emp 10 85 1 rfl ?_
  refine LoopAt.rule tabOk [(1,_),(3,_),(4,_),(6,_),(9,_)] (fun (i:Nat×List (List Nat))=>[(11,.int .i64 (i.1:Int)),(10,.gro 3 i.2.length)]) (fun (i:Nat×List (List Nat))=>[.blk [sgsV t.segs,gpsV t.grps],.blk (scrC s),.blk (tickC (s.ticks.getD k default)),.buf 85 1 (tc i.2)]) (fun (i:Nat×List (List Nat))=>i.1≤2∧i.2=sentA c.pulses s k i.1∧i.2.length≤27+i.1) (fun (i:Nat×List (List Nat))=>2-i.1) (0,[]) (by trivial) ⟨by omega,by rw [sentA0,et,h0'],by simp⟩ (by trivial) (by trivial) (fun _=>⟨rfl,rfl,rfl,by simp [hE]⟩) (fun i hk=>?_)
 rotate_left
 focus
  conv=>whnf
  repeat' ((first|refine OpAt.appE apTxt rfl [] rfl rfl (Als.nil _) (by simp) (Xs.lst (by omega) (fun _ _=>rfl)) (by omega) (by omega) ?_|refine Ob.mk (by omega) ?_|refine Ix.nat _ ?_);conv=>whnf)
  rw [tc_range]
  refine LoopAt.rule tabOk [(1,_),(3,_),(4,_),(6,_),(9,_)] (fun (i:Nat×List (List Nat))=>[(11,.int .i64 (i.1:Int)),(10,.gro 3 i.2.length)]) (fun (i:Nat×List (List Nat))=>[.blk [sgsV t.segs,gpsV t.grps],.blk (scrC s),.blk (tickC (s.ticks.getD k default)),.buf 85 1 (tc i.2)]) (fun (i:Nat×List (List Nat))=>i.1≤2∧i.2=sentA c.pulses s k i.1∧i.2.length≤27+i.1) (fun (i:Nat×List (List Nat))=>2-i.1) (0,(s.ticks.getD k default).junk) (by trivial) ⟨by omega,by rw [sentA0,et],by dsimp only;omega⟩ (by trivial) (by trivial) (fun _=>⟨rfl,rfl,rfl,by simp [hE]⟩) (fun i hk=>?_)
 all_goals
  obtain⟨i,L⟩:=i
  obtain⟨hi,hL,hLn⟩:=hk
  dsimp only at hi hL hLn ⊢
  obtain rfl|rfl|rfl:i=0∨i=1∨i=2:=by omega
  ·have b0:=tmod_b (s.count c.pulses 0 (k+1))
   have e1:=sentA1 c.pulses s k
   rw [← hL,e5] at e1
   by_cases hl:(s.ticks.getD k default).lost0=0
   ·rw [if_pos (show (s.tick k).lost 0=0 from hl),← tmod_e] at e1
    have eS:=ySend L 1 k (((s.count c.pulses 0 (k+1)).tmod 65536+65536)%65536) (by unfold W.I64;omega) (by omega) (by unfold W.I64;omega) L.length rfl (by omega)
    have hsl:=sendB_len 1 ((k:Int)%256) (((s.count c.pulses 0 (k+1)).tmod 65536+65536)%65536)
    conv=>whnf
    repeat' ((first|refine QAt.remR rfl rfl rfl ?_|refine CallS.call (CallN.updVE [3] [] (RvJL.cons (RvJ.gro rfl) (RvJL.pu rfl)) (Als.nil _) (by simp) (givBuf rfl) eS ?_)|refine Br.pt (by assumption) ?_|refine Br.pt (by omega) ?_|refine CallS.q (eC 0 (by omega)) rfl ?_|refine Ob.mk (by omega) ?_|refine Ob.mk (by unfold W.I64 at *;omega) ?_|refine Ix.of 0 rfl ?_|refine Pc.lit ?_);conv=>whnf)
    exact⟨(1,L++sendB 1 ((k:Int)%256) (((s.count c.pulses 0 (k+1)).tmod 65536+65536)%65536)),⟨by dsimp only;omega,e1.symm,by dsimp only;rw [List.length_append];omega⟩,by dsimp only;omega,(by trivial),(by trivial),(by trivial)⟩
   ·rw [if_neg (show ¬ (s.tick k).lost 0=0 from hl),List.append_nil] at e1
    conv=>whnf
    repeat' ((first|refine Br.pf (by assumption) ?_|refine Br.pt (by omega) ?_|refine Ob.mk (by omega) ?_|refine Ob.mk (by unfold W.I64 at *;omega) ?_|refine Ix.of 0 rfl ?_|refine Pc.lit ?_);conv=>whnf)
    exact⟨(1,L),⟨by dsimp only;omega,e1.symm,by dsimp only;omega⟩,by dsimp only;omega,(by trivial),(by trivial),(by trivial)⟩
  ·have b0:=tmod_b (s.count c.pulses 1 (k+1))
   have e1:=sentA2 c.pulses s k
   rw [← hL,e5] at e1
   by_cases hl:(s.ticks.getD k default).lost1=0
   ·rw [if_pos (show (s.tick k).lost 1=0 from hl),← tmod_e] at e1
    have eS:=ySend L 2 k (((s.count c.pulses 1 (k+1)).tmod 65536+65536)%65536) (by unfold W.I64;omega) (by omega) (by unfold W.I64;omega) L.length rfl (by omega)
    have hsl:=sendB_len 2 ((k:Int)%256) (((s.count c.pulses 1 (k+1)).tmod 65536+65536)%65536)
    conv=>whnf
    repeat' ((first|refine QAt.remR rfl rfl rfl ?_|refine CallS.call (CallN.updVE [3] [] (RvJL.cons (RvJ.gro rfl) (RvJL.pu rfl)) (Als.nil _) (by simp) (givBuf rfl) eS ?_)|refine Br.pt (by assumption) ?_|refine Br.pt (by omega) ?_|refine CallS.q (eC 1 (by omega)) rfl ?_|refine Ob.mk (by omega) ?_|refine Ob.mk (by unfold W.I64 at *;omega) ?_|refine Ix.of 1 rfl ?_|refine Pc.lit ?_);conv=>whnf)
    exact⟨(2,L++sendB 2 ((k:Int)%256) (((s.count c.pulses 1 (k+1)).tmod 65536+65536)%65536)),⟨by dsimp only;omega,e1.symm,by dsimp only;rw [List.length_append];omega⟩,by dsimp only;omega,(by trivial),(by trivial),(by trivial)⟩
   ·rw [if_neg (show ¬ (s.tick k).lost 1=0 from hl),List.append_nil] at e1
    conv=>whnf
    repeat' ((first|refine Br.pf (by assumption) ?_|refine Br.pt (by omega) ?_|refine Ob.mk (by omega) ?_|refine Ob.mk (by unfold W.I64 at *;omega) ?_|refine Ix.of 1 rfl ?_|refine Pc.lit ?_);conv=>whnf)
    exact⟨(2,L),⟨by dsimp only;omega,e1.symm,by dsimp only;omega⟩,by dsimp only;omega,(by trivial),(by trivial),(by trivial)⟩
  ·rw [← hL]
   have e6:(s.tick k).lost 2=(s.ticks.getD k default).lost2:=rfl
   have e7:(s.tick k).lost 3=(s.ticks.getD k default).lost3:=rfl
   rw [e6,e7,et,e5]
   have fin:∀ (M0:List (List Nat)),M0.length≤40→True:=fun _ _=>trivial
   by_cases l2:(s.ticks.getD k default).lost2=0
   ·rw [if_pos l2]
    by_cases l3:(s.ticks.getD k default).lost3=0
    ·rw [if_pos l3]
     by_cases hk0:k=0
     ·have e9:s.ahead k=s.v0:=by rw [hk0];rfl
      rw [e9]
      have hsl3:=sendB_len 3 ((k:Int)%256) ((s.ticks.getD k default).v+(s.ticks.getD k default).rad)
      have eS3:=ySend L 3 k ((s.ticks.getD k default).v+(s.ticks.getD k default).rad) (by unfold W.I64;omega) (by omega) (by unfold W.I64;omega) L.length rfl (by omega)
      have hM2:(L++sendB 3 ((k:Int)%256) ((s.ticks.getD k default).v+(s.ticks.getD k default).rad)).length≤30:=by rw [List.length_append];omega
      have hsl4:=sendB_len 4 ((k:Int)%256) ((s.ticks.getD k default).v-s.v0+W.gradeOn t s.route (s.place k)+(s.ticks.getD k default).acc)
      have eS4:=ySend (L++sendB 3 ((k:Int)%256) ((s.ticks.getD k default).v+(s.ticks.getD k default).rad)) 4 k ((s.ticks.getD k default).v-s.v0+W.gradeOn t s.route (s.place k)+(s.ticks.getD k default).acc) (by unfold W.I64;omega) (by omega) (by unfold W.I64;omega) _ rfl (by omega)
      have hM3:((L++sendB 3 ((k:Int)%256) ((s.ticks.getD k default).v+(s.ticks.getD k default).rad))++sendB 4 ((k:Int)%256) ((s.ticks.getD k default).v-s.v0+W.gradeOn t s.route (s.place k)+(s.ticks.getD k default).acc)).length≤31:=by rw [List.length_append];omega
      conv=>whnf
      repeat' ((first|refine CallS.call (CallN.updVE [3] [] (RvJL.cons (RvJ.gro rfl) (RvJL.pu rfl)) (Als.nil _) (by simp) (givBuf rfl) eS3 ?_)|refine CallS.call (CallN.updVE [3] [] (RvJL.cons (RvJ.gro rfl) (RvJL.pu rfl)) (Als.nil _) (by simp) (givBuf rfl) eS4 ?_)|refine Drw.lateP tabOk [0,1,2,3,4,5,6,7,8,9,10,11,12,13,14,15,16] [] [17,18] (by kernel_rfl) (by kernel_rfl) ?_|refine Br.pt (by assumption) ?_|refine Br.pf (by omega) ?_|refine CallD.pu (eA) rfl ?_|refine CallD.pu (eG) rfl ?_|refine Ob.mk (by unfold W.I64 at *;omega) ?_|refine Ob.mk (by simp only [Option.getD_some,Option.getD_none];omega) ?_|refine Ix.nat _ ?_|refine Pc.lit ?_);conv=>whnf)
      refine LoopAt.rule tabOk [(1,_),(3,_),(4,_),(6,_),(9,_)] (fun (i:Nat×List (List Nat))=>[(14,.int .i64 (i.1:Int)),(10,.gro 3 i.2.length)]) (fun (i:Nat×List (List Nat))=>[.blk [sgsV t.segs,gpsV t.grps],.blk (scrC s),.blk (tickC (s.ticks.getD k default)),.buf 85 1 (tc i.2)]) (fun (i:Nat×List (List Nat))=>i.1≤s.reads.length∧i.2=((L++sendB 3 ((k:Int)%256) ((s.ticks.getD k default).v+(s.ticks.getD k default).rad))++sendB 4 ((k:Int)%256) ((s.ticks.getD k default).v-s.v0+W.gradeOn t s.route (s.place k)+(s.ticks.getD k default).acc))++(List.range i.1).flatMap (sendR s k)∧i.2.length≤40+i.1) (fun (i:Nat×List (List Nat))=>s.reads.length-i.1) (0,((L++sendB 3 ((k:Int)%256) ((s.ticks.getD k default).v+(s.ticks.getD k default).rad))++sendB 4 ((k:Int)%256) ((s.ticks.getD k default).v-s.v0+W.gradeOn t s.route (s.place k)+(s.ticks.getD k default).acc))) (by trivial) ⟨Nat.zero_le _,by simp,by dsimp only;omega⟩ (by trivial) (by trivial) (fun _=>⟨rfl,rfl,rfl,by simp [hE]⟩) (fun i hk=>?_)
      obtain⟨i,M⟩:=i
      obtain⟨hi,hM,hMn⟩:=hk
      dsimp only at hi hM hMn ⊢
      by_cases hlt:i<s.reads.length
      ·have e8:(s.read i).cycle=(s.reads.getD i default).cycle:=rfl
       have hfm:(List.range (i+1)).flatMap (sendR s k)=(List.range i).flatMap (sendR s k)++sendR s k i:=by rw [List.range_succ,List.flatMap_append];simp
       by_cases hcy:(s.reads.getD i default).cycle=k
       ·have eR:sendR s k i=sendB 5 ((k:Int)%256) (s.reads.getD i default).group:=by unfold sendR;rw [if_pos (show (s.read i).cycle=(k:Int) from hcy)];rfl
        have hsl5:=sendB_len 5 ((k:Int)%256) (s.reads.getD i default).group
        have eS5:=ySend M 5 k (s.reads.getD i default).group (by unfold W.I64;omega) (by omega) (hs.grp i hlt) M.length rfl (by omega)
        conv=>whnf
        repeat' ((first|refine CallS.call (CallN.updVE [3] [] (RvJL.cons (RvJ.gro rfl) (RvJL.pu rfl)) (Als.nil _) (by simp) (givBuf rfl) eS5 ?_)|refine Br.pt (by assumption) ?_|refine Br.pt (by omega) ?_|refine Ob.mk (by omega) ?_|refine Ob.mk (by unfold W.I64 at *;omega) ?_|refine Ix.nat _ ?_);conv=>whnf)
        exact⟨(i+1,M++sendB 5 ((k:Int)%256) (s.reads.getD i default).group),⟨hlt,by dsimp only;rw [hfm,eR,hM,List.append_assoc],by dsimp only;rw [List.length_append];omega⟩,by dsimp only;omega,(by trivial),(by trivial),(by trivial)⟩
       ·have eR:sendR s k i=[]:=by unfold sendR;rw [if_neg (show ¬ (s.read i).cycle=(k:Int) from hcy)]
        conv=>whnf
        repeat' ((first|refine Br.pf (by assumption) ?_|refine Br.pt (by omega) ?_|refine Ob.mk (by omega) ?_|refine Ob.mk (by unfold W.I64 at *;omega) ?_|refine Ix.nat _ ?_);conv=>whnf)
        exact⟨(i+1,M),⟨hlt,by dsimp only;rw [hfm,eR,List.append_nil,hM],by dsimp only;omega⟩,by dsimp only;omega,(by trivial),(by trivial),(by trivial)⟩
      ·obtain rfl:i=s.reads.length:=by omega
       conv=>whnf
       repeat' ((refine Br.pf (by omega) ?_);conv=>whnf)
       rw [← hM]
       exact FinAt.gen (ars:=[textsV M]) [3] (RvL.cons (tc_fin (by simp) rfl) RvL.nil) (by repeat (first|exact Als.nil _|refine Als.cons rfl rfl ?_)) rfl
     ·have hk1:((k:Int)-1).toNat=k-1:=by omega
      have e9:s.ahead k=(s.ticks.getD ((k:Int)-1).toNat default).v:=by
       obtain⟨j,rfl⟩:∃ j,k=j+1:=⟨k-1,by omega⟩
       rw [hk1];rfl
      rw [e9]
      have hvj:=h.num.v ((k:Int)-1).toNat (by omega)
      rw [show s.tick ((k:Int)-1).toNat=s.ticks.getD ((k:Int)-1).toNat default from rfl] at hvj
      have hsl3:=sendB_len 3 ((k:Int)%256) ((s.ticks.getD k default).v+(s.ticks.getD k default).rad)
      have eS3:=ySend L 3 k ((s.ticks.getD k default).v+(s.ticks.getD k default).rad) (by unfold W.I64;omega) (by omega) (by unfold W.I64;omega) L.length rfl (by omega)
      have hM2:(L++sendB 3 ((k:Int)%256) ((s.ticks.getD k default).v+(s.ticks.getD k default).rad)).length≤30:=by rw [List.length_append];omega
      have hsl4:=sendB_len 4 ((k:Int)%256) ((s.ticks.getD k default).v-(s.ticks.getD ((k:Int)-1).toNat default).v+W.gradeOn t s.route (s.place k)+(s.ticks.getD k default).acc)
      have eS4:=ySend (L++sendB 3 ((k:Int)%256) ((s.ticks.getD k default).v+(s.ticks.getD k default).rad)) 4 k ((s.ticks.getD k default).v-(s.ticks.getD ((k:Int)-1).toNat default).v+W.gradeOn t s.route (s.place k)+(s.ticks.getD k default).acc) (by unfold W.I64;omega) (by omega) (by unfold W.I64;omega) _ rfl (by omega)
      have hM3:((L++sendB 3 ((k:Int)%256) ((s.ticks.getD k default).v+(s.ticks.getD k default).rad))++sendB 4 ((k:Int)%256) ((s.ticks.getD k default).v-(s.ticks.getD ((k:Int)-1).toNat default).v+W.gradeOn t s.route (s.place k)+(s.ticks.getD k default).acc)).length≤31:=by rw [List.length_append];omega
      conv=>whnf
      repeat' ((first|refine CallS.call (CallN.updVE [3] [] (RvJL.cons (RvJ.gro rfl) (RvJL.pu rfl)) (Als.nil _) (by simp) (givBuf rfl) eS3 ?_)|refine CallS.call (CallN.updVE [3] [] (RvJL.cons (RvJ.gro rfl) (RvJL.pu rfl)) (Als.nil _) (by simp) (givBuf rfl) eS4 ?_)|refine Drw.lateP tabOk [0,1,2,3,4,5,6,7,8,9,10,11,12,13,14,15,16] [] [17,18] (by kernel_rfl) (by kernel_rfl) ?_|refine Br.pt (by assumption) ?_|refine Br.pt (by omega) ?_|refine Br.pf (by omega) ?_|refine CallD.pu (eA) rfl ?_|refine CallD.pu (eG) rfl ?_|refine Ob.mk (by omega) ?_|refine Ob.mk (by unfold W.I64 at *;omega) ?_|refine Ob.mk (by simp only [Option.getD_some,Option.getD_none];omega) ?_|refine Ix.nat _ ?_|refine Ix.tn (by omega) ?_|refine Pc.lit ?_);conv=>whnf)
      refine LoopAt.rule tabOk [(1,_),(3,_),(4,_),(6,_),(9,_)] (fun (i:Nat×List (List Nat))=>[(14,.int .i64 (i.1:Int)),(10,.gro 3 i.2.length)]) (fun (i:Nat×List (List Nat))=>[.blk [sgsV t.segs,gpsV t.grps],.blk (scrC s),.blk (tickC (s.ticks.getD k default)),.buf 85 1 (tc i.2)]) (fun (i:Nat×List (List Nat))=>i.1≤s.reads.length∧i.2=((L++sendB 3 ((k:Int)%256) ((s.ticks.getD k default).v+(s.ticks.getD k default).rad))++sendB 4 ((k:Int)%256) ((s.ticks.getD k default).v-(s.ticks.getD ((k:Int)-1).toNat default).v+W.gradeOn t s.route (s.place k)+(s.ticks.getD k default).acc))++(List.range i.1).flatMap (sendR s k)∧i.2.length≤40+i.1) (fun (i:Nat×List (List Nat))=>s.reads.length-i.1) (0,((L++sendB 3 ((k:Int)%256) ((s.ticks.getD k default).v+(s.ticks.getD k default).rad))++sendB 4 ((k:Int)%256) ((s.ticks.getD k default).v-(s.ticks.getD ((k:Int)-1).toNat default).v+W.gradeOn t s.route (s.place k)+(s.ticks.getD k default).acc))) (by trivial) ⟨Nat.zero_le _,by simp,by dsimp only;omega⟩ (by trivial) (by trivial) (fun _=>⟨rfl,rfl,rfl,by simp [hE]⟩) (fun i hk=>?_)
      obtain⟨i,M⟩:=i
      obtain⟨hi,hM,hMn⟩:=hk
      dsimp only at hi hM hMn ⊢
      by_cases hlt:i<s.reads.length
      ·have e8:(s.read i).cycle=(s.reads.getD i default).cycle:=rfl
       have hfm:(List.range (i+1)).flatMap (sendR s k)=(List.range i).flatMap (sendR s k)++sendR s k i:=by rw [List.range_succ,List.flatMap_append];simp
       by_cases hcy:(s.reads.getD i default).cycle=k
       ·have eR:sendR s k i=sendB 5 ((k:Int)%256) (s.reads.getD i default).group:=by unfold sendR;rw [if_pos (show (s.read i).cycle=(k:Int) from hcy)];rfl
        have hsl5:=sendB_len 5 ((k:Int)%256) (s.reads.getD i default).group
        have eS5:=ySend M 5 k (s.reads.getD i default).group (by unfold W.I64;omega) (by omega) (hs.grp i hlt) M.length rfl (by omega)
        conv=>whnf
        repeat' ((first|refine CallS.call (CallN.updVE [3] [] (RvJL.cons (RvJ.gro rfl) (RvJL.pu rfl)) (Als.nil _) (by simp) (givBuf rfl) eS5 ?_)|refine Br.pt (by assumption) ?_|refine Br.pt (by omega) ?_|refine Ob.mk (by omega) ?_|refine Ob.mk (by unfold W.I64 at *;omega) ?_|refine Ix.nat _ ?_);conv=>whnf)
        exact⟨(i+1,M++sendB 5 ((k:Int)%256) (s.reads.getD i default).group),⟨hlt,by dsimp only;rw [hfm,eR,hM,List.append_assoc],by dsimp only;rw [List.length_append];omega⟩,by dsimp only;omega,(by trivial),(by trivial),(by trivial)⟩
       ·have eR:sendR s k i=[]:=by unfold sendR;rw [if_neg (show ¬ (s.read i).cycle=(k:Int) from hcy)]
        conv=>whnf
        repeat' ((first|refine Br.pf (by assumption) ?_|refine Br.pt (by omega) ?_|refine Ob.mk (by omega) ?_|refine Ob.mk (by unfold W.I64 at *;omega) ?_|refine Ix.nat _ ?_);conv=>whnf)
        exact⟨(i+1,M),⟨hlt,by dsimp only;rw [hfm,eR,List.append_nil,hM],by dsimp only;omega⟩,by dsimp only;omega,(by trivial),(by trivial),(by trivial)⟩
      ·obtain rfl:i=s.reads.length:=by omega
       conv=>whnf
       repeat' ((refine Br.pf (by omega) ?_);conv=>whnf)
       rw [← hM]
       exact FinAt.gen (ars:=[textsV M]) [3] (RvL.cons (tc_fin (by simp) rfl) RvL.nil) (by repeat (first|exact Als.nil _|refine Als.cons rfl rfl ?_)) rfl
    ·rw [if_neg l3,List.append_nil]
     have hsl3:=sendB_len 3 ((k:Int)%256) ((s.ticks.getD k default).v+(s.ticks.getD k default).rad)
     have eS3:=ySend L 3 k ((s.ticks.getD k default).v+(s.ticks.getD k default).rad) (by unfold W.I64;omega) (by omega) (by unfold W.I64;omega) L.length rfl (by omega)
     have hM2:(L++sendB 3 ((k:Int)%256) ((s.ticks.getD k default).v+(s.ticks.getD k default).rad)).length≤30:=by rw [List.length_append];omega
     conv=>whnf
     repeat' ((first|refine CallS.call (CallN.updVE [3] [] (RvJL.cons (RvJ.gro rfl) (RvJL.pu rfl)) (Als.nil _) (by simp) (givBuf rfl) eS3 ?_)|refine Br.pt (by assumption) ?_|refine Br.pf (by assumption) ?_|refine Br.pf (by omega) ?_|refine Ob.mk (by unfold W.I64 at *;omega) ?_|refine Ob.mk (by simp only [Option.getD_some,Option.getD_none];omega) ?_|refine Ix.nat _ ?_|refine Pc.lit ?_);conv=>whnf)
     refine LoopAt.rule tabOk [(1,_),(3,_),(4,_),(6,_),(9,_)] (fun (i:Nat×List (List Nat))=>[(14,.int .i64 (i.1:Int)),(10,.gro 3 i.2.length)]) (fun (i:Nat×List (List Nat))=>[.blk [sgsV t.segs,gpsV t.grps],.blk (scrC s),.blk (tickC (s.ticks.getD k default)),.buf 85 1 (tc i.2)]) (fun (i:Nat×List (List Nat))=>i.1≤s.reads.length∧i.2=(L++sendB 3 ((k:Int)%256) ((s.ticks.getD k default).v+(s.ticks.getD k default).rad))++(List.range i.1).flatMap (sendR s k)∧i.2.length≤40+i.1) (fun (i:Nat×List (List Nat))=>s.reads.length-i.1) (0,(L++sendB 3 ((k:Int)%256) ((s.ticks.getD k default).v+(s.ticks.getD k default).rad))) (by trivial) ⟨Nat.zero_le _,by simp,by dsimp only;omega⟩ (by trivial) (by trivial) (fun _=>⟨rfl,rfl,rfl,by simp [hE]⟩) (fun i hk=>?_)
     obtain⟨i,M⟩:=i
     obtain⟨hi,hM,hMn⟩:=hk
     dsimp only at hi hM hMn ⊢
     by_cases hlt:i<s.reads.length
     ·have e8:(s.read i).cycle=(s.reads.getD i default).cycle:=rfl
      have hfm:(List.range (i+1)).flatMap (sendR s k)=(List.range i).flatMap (sendR s k)++sendR s k i:=by rw [List.range_succ,List.flatMap_append];simp
      by_cases hcy:(s.reads.getD i default).cycle=k
      ·have eR:sendR s k i=sendB 5 ((k:Int)%256) (s.reads.getD i default).group:=by unfold sendR;rw [if_pos (show (s.read i).cycle=(k:Int) from hcy)];rfl
       have hsl5:=sendB_len 5 ((k:Int)%256) (s.reads.getD i default).group
       have eS5:=ySend M 5 k (s.reads.getD i default).group (by unfold W.I64;omega) (by omega) (hs.grp i hlt) M.length rfl (by omega)
       conv=>whnf
       repeat' ((first|refine CallS.call (CallN.updVE [3] [] (RvJL.cons (RvJ.gro rfl) (RvJL.pu rfl)) (Als.nil _) (by simp) (givBuf rfl) eS5 ?_)|refine Br.pt (by assumption) ?_|refine Br.pt (by omega) ?_|refine Ob.mk (by omega) ?_|refine Ob.mk (by unfold W.I64 at *;omega) ?_|refine Ix.nat _ ?_);conv=>whnf)
       exact⟨(i+1,M++sendB 5 ((k:Int)%256) (s.reads.getD i default).group),⟨hlt,by dsimp only;rw [hfm,eR,hM,List.append_assoc],by dsimp only;rw [List.length_append];omega⟩,by dsimp only;omega,(by trivial),(by trivial),(by trivial)⟩
      ·have eR:sendR s k i=[]:=by unfold sendR;rw [if_neg (show ¬ (s.read i).cycle=(k:Int) from hcy)]
       conv=>whnf
       repeat' ((first|refine Br.pf (by assumption) ?_|refine Br.pt (by omega) ?_|refine Ob.mk (by omega) ?_|refine Ob.mk (by unfold W.I64 at *;omega) ?_|refine Ix.nat _ ?_);conv=>whnf)
       exact⟨(i+1,M),⟨hlt,by dsimp only;rw [hfm,eR,List.append_nil,hM],by dsimp only;omega⟩,by dsimp only;omega,(by trivial),(by trivial),(by trivial)⟩
     ·obtain rfl:i=s.reads.length:=by omega
      conv=>whnf
      repeat' ((refine Br.pf (by omega) ?_);conv=>whnf)
      rw [← hM]
      exact FinAt.gen (ars:=[textsV M]) [3] (RvL.cons (tc_fin (by simp) rfl) RvL.nil) (by repeat (first|exact Als.nil _|refine Als.cons rfl rfl ?_)) rfl
   ·rw [if_neg l2,List.append_nil]
    by_cases l3:(s.ticks.getD k default).lost3=0
    ·rw [if_pos l3]
     by_cases hk0:k=0
     ·have e9:s.ahead k=s.v0:=by rw [hk0];rfl
      rw [e9]
      have hsl4:=sendB_len 4 ((k:Int)%256) ((s.ticks.getD k default).v-s.v0+W.gradeOn t s.route (s.place k)+(s.ticks.getD k default).acc)
      have eS4:=ySend L 4 k ((s.ticks.getD k default).v-s.v0+W.gradeOn t s.route (s.place k)+(s.ticks.getD k default).acc) (by unfold W.I64;omega) (by omega) (by unfold W.I64;omega) _ rfl (by omega)
      have hM3:(L++sendB 4 ((k:Int)%256) ((s.ticks.getD k default).v-s.v0+W.gradeOn t s.route (s.place k)+(s.ticks.getD k default).acc)).length≤31:=by rw [List.length_append];omega
      conv=>whnf
      repeat' ((first|refine CallS.call (CallN.updVE [3] [] (RvJL.cons (RvJ.gro rfl) (RvJL.pu rfl)) (Als.nil _) (by simp) (givBuf rfl) eS4 ?_)|refine Drw.lateP tabOk [0,1,2,3,4,5,6,7,8,9,10,11,12,13,14,15,16] [] [17,18] (by kernel_rfl) (by kernel_rfl) ?_|refine Br.pt (by assumption) ?_|refine Br.pf (by assumption) ?_|refine Br.pf (by omega) ?_|refine CallD.pu (eA) rfl ?_|refine CallD.pu (eG) rfl ?_|refine Ob.mk (by unfold W.I64 at *;omega) ?_|refine Ob.mk (by simp only [Option.getD_some,Option.getD_none];omega) ?_|refine Ix.nat _ ?_|refine Pc.lit ?_);conv=>whnf)
      refine LoopAt.rule tabOk [(1,_),(3,_),(4,_),(6,_),(9,_)] (fun (i:Nat×List (List Nat))=>[(14,.int .i64 (i.1:Int)),(10,.gro 3 i.2.length)]) (fun (i:Nat×List (List Nat))=>[.blk [sgsV t.segs,gpsV t.grps],.blk (scrC s),.blk (tickC (s.ticks.getD k default)),.buf 85 1 (tc i.2)]) (fun (i:Nat×List (List Nat))=>i.1≤s.reads.length∧i.2=(L++sendB 4 ((k:Int)%256) ((s.ticks.getD k default).v-s.v0+W.gradeOn t s.route (s.place k)+(s.ticks.getD k default).acc))++(List.range i.1).flatMap (sendR s k)∧i.2.length≤40+i.1) (fun (i:Nat×List (List Nat))=>s.reads.length-i.1) (0,(L++sendB 4 ((k:Int)%256) ((s.ticks.getD k default).v-s.v0+W.gradeOn t s.route (s.place k)+(s.ticks.getD k default).acc))) (by trivial) ⟨Nat.zero_le _,by simp,by dsimp only;omega⟩ (by trivial) (by trivial) (fun _=>⟨rfl,rfl,rfl,by simp [hE]⟩) (fun i hk=>?_)
      obtain⟨i,M⟩:=i
      obtain⟨hi,hM,hMn⟩:=hk
      dsimp only at hi hM hMn ⊢
      by_cases hlt:i<s.reads.length
      ·have e8:(s.read i).cycle=(s.reads.getD i default).cycle:=rfl
       have hfm:(List.range (i+1)).flatMap (sendR s k)=(List.range i).flatMap (sendR s k)++sendR s k i:=by rw [List.range_succ,List.flatMap_append];simp
       by_cases hcy:(s.reads.getD i default).cycle=k
       ·have eR:sendR s k i=sendB 5 ((k:Int)%256) (s.reads.getD i default).group:=by unfold sendR;rw [if_pos (show (s.read i).cycle=(k:Int) from hcy)];rfl
        have hsl5:=sendB_len 5 ((k:Int)%256) (s.reads.getD i default).group
        have eS5:=ySend M 5 k (s.reads.getD i default).group (by unfold W.I64;omega) (by omega) (hs.grp i hlt) M.length rfl (by omega)
        conv=>whnf
        repeat' ((first|refine CallS.call (CallN.updVE [3] [] (RvJL.cons (RvJ.gro rfl) (RvJL.pu rfl)) (Als.nil _) (by simp) (givBuf rfl) eS5 ?_)|refine Br.pt (by assumption) ?_|refine Br.pt (by omega) ?_|refine Ob.mk (by omega) ?_|refine Ob.mk (by unfold W.I64 at *;omega) ?_|refine Ix.nat _ ?_);conv=>whnf)
        exact⟨(i+1,M++sendB 5 ((k:Int)%256) (s.reads.getD i default).group),⟨hlt,by dsimp only;rw [hfm,eR,hM,List.append_assoc],by dsimp only;rw [List.length_append];omega⟩,by dsimp only;omega,(by trivial),(by trivial),(by trivial)⟩
       ·have eR:sendR s k i=[]:=by unfold sendR;rw [if_neg (show ¬ (s.read i).cycle=(k:Int) from hcy)]
        conv=>whnf
        repeat' ((first|refine Br.pf (by assumption) ?_|refine Br.pt (by omega) ?_|refine Ob.mk (by omega) ?_|refine Ob.mk (by unfold W.I64 at *;omega) ?_|refine Ix.nat _ ?_);conv=>whnf)
        exact⟨(i+1,M),⟨hlt,by dsimp only;rw [hfm,eR,List.append_nil,hM],by dsimp only;omega⟩,by dsimp only;omega,(by trivial),(by trivial),(by trivial)⟩
      ·obtain rfl:i=s.reads.length:=by omega
       conv=>whnf
       repeat' ((refine Br.pf (by omega) ?_);conv=>whnf)
       rw [← hM]
       exact FinAt.gen (ars:=[textsV M]) [3] (RvL.cons (tc_fin (by simp) rfl) RvL.nil) (by repeat (first|exact Als.nil _|refine Als.cons rfl rfl ?_)) rfl
     ·have hk1:((k:Int)-1).toNat=k-1:=by omega
      have e9:s.ahead k=(s.ticks.getD ((k:Int)-1).toNat default).v:=by
       obtain⟨j,rfl⟩:∃ j,k=j+1:=⟨k-1,by omega⟩
       rw [hk1];rfl
      rw [e9]
      have hvj:=h.num.v ((k:Int)-1).toNat (by omega)
      rw [show s.tick ((k:Int)-1).toNat=s.ticks.getD ((k:Int)-1).toNat default from rfl] at hvj
      have hsl4:=sendB_len 4 ((k:Int)%256) ((s.ticks.getD k default).v-(s.ticks.getD ((k:Int)-1).toNat default).v+W.gradeOn t s.route (s.place k)+(s.ticks.getD k default).acc)
      have eS4:=ySend L 4 k ((s.ticks.getD k default).v-(s.ticks.getD ((k:Int)-1).toNat default).v+W.gradeOn t s.route (s.place k)+(s.ticks.getD k default).acc) (by unfold W.I64;omega) (by omega) (by unfold W.I64;omega) _ rfl (by omega)
      have hM3:(L++sendB 4 ((k:Int)%256) ((s.ticks.getD k default).v-(s.ticks.getD ((k:Int)-1).toNat default).v+W.gradeOn t s.route (s.place k)+(s.ticks.getD k default).acc)).length≤31:=by rw [List.length_append];omega
      conv=>whnf
      repeat' ((first|refine CallS.call (CallN.updVE [3] [] (RvJL.cons (RvJ.gro rfl) (RvJL.pu rfl)) (Als.nil _) (by simp) (givBuf rfl) eS4 ?_)|refine Drw.lateP tabOk [0,1,2,3,4,5,6,7,8,9,10,11,12,13,14,15,16] [] [17,18] (by kernel_rfl) (by kernel_rfl) ?_|refine Br.pt (by assumption) ?_|refine Br.pf (by assumption) ?_|refine Br.pt (by omega) ?_|refine Br.pf (by omega) ?_|refine CallD.pu (eA) rfl ?_|refine CallD.pu (eG) rfl ?_|refine Ob.mk (by omega) ?_|refine Ob.mk (by unfold W.I64 at *;omega) ?_|refine Ob.mk (by simp only [Option.getD_some,Option.getD_none];omega) ?_|refine Ix.nat _ ?_|refine Ix.tn (by omega) ?_|refine Pc.lit ?_);conv=>whnf)
      refine LoopAt.rule tabOk [(1,_),(3,_),(4,_),(6,_),(9,_)] (fun (i:Nat×List (List Nat))=>[(14,.int .i64 (i.1:Int)),(10,.gro 3 i.2.length)]) (fun (i:Nat×List (List Nat))=>[.blk [sgsV t.segs,gpsV t.grps],.blk (scrC s),.blk (tickC (s.ticks.getD k default)),.buf 85 1 (tc i.2)]) (fun (i:Nat×List (List Nat))=>i.1≤s.reads.length∧i.2=(L++sendB 4 ((k:Int)%256) ((s.ticks.getD k default).v-(s.ticks.getD ((k:Int)-1).toNat default).v+W.gradeOn t s.route (s.place k)+(s.ticks.getD k default).acc))++(List.range i.1).flatMap (sendR s k)∧i.2.length≤40+i.1) (fun (i:Nat×List (List Nat))=>s.reads.length-i.1) (0,(L++sendB 4 ((k:Int)%256) ((s.ticks.getD k default).v-(s.ticks.getD ((k:Int)-1).toNat default).v+W.gradeOn t s.route (s.place k)+(s.ticks.getD k default).acc))) (by trivial) ⟨Nat.zero_le _,by simp,by dsimp only;omega⟩ (by trivial) (by trivial) (fun _=>⟨rfl,rfl,rfl,by simp [hE]⟩) (fun i hk=>?_)
      obtain⟨i,M⟩:=i
      obtain⟨hi,hM,hMn⟩:=hk
      dsimp only at hi hM hMn ⊢
      by_cases hlt:i<s.reads.length
      ·have e8:(s.read i).cycle=(s.reads.getD i default).cycle:=rfl
       have hfm:(List.range (i+1)).flatMap (sendR s k)=(List.range i).flatMap (sendR s k)++sendR s k i:=by rw [List.range_succ,List.flatMap_append];simp
       by_cases hcy:(s.reads.getD i default).cycle=k
       ·have eR:sendR s k i=sendB 5 ((k:Int)%256) (s.reads.getD i default).group:=by unfold sendR;rw [if_pos (show (s.read i).cycle=(k:Int) from hcy)];rfl
        have hsl5:=sendB_len 5 ((k:Int)%256) (s.reads.getD i default).group
        have eS5:=ySend M 5 k (s.reads.getD i default).group (by unfold W.I64;omega) (by omega) (hs.grp i hlt) M.length rfl (by omega)
        conv=>whnf
        repeat' ((first|refine CallS.call (CallN.updVE [3] [] (RvJL.cons (RvJ.gro rfl) (RvJL.pu rfl)) (Als.nil _) (by simp) (givBuf rfl) eS5 ?_)|refine Br.pt (by assumption) ?_|refine Br.pt (by omega) ?_|refine Ob.mk (by omega) ?_|refine Ob.mk (by unfold W.I64 at *;omega) ?_|refine Ix.nat _ ?_);conv=>whnf)
        exact⟨(i+1,M++sendB 5 ((k:Int)%256) (s.reads.getD i default).group),⟨hlt,by dsimp only;rw [hfm,eR,hM,List.append_assoc],by dsimp only;rw [List.length_append];omega⟩,by dsimp only;omega,(by trivial),(by trivial),(by trivial)⟩
       ·have eR:sendR s k i=[]:=by unfold sendR;rw [if_neg (show ¬ (s.read i).cycle=(k:Int) from hcy)]
        conv=>whnf
        repeat' ((first|refine Br.pf (by assumption) ?_|refine Br.pt (by omega) ?_|refine Ob.mk (by omega) ?_|refine Ob.mk (by unfold W.I64 at *;omega) ?_|refine Ix.nat _ ?_);conv=>whnf)
        exact⟨(i+1,M),⟨hlt,by dsimp only;rw [hfm,eR,List.append_nil,hM],by dsimp only;omega⟩,by dsimp only;omega,(by trivial),(by trivial),(by trivial)⟩
      ·obtain rfl:i=s.reads.length:=by omega
       conv=>whnf
       repeat' ((refine Br.pf (by omega) ?_);conv=>whnf)
       rw [← hM]
       exact FinAt.gen (ars:=[textsV M]) [3] (RvL.cons (tc_fin (by simp) rfl) RvL.nil) (by repeat (first|exact Als.nil _|refine Als.cons rfl rfl ?_)) rfl
    ·rw [if_neg l3,List.append_nil]
     conv=>whnf
     repeat' ((first|refine Br.pf (by assumption) ?_|refine Br.pf (by omega) ?_|refine Ob.mk (by simp only [Option.getD_some,Option.getD_none];omega) ?_|refine Ix.nat _ ?_|refine Pc.lit ?_);conv=>whnf)
     refine LoopAt.rule tabOk [(1,_),(3,_),(4,_),(6,_),(9,_)] (fun (i:Nat×List (List Nat))=>[(14,.int .i64 (i.1:Int)),(10,.gro 3 i.2.length)]) (fun (i:Nat×List (List Nat))=>[.blk [sgsV t.segs,gpsV t.grps],.blk (scrC s),.blk (tickC (s.ticks.getD k default)),.buf 85 1 (tc i.2)]) (fun (i:Nat×List (List Nat))=>i.1≤s.reads.length∧i.2=L++(List.range i.1).flatMap (sendR s k)∧i.2.length≤40+i.1) (fun (i:Nat×List (List Nat))=>s.reads.length-i.1) (0,L) (by trivial) ⟨Nat.zero_le _,by simp,by dsimp only;omega⟩ (by trivial) (by trivial) (fun _=>⟨rfl,rfl,rfl,by simp [hE]⟩) (fun i hk=>?_)
     obtain⟨i,M⟩:=i
     obtain⟨hi,hM,hMn⟩:=hk
     dsimp only at hi hM hMn ⊢
     by_cases hlt:i<s.reads.length
     ·have e8:(s.read i).cycle=(s.reads.getD i default).cycle:=rfl
      have hfm:(List.range (i+1)).flatMap (sendR s k)=(List.range i).flatMap (sendR s k)++sendR s k i:=by rw [List.range_succ,List.flatMap_append];simp
      by_cases hcy:(s.reads.getD i default).cycle=k
      ·have eR:sendR s k i=sendB 5 ((k:Int)%256) (s.reads.getD i default).group:=by unfold sendR;rw [if_pos (show (s.read i).cycle=(k:Int) from hcy)];rfl
       have hsl5:=sendB_len 5 ((k:Int)%256) (s.reads.getD i default).group
       have eS5:=ySend M 5 k (s.reads.getD i default).group (by unfold W.I64;omega) (by omega) (hs.grp i hlt) M.length rfl (by omega)
       conv=>whnf
       repeat' ((first|refine CallS.call (CallN.updVE [3] [] (RvJL.cons (RvJ.gro rfl) (RvJL.pu rfl)) (Als.nil _) (by simp) (givBuf rfl) eS5 ?_)|refine Br.pt (by assumption) ?_|refine Br.pt (by omega) ?_|refine Ob.mk (by omega) ?_|refine Ob.mk (by unfold W.I64 at *;omega) ?_|refine Ix.nat _ ?_);conv=>whnf)
       exact⟨(i+1,M++sendB 5 ((k:Int)%256) (s.reads.getD i default).group),⟨hlt,by dsimp only;rw [hfm,eR,hM,List.append_assoc],by dsimp only;rw [List.length_append];omega⟩,by dsimp only;omega,(by trivial),(by trivial),(by trivial)⟩
      ·have eR:sendR s k i=[]:=by unfold sendR;rw [if_neg (show ¬ (s.read i).cycle=(k:Int) from hcy)]
       conv=>whnf
       repeat' ((first|refine Br.pf (by assumption) ?_|refine Br.pt (by omega) ?_|refine Ob.mk (by omega) ?_|refine Ob.mk (by unfold W.I64 at *;omega) ?_|refine Ix.nat _ ?_);conv=>whnf)
       exact⟨(i+1,M),⟨hlt,by dsimp only;rw [hfm,eR,List.append_nil,hM],by dsimp only;omega⟩,by dsimp only;omega,(by trivial),(by trivial),(by trivial)⟩
     ·obtain rfl:i=s.reads.length:=by omega
      conv=>whnf
      repeat' ((refine Br.pf (by omega) ?_);conv=>whnf)
      rw [← hM]
      exact FinAt.gen (ars:=[textsV M]) [3] (RvL.cons (tc_fin (by simp) rfl) RvL.nil) (by repeat (first|exact Als.nil _|refine Als.cons rfl rfl ?_)) rfl
end
end Y
section
namespace W
def smallS(t:Trk)(i:Nat):Bool:=decide ((t.segs.getD i default).pieces.length≤70)&&decide ((t.segs.getD i default).next.length≤3)
def smallT(s:Script)(i:Nat):Bool:=decide ((s.ticks.getD i default).junk.length≤30)&&allB (fun j=>decide (((s.ticks.getD i default).junk.getD j []).length≤200)) (s.ticks.getD i default).junk.length
def smallB(t:Trk)(s:Script):Bool:=decide (t.segs.length≤50∧t.grps.length≤60∧s.ticks.length≤90∧s.reads.length≤90∧s.route.length≤100)&&allB (smallS t) t.segs.length&&allB (smallT s) s.ticks.length
end W
namespace Y
open Go Go.RowKit Go.Sort
variable{c:W.Conf}{t:W.Trk}{s:W.Script}
theorem topReadIn(s:W.Script)(k:Int)(h:s.reads.length≤1000000):Ret Tryz.prog 9 [scrV s,I k] (·=I (W.readIn s k)):=by
 refine enterO tabOk (N:=22) (gs:=[]) (args:=[_,_]) Tryz.func9 rfl rfl rfl (nLe rfl) (fun E hE=>?_)
 conv=>whnf
 refine LoopAt.rule tabOk [(1,_),(2,_),(8,_)] (fun (i:Nat)=>[(9,.int .i64 (i:Int))]) (fun (i:Nat)=>[.blk (scrC s)]) (fun (i:Nat)=>i≤s.reads.length∧∀ j,j<i→decide ((s.read j).cycle=k)=false) (fun (i:Nat)=>s.reads.length-i) 0 (by trivial) ⟨Nat.zero_le _,fun j hj=>absurd hj (by omega)⟩ (by trivial) (by trivial) (fun _=>⟨rfl,rfl,rfl,by simp [hE]⟩) (fun i hk=>?_)
 obtain⟨hk,hno⟩:=hk
 by_cases hlt:i<s.reads.length
 ·have er:(s.read i).cycle=(s.reads.getD i default).cycle:=rfl
  conv=>whnf
  repeat' (first|((first|refine Br.pt (by omega) ?_|refine Ob.mk (by omega) ?_|refine Ob.mk (by unfold W.I64 at *;omega) ?_|refine Ix.nat _ ?_|refine FinAt.val rfl ?_);conv=>whnf)|((refine Br.d (fun h=>?_) (fun h=>?_))<;>conv=>whnf))
  ·unfold W.readIn
   rw [W.firstI_hit hno hlt (by rw [er];exact decide_eq_true (by assumption))]
   rfl
  ·exact⟨i+1,⟨hlt,W.all_step hno (by rw [er];exact decide_eq_false (by assumption))⟩,by omega,(by trivial),(by trivial),(by trivial)⟩
 ·obtain rfl:i=s.reads.length:=by omega
  conv=>whnf
  repeat' ((first|refine Br.pf (by omega) ?_|refine FinAt.val rfl ?_);conv=>whnf)
  unfold W.readIn
  rw [W.firstI_none hno]
  rfl
theorem topSmall(t:W.Trk)(s:W.Script):Ret Tryz.prog 14 [trkV t,scrV s] (·=.bool (W.smallB t s)):=by
 unfold W.smallB
 by_cases h0:t.segs.length≤50∧t.grps.length≤60∧s.ticks.length≤90∧s.reads.length≤90∧s.route.length≤100
 ·rw [decide_eq_true h0,Bool.true_and]
  obtain⟨h1,h2,h3,h4,h5⟩:=h0
  refine enterO tabOk (N:=92) (gs:=[]) (args:=[_,_]) Tryz.func14 rfl rfl rfl (nLe rfl) (fun E hE=>?_)
  conv=>whnf
  repeat' ((refine Br.pf (by omega) ?_);conv=>whnf)
  refine LoopAt.rule tabOk [(2,_),(3,_),(4,_),(39,_)] (fun (i:Nat)=>[(40,.int .i64 (i:Int))]) (fun (i:Nat)=>[.blk [sgsV t.segs,gpsV t.grps],.blk (scrC s)]) (fun (i:Nat)=>i≤t.segs.length∧∀ j,j<i→W.smallS t j=true) (fun (i:Nat)=>t.segs.length-i) 0 (by trivial) ⟨Nat.zero_le _,fun j hj=>absurd hj (by omega)⟩ (by trivial) (by trivial) (fun _=>⟨rfl,rfl,rfl,by simp [hE]⟩) (fun i hk=>?_)
  obtain⟨hk,hno⟩:=hk
  by_cases hlt:i<t.segs.length
  ·have er:W.smallS t i=(decide ((t.segs.getD i default).pieces.length≤70)&&decide ((t.segs.getD i default).next.length≤3)):=rfl
   have no:W.smallS t i=false→AV.bool false=.bool (W.allB (W.smallS t) t.segs.length&&W.allB (W.smallT s) s.ticks.length):=fun hf=>by
    rw [W.allB_no hlt hf];rfl
   conv=>whnf
   repeat' (first|((first|refine Br.pt (by assumption) ?_|refine Br.pf (by assumption) ?_|refine Br.pt (by omega) ?_|refine Br.ot rfl ?_|refine Ob.mk (by omega) ?_|refine Ob.mk (by unfold W.I64 at *;omega) ?_|refine Ix.nat _ ?_|refine FinAt.val rfl ?_);conv=>whnf)|((refine Br.d (fun h=>?_) (fun h=>?_))<;>conv=>whnf))
   all_goals first
    |exact no (by rw [er,decide_eq_false (p:=_≤70) (by omega)];rfl)
    |exact no (by rw [er,decide_eq_false (p:=_≤3) (by omega)];exact Bool.and_false _)
    |exact⟨i+1,⟨hlt,W.all_step hno (by rw [er,decide_eq_true (by omega),decide_eq_true (by omega)];rfl)⟩,by omega,(by trivial),(by trivial),(by trivial)⟩
  ·obtain rfl:i=t.segs.length:=by omega
   rw [W.allB_yes hno,Bool.true_and]
   conv=>whnf
   repeat' ((refine Br.pf (by omega) ?_);conv=>whnf)
   refine LoopAt.rule tabOk [(2,_),(3,_),(4,_),(64,_)] (fun (i:Nat)=>[(65,.int .i64 (i:Int))]) (fun (i:Nat)=>[.blk [sgsV t.segs,gpsV t.grps],.blk (scrC s)]) (fun (i:Nat)=>i≤s.ticks.length∧∀ j,j<i→W.smallT s j=true) (fun (i:Nat)=>s.ticks.length-i) 0 (by trivial) ⟨Nat.zero_le _,fun j hj=>absurd hj (by omega)⟩ (by trivial) (by trivial) (fun _=>⟨rfl,rfl,rfl,by simp [hE]⟩) (fun i hk=>?_)
   obtain⟨hk,hno2⟩:=hk
   by_cases hlt:i<s.ticks.length
   ·have er:W.smallT s i=(decide ((s.ticks.getD i default).junk.length≤30)&&W.allB (fun j=>decide (((s.ticks.getD i default).junk.getD j []).length≤200)) (s.ticks.getD i default).junk.length):=rfl
    have no:W.smallT s i=false→AV.bool false=.bool (W.allB (W.smallT s) s.ticks.length):=fun hf=>by
     rw [W.allB_no hlt hf]
    conv=>whnf
    repeat' (first|((first|refine Br.pt (by omega) ?_|refine Ob.mk (by omega) ?_|refine Ix.nat _ ?_|refine FinAt.val rfl ?_);conv=>whnf)|((refine Br.d (fun h=>?_) (fun h=>?_))<;>conv=>whnf))
    ·exact no (by rw [er,decide_eq_false (p:=_≤30) (by omega)];rfl)
    ·obtain⟨q,rfl⟩:∃ q,q=i:=⟨i,rfl⟩
     refine LoopAt.rule tabOk [(2,_),(3,_),(4,_),(64,_),(65,_),(81,_),(82,_)] (fun (i:Nat)=>[(83,.int .i64 (i:Int))]) (fun (i:Nat)=>[.blk [sgsV t.segs,gpsV t.grps],.blk (scrC s)]) (fun (i:Nat)=>i≤(s.ticks.getD q default).junk.length∧∀ j,j<i→decide (((s.ticks.getD q default).junk.getD j []).length≤200)=true) (fun (i:Nat)=>(s.ticks.getD q default).junk.length-i) 0 (by trivial) ⟨Nat.zero_le _,fun j hj=>absurd hj (by omega)⟩ (by trivial) (by trivial) (fun _=>⟨rfl,rfl,rfl,by simp [hE]⟩) (fun i hk=>?_)
     obtain⟨hk2,hno3⟩:=hk
     by_cases hlt2:i<(s.ticks.getD q default).junk.length
     ·conv=>whnf
      repeat' (first|((first|refine Br.pt (by omega) ?_|refine Ob.mk (by omega) ?_|refine Ob.mk (by unfold W.I64 at *;omega) ?_|refine Ix.nat _ ?_|refine FinAt.val rfl ?_);conv=>whnf)|((refine Br.d (fun h=>?_) (fun h=>?_))<;>conv=>whnf))
      ·refine no ?_
       rw [er,W.allB_no hlt2 (decide_eq_false (by omega)),Bool.and_false]
      ·exact⟨i+1,⟨hlt2,W.all_step hno3 (decide_eq_true (by omega))⟩,by omega,(by trivial),(by trivial),(by trivial)⟩
     ·obtain rfl:i=(s.ticks.getD q default).junk.length:=by omega
      conv=>whnf
      repeat' ((first|refine Br.pf (by omega) ?_|refine Ob.mk (by unfold W.I64 at *;omega) ?_);conv=>whnf)
      exact⟨q+1,⟨hlt,W.all_step hno2 (by rw [er,decide_eq_true (by omega),W.allB_yes hno3];rfl)⟩,by omega,(by trivial),(by trivial),(by trivial)⟩
   ·obtain rfl:i=s.ticks.length:=by omega
    rw [W.allB_yes hno2]
    conv=>whnf
    repeat' ((first|refine Br.pf (by omega) ?_|refine FinAt.val rfl ?_);conv=>whnf)
    rfl
 ·rw [decide_eq_false h0,Bool.false_and,Bool.false_and]
  refine enterO tabOk (N:=92) (gs:=[]) (args:=[_,_]) Tryz.func14 rfl rfl rfl (nLe rfl) (fun E hE=>?_)
  conv=>whnf
  repeat' (first|((first|refine Br.pt (by assumption) ?_|refine Br.pf (by assumption) ?_|refine Br.pt (by omega) ?_|refine Br.ot rfl ?_|refine FinAt.val rfl ?_);conv=>whnf)|((refine Br.d (fun h=>?_) (fun h=>?_))<;>conv=>whnf))
  all_goals first|rfl|omega
end Y
end
end Go.Proofs.YtllemifiammnnaaGreat
