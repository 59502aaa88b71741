/- Part 15 of the proof. No condition. -/
import Derived.WalkKit
import Derived.ProofKit
import Derived.OpenShut
import Derived.ShutString
import Derived.ChangeOld
import Derived.Below
import Derived.Lib.SmallJoins
import Derived.Deep.Slices
import Derived.Test.YtllemifiammnnaaGreatG14
import Derived.Test.YtllemifiammnnaaGreatG11
import Derived.Test.YtllemifiammnnaaGreatG12
set_option linter.unusedVariables false
set_option linter.unusedSimpArgs false
set_option maxRecDepth 100000
set_option maxHeartbeats 4000000
namespace Go.Proofs.YtllemifiammnnaaGreat
namespace Y
open Go Go.RowKit Go.Sort
section
def sentA(p:Int)(s:W.Script)(k:Nat)(i:Nat):List (List Nat):=(s.tick k).junk++((if 0<i then (if (s.tick k).lost 0=0 then sendB 1 ((k%256:Nat):Int) (s.count p 0 (k+1)%65536) else []) else [])++(if 1<i then (if (s.tick k).lost 1=0 then sendB 2 ((k%256:Nat):Int) (s.count p 1 (k+1)%65536) else []) else []))
theorem tc_range(L:List (List Nat)):(List.range L.length).map (fun i=>[bytesV (L.getD i [])])=tc L:=by
 unfold tc
 apply List.ext_getElem?
 intro i
 rw [List.getElem?_map,List.getElem?_map]
 by_cases h:i<L.length
 ·simp [h,List.getD]
 ·rw [List.getElem?_eq_none (by simpa using h),List.getElem?_eq_none (by omega)];rfl
theorem sendB_len(kind seq v:Int):(sendB kind seq v).length≤1:=by unfold sendB;split<;>simp
theorem sentA0(p:Int)(s:W.Script)(k:Nat):sentA p s k 0=(s.tick k).junk:=by simp [sentA]
theorem sentA1(p:Int)(s:W.Script)(k:Nat):sentA p s k 1=sentA p s k 0++(if (s.tick k).lost 0=0 then sendB 1 ((k%256:Nat):Int) (s.count p 0 (k+1)%65536) else []):=by simp [sentA]
theorem sentA2(p:Int)(s:W.Script)(k:Nat):sentA p s k 2=sentA p s k 1++(if (s.tick k).lost 1=0 then sendB 2 ((k%256:Nat):Int) (s.count p 1 (k+1)%65536) else []):=by simp [sentA]
variable{c:W.Conf}{t:W.Trk}{s:W.Script}
theorem gradeAt_bd{l:List W.Piece}{a:Int}(h0:0<l.length)(h:∀ j,j<l.length→-1048576≤(W.pieceAt l j).grade∧(W.pieceAt l j).grade≤1048576):∀ n,n≤l.length→-1048576≤W.gradeAt l a n∧W.gradeAt l a n≤1048576
 |0,_=>by unfold W.gradeAt;exact h 0 h0
 |n+1,hn=>by
  unfold W.gradeAt
  split
  ·exact h n (by omega)
  ·exact gradeAt_bd h0 h n (by omega)
theorem RChk.pcs(h:RChk t):W.PcsOk t:=fun k hk=>by
 have:=h.sg k hk
 unfold W.segMay W.may at this
 simp only [Bool.and_eq_true,decide_eq_true_eq] at this
 omega
theorem RChk.grades(h:RChk t)(k:Nat)(hk:k<t.segs.length):∀ j,j<(t.sg k).pieces.length→-1048576≤(W.pieceAt (t.sg k).pieces j).grade∧(W.pieceAt (t.sg k).pieces j).grade≤1048576:=fun j hj=>by
 have:=h.sg k hk
 unfold W.segMay W.may at this
 simp only [Bool.and_eq_true] at this
 have:=W.allB_at this.1.1.1.2.2 j hj
 unfold W.mayAt at this
 rw [decide_eq_true_eq] at this
 omega
theorem gradeOn_bd(h:RChk t){l:List Int}(hl:W.InOk t l)(a:Int):-1048576≤W.gradeOn t l a∧W.gradeOn t l a≤1048576:=by
 unfold W.gradeOn
 dsimp only
 split
 ·next h0 =>
  have hlt:(W.firstI (W.gradeHere t l a) l.length).toNat<l.length:=by
   unfold W.firstI at h0 ⊢
   cases e:(List.range l.length).find? (W.gradeHere t l a) with
   |none=>rw [e] at h0;exact absurd h0 (by decide)
   |some k=>exact List.mem_range.1 (List.mem_of_find?_eq_some e)
  have:=hl _ hlt
  have e:t.seg (l.getD (W.firstI (W.gradeHere t l a) l.length).toNat 0)=t.sg (l.getD (W.firstI (W.gradeHere t l a) l.length).toNat 0).toNat:=rfl
  rw [e]
  exact gradeAt_bd (h.pcs _ (by omega)).1 (h.grades _ (by omega)) _ (Nat.le_refl _)
 ·omega
theorem sentL_e(p:Int)(k:Nat):sentL t p s k=((sentA p s k 2++(if (s.tick k).lost 2=0 then sendB 3 ((k%256:Nat):Int) ((s.tick k).v+(s.tick k).rad) else []))++(if (s.tick k).lost 3=0 then sendB 4 ((k%256:Nat):Int) ((s.tick k).v-s.ahead k+W.gradeOn t s.route (s.place k)+(s.tick k).acc) else []))++(List.range s.reads.length).flatMap (sendR s k):=by
 simp [sentL,sentA]
theorem tc_fin{L:List (List Nat)}{own:Ow}{I:List Nat}{j:Nat}(hi:j∈I)(hb:nth own j=some (.buf 85 1 (tc L))):Rv own I (.gro j L.length) (textsV L) :=
 Rv.gro hi hb (tc_len L) (fun i hi=>PLe.of (by simp [tc,List.getD,hi]))
theorem ySent(h:AdN c t s)(hs:ScrO s)(k:Nat)(hk:k<s.ticks.length)(hj:(s.ticks.getD k default).junk.length≤27):Ret Tryz.prog 33 [trkV t,I c.pulses,scrV s,I k] (·=textsV (sentL t c.pulses s k)):=by
 have hb:=hs.b
 have hn4:=(on_facts h.on).1
 have hp:=h.conf.pulses
 have et:s.tick k=s.ticks.getD k default:=rfl
 have nk1:=W.NumOk.le h.num (m:=k+1) (by omega)
 have hv:=h.num.v k hk
 have hv0:=speed_facts h.speeds
 have hms:=h.conf.maxSpeed
 have hnf:=(num_facts h.nums).2.2 k hk
 have haccE:=h.conf.accErr
 have hgb:=gradeOn_bd h.chk (route_in h.route) (s.place k)
 have hpl:=h.place k (by omega)
 rw [et] at hv hnf
 have hrl:=hs.reads
 have hr4:=route_len h.route
 have e5:((k%256:Nat):Int)=(k:Int)%256:=rfl
 have eA:Ret Tryz.prog 66 [scrV s,I k] (·=I (s.place k)):=yAt s k hb (by omega) (by omega) (by omega) (h.vok _ (by omega))
 have eG:=yGrade t s.route (s.place k) (by omega) h.chk.lens (route_in h.route) h.chk.pcs (by omega) (by omega)
 have eC (j:Nat) (hj:j≤1):Ret Tryz.prog 63 [scrV s,I c.pulses,I j,I (k+1)] (·=.raw (.int .i64 (s.count c.pulses j (k+1)))):=yCountR s c.pulses (k+1) j hj hb hp.1 hp.2 (by omega) (by omega) (by omega) nk1
 rw [sentL_e]
 refine enterO tabOk (N:=118) (gs:=[]) (args:=[_,_,_,_]) Tryz.func33 rfl rfl rfl (nLe rfl) (fun E hE=>?_)
 rcases Nat.eq_zero_or_pos (s.ticks.getD k default).junk.length with h0|h0
 focus
  have h0':(s.ticks.getD k default).junk=[]:=List.length_eq_zero_iff.1 h0
  have h0'':textsV (s.ticks.getD k default).junk=.lst 1 0 (fun i=>[bytesV (([]:List (List Nat)).getD i [])]):=by rw [h0'];rfl
  conv=>whnf
  repeat' ((first|refine OpAt.app0 apTxt rfl rfl h0'' ?_|refine Ob.mk (by omega) ?_|refine Ix.nat _ ?_);conv=>whnf)
  refine LoopAt.emp 10 85 1 rfl ?_
  refine LoopAt.rule tabOk [(1,_),(3,_),(4,_),(6,_),(9,_)] (fun (i:Nat×List (List Nat))=>[(11,.int .i64 (i.1:Int)),(10,.gro 3 i.2.length)]) (fun (i:Nat×List (List Nat))=>[.blk [sgsV t.segs,gpsV t.grps],.blk (scrC s),.blk (tickC (s.ticks.getD k default)),.buf 85 1 (tc i.2)]) (fun (i:Nat×List (List Nat))=>i.1≤2∧i.2=sentA c.pulses s k i.1∧i.2.length≤27+i.1) (fun (i:Nat×List (List Nat))=>2-i.1) (0,[]) (by trivial) ⟨by omega,by rw [sentA0,et,h0'],by simp⟩ (by trivial) (by trivial) (fun _=>⟨rfl,rfl,rfl,by simp [hE]⟩) (fun i hk=>?_)
 rotate_left
 focus
  conv=>whnf
  repeat' ((first|refine OpAt.appE apTxt rfl [] rfl rfl (Als.nil _) (by simp) (Xs.lst (by omega) (fun _ _=>rfl)) (by omega) (by omega) ?_|refine Ob.mk (by omega) ?_|refine Ix.nat _ ?_);conv=>whnf)
  rw [tc_range]
  refine LoopAt.rule tabOk [(1,_),(3,_),(4,_),(6,_),(9,_)] (fun (i:Nat×List (List Nat))=>[(11,.int .i64 (i.1:Int)),(10,.gro 3 i.2.length)]) (fun (i:Nat×List (List Nat))=>[.blk [sgsV t.segs,gpsV t.grps],.blk (scrC s),.blk (tickC (s.ticks.getD k default)),.buf 85 1 (tc i.2)]) (fun (i:Nat×List (List Nat))=>i.1≤2∧i.2=sentA c.pulses s k i.1∧i.2.length≤27+i.1) (fun (i:Nat×List (List Nat))=>2-i.1) (0,(s.ticks.getD k default).junk) (by trivial) ⟨by omega,by rw [sentA0,et],by dsimp only;omega⟩ (by trivial) (by trivial) (fun _=>⟨rfl,rfl,rfl,by simp [hE]⟩) (fun i hk=>?_)
 all_goals
  obtain⟨i,L⟩:=i
  obtain⟨hi,hL,hLn⟩:=hk
  dsimp only at hi hL hLn ⊢
  obtain rfl|rfl|rfl:i=0∨i=1∨i=2:=by omega
  ·have b0:=tmod_b (s.count c.pulses 0 (k+1))
   have e1:=sentA1 c.pulses s k
   rw [← hL,e5] at e1
   by_cases hl:(s.ticks.getD k default).lost0=0
   ·rw [if_pos (show (s.tick k).lost 0=0 from hl),← tmod_e] at e1
    have eS:=ySend L 1 k (((s.count c.pulses 0 (k+1)).tmod 65536+65536)%65536) (by unfold W.I64;omega) (by omega) (by unfold W.I64;omega) L.length rfl (by omega)
    have hsl:=sendB_len 1 ((k:Int)%256) (((s.count c.pulses 0 (k+1)).tmod 65536+65536)%65536)
    conv=>whnf
    repeat' ((first|refine QAt.remR rfl rfl rfl ?_|refine CallS.call (CallN.updVE [3] [] (RvJL.cons (RvJ.gro rfl) (RvJL.pu rfl)) (Als.nil _) (by simp) (givBuf rfl) eS ?_)|refine Br.pt (by assumption) ?_|refine Br.pt (by omega) ?_|refine CallS.q (eC 0 (by omega)) rfl ?_|refine Ob.mk (by omega) ?_|refine Ob.mk (by unfold W.I64 at *;omega) ?_|refine Ix.of 0 rfl ?_|refine Pc.lit ?_);conv=>whnf)
    exact⟨(1,L++sendB 1 ((k:Int)%256) (((s.count c.pulses 0 (k+1)).tmod 65536+65536)%65536)),⟨by dsimp only;omega,e1.symm,by dsimp only;rw [List.length_append];omega⟩,by dsimp only;omega,(by trivial),(by trivial),(by trivial)⟩
   ·rw [if_neg (show ¬ (s.tick k).lost 0=0 from hl),List.append_nil] at e1
    conv=>whnf
    repeat' ((first|refine Br.pf (by assumption) ?_|refine Br.pt (by omega) ?_|refine Ob.mk (by omega) ?_|refine Ob.mk (by unfold W.I64 at *;omega) ?_|refine Ix.of 0 rfl ?_|refine Pc.lit ?_);conv=>whnf)
    exact⟨(1,L),⟨by dsimp only;omega,e1.symm,by dsimp only;omega⟩,by dsimp only;omega,(by trivial),(by trivial),(by trivial)⟩
  ·have b0:=tmod_b (s.count c.pulses 1 (k+1))
   have e1:=sentA2 c.pulses s k
   rw [← hL,e5] at e1
   by_cases hl:(s.ticks.getD k default).lost1=0
   ·rw [if_pos (show (s.tick k).lost 1=0 from hl),← tmod_e] at e1
    have eS:=ySend L 2 k (((s.count c.pulses 1 (k+1)).tmod 65536+65536)%65536) (by unfold W.I64;omega) (by omega) (by unfold W.I64;omega) L.length rfl (by omega)
    have hsl:=sendB_len 2 ((k:Int)%256) (((s.count c.pulses 1 (k+1)).tmod 65536+65536)%65536)
    conv=>whnf
    repeat' ((first|refine QAt.remR rfl rfl rfl ?_|refine CallS.call (CallN.updVE [3] [] (RvJL.cons (RvJ.gro rfl) (RvJL.pu rfl)) (Als.nil _) (by simp) (givBuf rfl) eS ?_)|refine Br.pt (by assumption) ?_|refine Br.pt (by omega) ?_|refine CallS.q (eC 1 (by omega)) rfl ?_|refine Ob.mk (by omega) ?_|refine Ob.mk (by unfold W.I64 at *;omega) ?_|refine Ix.of 1 rfl ?_|refine Pc.lit ?_);conv=>whnf)
    exact⟨(2,L++sendB 2 ((k:Int)%256) (((s.count c.pulses 1 (k+1)).tmod 65536+65536)%65536)),⟨by dsimp only;omega,e1.symm,by dsimp only;rw [List.length_append];omega⟩,by dsimp only;omega,(by trivial),(by trivial),(by trivial)⟩
   ·rw [if_neg (show ¬ (s.tick k).lost 1=0 from hl),List.append_nil] at e1
    conv=>whnf
    repeat' ((first|refine Br.pf (by assumption) ?_|refine Br.pt (by omega) ?_|refine Ob.mk (by omega) ?_|refine Ob.mk (by unfold W.I64 at *;omega) ?_|refine Ix.of 1 rfl ?_|refine Pc.lit ?_);conv=>whnf)
    exact⟨(2,L),⟨by dsimp only;omega,e1.symm,by dsimp only;omega⟩,by dsimp only;omega,(by trivial),(by trivial),(by trivial)⟩
  ·rw [← hL]
   have e6:(s.tick k).lost 2=(s.ticks.getD k default).lost2:=rfl
   have e7:(s.tick k).lost 3=(s.ticks.getD k default).lost3:=rfl
   rw [e6,e7,et,e5]
   have fin:∀ (M0:List (List Nat)),M0.length≤40→True:=fun _ _=>trivial
   by_cases l2:(s.ticks.getD k default).lost2=0
   ·rw [if_pos l2]
    by_cases l3:(s.ticks.getD k default).lost3=0
    ·rw [if_pos l3]
     by_cases hk0:k=0
     ·have e9:s.ahead k=s.v0:=by rw [hk0];rfl
      rw [e9]
      have hsl3:=sendB_len 3 ((k:Int)%256) ((s.ticks.getD k default).v+(s.ticks.getD k default).rad)
      have eS3:=ySend L 3 k ((s.ticks.getD k default).v+(s.ticks.getD k default).rad) (by unfold W.I64;omega) (by omega) (by unfold W.I64;omega) L.length rfl (by omega)
      have hM2:(L++sendB 3 ((k:Int)%256) ((s.ticks.getD k default).v+(s.ticks.getD k default).rad)).length≤30:=by rw [List.length_append];omega
      have hsl4:=sendB_len 4 ((k:Int)%256) ((s.ticks.getD k default).v-s.v0+W.gradeOn t s.route (s.place k)+(s.ticks.getD k default).acc)
      have eS4:=ySend (L++sendB 3 ((k:Int)%256) ((s.ticks.getD k default).v+(s.ticks.getD k default).rad)) 4 k ((s.ticks.getD k default).v-s.v0+W.gradeOn t s.route (s.place k)+(s.ticks.getD k default).acc) (by unfold W.I64;omega) (by omega) (by unfold W.I64;omega) _ rfl (by omega)
      have hM3:((L++sendB 3 ((k:Int)%256) ((s.ticks.getD k default).v+(s.ticks.getD k default).rad))++sendB 4 ((k:Int)%256) ((s.ticks.getD k default).v-s.v0+W.gradeOn t s.route (s.place k)+(s.ticks.getD k default).acc)).length≤31:=by rw [List.length_append];omega
      conv=>whnf
      repeat' ((first|refine CallS.call (CallN.updVE [3] [] (RvJL.cons (RvJ.gro rfl) (RvJL.pu rfl)) (Als.nil _) (by simp) (givBuf rfl) eS3 ?_)|refine CallS.call (CallN.updVE [3] [] (RvJL.cons (RvJ.gro rfl) (RvJL.pu rfl)) (Als.nil _) (by simp) (givBuf rfl) eS4 ?_)|refine Drw.lateP tabOk [0,1,2,3,4,5,6,7,8,9,10,11,12,13,14,15,16] [] [17,18] (by kernel_rfl) (by kernel_rfl) ?_|refine Br.pt (by assumption) ?_|refine Br.pf (by omega) ?_|refine CallD.pu (eA) rfl ?_|refine CallD.pu (eG) rfl ?_|refine Ob.mk (by unfold W.I64 at *;omega) ?_|refine Ob.mk (by simp only [Option.getD_some,Option.getD_none];omega) ?_|refine Ix.nat _ ?_|refine Pc.lit ?_);conv=>whnf)
      refine LoopAt.rule tabOk [(1,_),(3,_),(4,_),(6,_),(9,_)] (fun (i:Nat×List (List Nat))=>[(14,.int .i64 (i.1:Int)),(10,.gro 3 i.2.length)]) (fun (i:Nat×List (List Nat))=>[.blk [sgsV t.segs,gpsV t.grps],.blk (scrC s),.blk (tickC (s.ticks.getD k default)),.buf 85 1 (tc i.2)]) (fun (i:Nat×List (List Nat))=>i.1≤s.reads.length∧i.2=((L++sendB 3 ((k:Int)%256) ((s.ticks.getD k default).v+(s.ticks.getD k default).rad))++sendB 4 ((k:Int)%256) ((s.ticks.getD k default).v-s.v0+W.gradeOn t s.route (s.place k)+(s.ticks.getD k default).acc))++(List.range i.1).flatMap (sendR s k)∧i.2.length≤40+i.1) (fun (i:Nat×List (List Nat))=>s.reads.length-i.1) (0,((L++sendB 3 ((k:Int)%256) ((s.ticks.getD k default).v+(s.ticks.getD k default).rad))++sendB 4 ((k:Int)%256) ((s.ticks.getD k default).v-s.v0+W.gradeOn t s.route (s.place k)+(s.ticks.getD k default).acc))) (by trivial) ⟨Nat.zero_le _,by simp,by dsimp only;omega⟩ (by trivial) (by trivial) (fun _=>⟨rfl,rfl,rfl,by simp [hE]⟩) (fun i hk=>?_)
      obtain⟨i,M⟩:=i
      obtain⟨hi,hM,hMn⟩:=hk
      dsimp only at hi hM hMn ⊢
      by_cases hlt:i<s.reads.length
      ·have e8:(s.read i).cycle=(s.reads.getD i default).cycle:=rfl
       have hfm:(List.range (i+1)).flatMap (sendR s k)=(List.range i).flatMap (sendR s k)++sendR s k i:=by rw [List.range_succ,List.flatMap_append];simp
       by_cases hcy:(s.reads.getD i default).cycle=k
       ·have eR:sendR s k i=sendB 5 ((k:Int)%256) (s.reads.getD i default).group:=by unfold sendR;rw [if_pos (show (s.read i).cycle=(k:Int) from hcy)];rfl
        have hsl5:=sendB_len 5 ((k:Int)%256) (s.reads.getD i default).group
        have eS5:=ySend M 5 k (s.reads.getD i default).group (by unfold W.I64;omega) (by omega) (hs.grp i hlt) M.length rfl (by omega)
        conv=>whnf
        repeat' ((first|refine CallS.call (CallN.updVE [3] [] (RvJL.cons (RvJ.gro rfl) (RvJL.pu rfl)) (Als.nil _) (by simp) (givBuf rfl) eS5 ?_)|refine Br.pt (by assumption) ?_|refine Br.pt (by omega) ?_|refine Ob.mk (by omega) ?_|refine Ob.mk (by unfold W.I64 at *;omega) ?_|refine Ix.nat _ ?_);conv=>whnf)
        exact⟨(i+1,M++sendB 5 ((k:Int)%256) (s.reads.getD i default).group),⟨hlt,by dsimp only;rw [hfm,eR,hM,List.append_assoc],by dsimp only;rw [List.length_append];omega⟩,by dsimp only;omega,(by trivial),(by trivial),(by trivial)⟩
       ·have eR:sendR s k i=[]:=by unfold sendR;rw [if_neg (show ¬ (s.read i).cycle=(k:Int) from hcy)]
        conv=>whnf
        repeat' ((first|refine Br.pf (by assumption) ?_|refine Br.pt (by omega) ?_|refine Ob.mk (by omega) ?_|refine Ob.mk (by unfold W.I64 at *;omega) ?_|refine Ix.nat _ ?_);conv=>whnf)
        exact⟨(i+1,M),⟨hlt,by dsimp only;rw [hfm,eR,List.append_nil,hM],by dsimp only;omega⟩,by dsimp only;omega,(by trivial),(by trivial),(by trivial)⟩
      ·obtain rfl:i=s.reads.length:=by omega
       conv=>whnf
       repeat' ((refine Br.pf (by omega) ?_);conv=>whnf)
       rw [← hM]
       exact FinAt.gen (ars:=[textsV M]) [3] (RvL.cons (tc_fin (by simp) rfl) RvL.nil) (by repeat (first|exact Als.nil _|refine Als.cons rfl rfl ?_)) rfl
     ·have hk1:((k:Int)-1).toNat=k-1:=by omega
      have e9:s.ahead k=(s.ticks.getD ((k:Int)-1).toNat default).v:=by
       obtain⟨j,rfl⟩:∃ j,k=j+1:=⟨k-1,by omega⟩
       rw [hk1];rfl
      rw [e9]
      have hvj:=h.num.v ((k:Int)-1).toNat (by omega)
      rw [show s.tick ((k:Int)-1).toNat=s.ticks.getD ((k:Int)-1).toNat default from rfl] at hvj
      have hsl3:=sendB_len 3 ((k:Int)%256) ((s.ticks.getD k default).v+(s.ticks.getD k default).rad)
      have eS3:=ySend L 3 k ((s.ticks.getD k default).v+(s.ticks.getD k default).rad) (by unfold W.I64;omega) (by omega) (by unfold W.I64;omega) L.length rfl (by omega)
      have hM2:(L++sendB 3 ((k:Int)%256) ((s.ticks.getD k default).v+(s.ticks.getD k default).rad)).length≤30:=by rw [List.length_append];omega
      have hsl4:=sendB_len 4 ((k:Int)%256) ((s.ticks.getD k default).v-(s.ticks.getD ((k:Int)-1).toNat default).v+W.gradeOn t s.route (s.place k)+(s.ticks.getD k default).acc)
      have eS4:=ySend (L++sendB 3 ((k:Int)%256) ((s.ticks.getD k default).v+(s.ticks.getD k default).rad)) 4 k ((s.ticks.getD k default).v-(s.ticks.getD ((k:Int)-1).toNat default).v+W.gradeOn t s.route (s.place k)+(s.ticks.getD k default).acc) (by unfold W.I64;omega) (by omega) (by unfold W.I64;omega) _ rfl (by omega)
      have hM3:((L++sendB 3 ((k:Int)%256) ((s.ticks.getD k default).v+(s.ticks.getD k default).rad))++sendB 4 ((k:Int)%256) ((s.ticks.getD k default).v-(s.ticks.getD ((k:Int)-1).toNat default).v+W.gradeOn t s.route (s.place k)+(s.ticks.getD k default).acc)).length≤31:=by rw [List.length_append];omega
      conv=>whnf
      repeat' ((first|refine CallS.call (CallN.updVE [3] [] (RvJL.cons (RvJ.gro rfl) (RvJL.pu rfl)) (Als.nil _) (by simp) (givBuf rfl) eS3 ?_)|refine CallS.call (CallN.updVE [3] [] (RvJL.cons (RvJ.gro rfl) (RvJL.pu rfl)) (Als.nil _) (by simp) (givBuf rfl) eS4 ?_)|refine Drw.lateP tabOk [0,1,2,3,4,5,6,7,8,9,10,11,12,13,14,15,16] [] [17,18] (by kernel_rfl) (by kernel_rfl) ?_|refine Br.pt (by assumption) ?_|refine Br.pt (by omega) ?_|refine Br.pf (by omega) ?_|refine CallD.pu (eA) rfl ?_|refine CallD.pu (eG) rfl ?_|refine Ob.mk (by omega) ?_|refine Ob.mk (by unfold W.I64 at *;omega) ?_|refine Ob.mk (by simp only [Option.getD_some,Option.getD_none];omega) ?_|refine Ix.nat _ ?_|refine Ix.tn (by omega) ?_|refine Pc.lit ?_);conv=>whnf)
      refine LoopAt.rule tabOk [(1,_),(3,_),(4,_),(6,_),(9,_)] (fun (i:Nat×List (List Nat))=>[(14,.int .i64 (i.1:Int)),(10,.gro 3 i.2.length)]) (fun (i:Nat×List (List Nat))=>[.blk [sgsV t.segs,gpsV t.grps],.blk (scrC s),.blk (tickC (s.ticks.getD k default)),.buf 85 1 (tc i.2)]) (fun (i:Nat×List (List Nat))=>i.1≤s.reads.length∧i.2=((L++sendB 3 ((k:Int)%256) ((s.ticks.getD k default).v+(s.ticks.getD k default).rad))++sendB 4 ((k:Int)%256) ((s.ticks.getD k default).v-(s.ticks.getD ((k:Int)-1).toNat default).v+W.gradeOn t s.route (s.place k)+(s.ticks.getD k default).acc))++(List.range i.1).flatMap (sendR s k)∧i.2.length≤40+i.1) (fun (i:Nat×List (List Nat))=>s.reads.length-i.1) (0,((L++sendB 3 ((k:Int)%256) ((s.ticks.getD k default).v+(s.ticks.getD k default).rad))++sendB 4 ((k:Int)%256) ((s.ticks.getD k default).v-(s.ticks.getD ((k:Int)-1).toNat default).v+W.gradeOn t s.route (s.place k)+(s.ticks.getD k default).acc))) (by trivial) ⟨Nat.zero_le _,by simp,by dsimp only;omega⟩ (by trivial) (by trivial) (fun _=>⟨rfl,rfl,rfl,by simp [hE]⟩) (fun i hk=>?_)
      obtain⟨i,M⟩:=i
      obtain⟨hi,hM,hMn⟩:=hk
      dsimp only at hi hM hMn ⊢
      by_cases hlt:i<s.reads.length
      ·have e8:(s.read i).cycle=(s.reads.getD i default).cycle:=rfl
       have hfm:(List.range (i+1)).flatMap (sendR s k)=(List.range i).flatMap (sendR s k)++sendR s k i:=by rw [List.range_succ,List.flatMap_append];simp
       by_cases hcy:(s.reads.getD i default).cycle=k
       ·have eR:sendR s k i=sendB 5 ((k:Int)%256) (s.reads.getD i default).group:=by unfold sendR;rw [if_pos (show (s.read i).cycle=(k:Int) from hcy)];rfl
        have hsl5:=sendB_len 5 ((k:Int)%256) (s.reads.getD i default).group
        have eS5:=ySend M 5 k (s.reads.getD i default).group (by unfold W.I64;omega) (by omega) (hs.grp i hlt) M.length rfl (by omega)
        conv=>whnf
        repeat' ((first|refine CallS.call (CallN.updVE [3] [] (RvJL.cons (RvJ.gro rfl) (RvJL.pu rfl)) (Als.nil _) (by simp) (givBuf rfl) eS5 ?_)|refine Br.pt (by assumption) ?_|refine Br.pt (by omega) ?_|refine Ob.mk (by omega) ?_|refine Ob.mk (by unfold W.I64 at *;omega) ?_|refine Ix.nat _ ?_);conv=>whnf)
        exact⟨(i+1,M++sendB 5 ((k:Int)%256) (s.reads.getD i default).group),⟨hlt,by dsimp only;rw [hfm,eR,hM,List.append_assoc],by dsimp only;rw [List.length_append];omega⟩,by dsimp only;omega,(by trivial),(by trivial),(by trivial)⟩
       ·have eR:sendR s k i=[]:=by unfold sendR;rw [if_neg (show ¬ (s.read i).cycle=(k:Int) from hcy)]
        conv=>whnf
        repeat' ((first|refine Br.pf (by assumption) ?_|refine Br.pt (by omega) ?_|refine Ob.mk (by omega) ?_|refine Ob.mk (by unfold W.I64 at *;omega) ?_|refine Ix.nat _ ?_);conv=>whnf)
        exact⟨(i+1,M),⟨hlt,by dsimp only;rw [hfm,eR,List.append_nil,hM],by dsimp only;omega⟩,by dsimp only;omega,(by trivial),(by trivial),(by trivial)⟩
      ·obtain rfl:i=s.reads.length:=by omega
       conv=>whnf
       repeat' ((refine Br.pf (by omega) ?_);conv=>whnf)
       rw [← hM]
       exact FinAt.gen (ars:=[textsV M]) [3] (RvL.cons (tc_fin (by simp) rfl) RvL.nil) (by repeat (first|exact Als.nil _|refine Als.cons rfl rfl ?_)) rfl
    ·rw [if_neg l3,List.append_nil]
     have hsl3:=sendB_len 3 ((k:Int)%256) ((s.ticks.getD k default).v+(s.ticks.getD k default).rad)
     have eS3:=ySend L 3 k ((s.ticks.getD k default).v+(s.ticks.getD k default).rad) (by unfold W.I64;omega) (by omega) (by unfold W.I64;omega) L.length rfl (by omega)
     have hM2:(L++sendB 3 ((k:Int)%256) ((s.ticks.getD k default).v+(s.ticks.getD k default).rad)).length≤30:=by rw [List.length_append];omega
     conv=>whnf
     repeat' ((first|refine CallS.call (CallN.updVE [3] [] (RvJL.cons (RvJ.gro rfl) (RvJL.pu rfl)) (Als.nil _) (by simp) (givBuf rfl) eS3 ?_)|refine Br.pt (by assumption) ?_|refine Br.pf (by assumption) ?_|refine Br.pf (by omega) ?_|refine Ob.mk (by unfold W.I64 at *;omega) ?_|refine Ob.mk (by simp only [Option.getD_some,Option.getD_none];omega) ?_|refine Ix.nat _ ?_|refine Pc.lit ?_);conv=>whnf)
     refine LoopAt.rule tabOk [(1,_),(3,_),(4,_),(6,_),(9,_)] (fun (i:Nat×List (List Nat))=>[(14,.int .i64 (i.1:Int)),(10,.gro 3 i.2.length)]) (fun (i:Nat×List (List Nat))=>[.blk [sgsV t.segs,gpsV t.grps],.blk (scrC s),.blk (tickC (s.ticks.getD k default)),.buf 85 1 (tc i.2)]) (fun (i:Nat×List (List Nat))=>i.1≤s.reads.length∧i.2=(L++sendB 3 ((k:Int)%256) ((s.ticks.getD k default).v+(s.ticks.getD k default).rad))++(List.range i.1).flatMap (sendR s k)∧i.2.length≤40+i.1) (fun (i:Nat×List (List Nat))=>s.reads.length-i.1) (0,(L++sendB 3 ((k:Int)%256) ((s.ticks.getD k default).v+(s.ticks.getD k default).rad))) (by trivial) ⟨Nat.zero_le _,by simp,by dsimp only;omega⟩ (by trivial) (by trivial) (fun _=>⟨rfl,rfl,rfl,by simp [hE]⟩) (fun i hk=>?_)
     obtain⟨i,M⟩:=i
     obtain⟨hi,hM,hMn⟩:=hk
     dsimp only at hi hM hMn ⊢
     by_cases hlt:i<s.reads.length
     ·have e8:(s.read i).cycle=(s.reads.getD i default).cycle:=rfl
      have hfm:(List.range (i+1)).flatMap (sendR s k)=(List.range i).flatMap (sendR s k)++sendR s k i:=by rw [List.range_succ,List.flatMap_append];simp
      by_cases hcy:(s.reads.getD i default).cycle=k
      ·have eR:sendR s k i=sendB 5 ((k:Int)%256) (s.reads.getD i default).group:=by unfold sendR;rw [if_pos (show (s.read i).cycle=(k:Int) from hcy)];rfl
       have hsl5:=sendB_len 5 ((k:Int)%256) (s.reads.getD i default).group
       have eS5:=ySend M 5 k (s.reads.getD i default).group (by unfold W.I64;omega) (by omega) (hs.grp i hlt) M.length rfl (by omega)
       conv=>whnf
       repeat' ((first|refine CallS.call (CallN.updVE [3] [] (RvJL.cons (RvJ.gro rfl) (RvJL.pu rfl)) (Als.nil _) (by simp) (givBuf rfl) eS5 ?_)|refine Br.pt (by assumption) ?_|refine Br.pt (by omega) ?_|refine Ob.mk (by omega) ?_|refine Ob.mk (by unfold W.I64 at *;omega) ?_|refine Ix.nat _ ?_);conv=>whnf)
       exact⟨(i+1,M++sendB 5 ((k:Int)%256) (s.reads.getD i default).group),⟨hlt,by dsimp only;rw [hfm,eR,hM,List.append_assoc],by dsimp only;rw [List.length_append];omega⟩,by dsimp only;omega,(by trivial),(by trivial),(by trivial)⟩
      ·have eR:sendR s k i=[]:=by unfold sendR;rw [if_neg (show ¬ (s.read i).cycle=(k:Int) from hcy)]
       conv=>whnf
       repeat' ((first|refine Br.pf (by assumption) ?_|refine Br.pt (by omega) ?_|refine Ob.mk (by omega) ?_|refine Ob.mk (by unfold W.I64 at *;omega) ?_|refine Ix.nat _ ?_);conv=>whnf)
       exact⟨(i+1,M),⟨hlt,by dsimp only;rw [hfm,eR,List.append_nil,hM],by dsimp only;omega⟩,by dsimp only;omega,(by trivial),(by trivial),(by trivial)⟩
     ·obtain rfl:i=s.reads.length:=by omega
      conv=>whnf
      repeat' ((refine Br.pf (by omega) ?_);conv=>whnf)
      rw [← hM]
      exact FinAt.gen (ars:=[textsV M]) [3] (RvL.cons (tc_fin (by simp) rfl) RvL.nil) (by repeat (first|exact Als.nil _|refine Als.cons rfl rfl ?_)) rfl
   ·rw [if_neg l2,List.append_nil]
    by_cases l3:(s.ticks.getD k default).lost3=0
    ·rw [if_pos l3]
     by_cases hk0:k=0
     ·have e9:s.ahead k=s.v0:=by rw [hk0];rfl
      rw [e9]
      have hsl4:=sendB_len 4 ((k:Int)%256) ((s.ticks.getD k default).v-s.v0+W.gradeOn t s.route (s.place k)+(s.ticks.getD k default).acc)
      have eS4:=ySend L 4 k ((s.ticks.getD k default).v-s.v0+W.gradeOn t s.route (s.place k)+(s.ticks.getD k default).acc) (by unfold W.I64;omega) (by omega) (by unfold W.I64;omega) _ rfl (by omega)
      have hM3:(L++sendB 4 ((k:Int)%256) ((s.ticks.getD k default).v-s.v0+W.gradeOn t s.route (s.place k)+(s.ticks.getD k default).acc)).length≤31:=by rw [List.length_append];omega
      conv=>whnf
      repeat' ((first|refine CallS.call (CallN.updVE [3] [] (RvJL.cons (RvJ.gro rfl) (RvJL.pu rfl)) (Als.nil _) (by simp) (givBuf rfl) eS4 ?_)|refine Drw.lateP tabOk [0,1,2,3,4,5,6,7,8,9,10,11,12,13,14,15,16] [] [17,18] (by kernel_rfl) (by kernel_rfl) ?_|refine Br.pt (by assumption) ?_|refine Br.pf (by assumption) ?_|refine Br.pf (by omega) ?_|refine CallD.pu (eA) rfl ?_|refine CallD.pu (eG) rfl ?_|refine Ob.mk (by unfold W.I64 at *;omega) ?_|refine Ob.mk (by simp only [Option.getD_some,Option.getD_none];omega) ?_|refine Ix.nat _ ?_|refine Pc.lit ?_);conv=>whnf)
      refine LoopAt.rule tabOk [(1,_),(3,_),(4,_),(6,_),(9,_)] (fun (i:Nat×List (List Nat))=>[(14,.int .i64 (i.1:Int)),(10,.gro 3 i.2.length)]) (fun (i:Nat×List (List Nat))=>[.blk [sgsV t.segs,gpsV t.grps],.blk (scrC s),.blk (tickC (s.ticks.getD k default)),.buf 85 1 (tc i.2)]) (fun (i:Nat×List (List Nat))=>i.1≤s.reads.length∧i.2=(L++sendB 4 ((k:Int)%256) ((s.ticks.getD k default).v-s.v0+W.gradeOn t s.route (s.place k)+(s.ticks.getD k default).acc))++(List.range i.1).flatMap (sendR s k)∧i.2.length≤40+i.1) (fun (i:Nat×List (List Nat))=>s.reads.length-i.1) (0,(L++sendB 4 ((k:Int)%256) ((s.ticks.getD k default).v-s.v0+W.gradeOn t s.route (s.place k)+(s.ticks.getD k default).acc))) (by trivial) ⟨Nat.zero_le _,by simp,by dsimp only;omega⟩ (by trivial) (by trivial) (fun _=>⟨rfl,rfl,rfl,by simp [hE]⟩) (fun i hk=>?_)
      obtain⟨i,M⟩:=i
      obtain⟨hi,hM,hMn⟩:=hk
      dsimp only at hi hM hMn ⊢
      by_cases hlt:i<s.reads.length
      ·have e8:(s.read i).cycle=(s.reads.getD i default).cycle:=rfl
       have hfm:(List.range (i+1)).flatMap (sendR s k)=(List.range i).flatMap (sendR s k)++sendR s k i:=by rw [List.range_succ,List.flatMap_append];simp
       by_cases hcy:(s.reads.getD i default).cycle=k
       ·have eR:sendR s k i=sendB 5 ((k:Int)%256) (s.reads.getD i default).group:=by unfold sendR;rw [if_pos (show (s.read i).cycle=(k:Int) from hcy)];rfl
        have hsl5:=sendB_len 5 ((k:Int)%256) (s.reads.getD i default).group
        have eS5:=ySend M 5 k (s.reads.getD i default).group (by unfold W.I64;omega) (by omega) (hs.grp i hlt) M.length rfl (by omega)
        conv=>whnf
        repeat' ((first|refine CallS.call (CallN.updVE [3] [] (RvJL.cons (RvJ.gro rfl) (RvJL.pu rfl)) (Als.nil _) (by simp) (givBuf rfl) eS5 ?_)|refine Br.pt (by assumption) ?_|refine Br.pt (by omega) ?_|refine Ob.mk (by omega) ?_|refine Ob.mk (by unfold W.I64 at *;omega) ?_|refine Ix.nat _ ?_);conv=>whnf)
        exact⟨(i+1,M++sendB 5 ((k:Int)%256) (s.reads.getD i default).group),⟨hlt,by dsimp only;rw [hfm,eR,hM,List.append_assoc],by dsimp only;rw [List.length_append];omega⟩,by dsimp only;omega,(by trivial),(by trivial),(by trivial)⟩
       ·have eR:sendR s k i=[]:=by unfold sendR;rw [if_neg (show ¬ (s.read i).cycle=(k:Int) from hcy)]
        conv=>whnf
        repeat' ((first|refine Br.pf (by assumption) ?_|refine Br.pt (by omega) ?_|refine Ob.mk (by omega) ?_|refine Ob.mk (by unfold W.I64 at *;omega) ?_|refine Ix.nat _ ?_);conv=>whnf)
        exact⟨(i+1,M),⟨hlt,by dsimp only;rw [hfm,eR,List.append_nil,hM],by dsimp only;omega⟩,by dsimp only;omega,(by trivial),(by trivial),(by trivial)⟩
      ·obtain rfl:i=s.reads.length:=by omega
       conv=>whnf
       repeat' ((refine Br.pf (by omega) ?_);conv=>whnf)
       rw [← hM]
       exact FinAt.gen (ars:=[textsV M]) [3] (RvL.cons (tc_fin (by simp) rfl) RvL.nil) (by repeat (first|exact Als.nil _|refine Als.cons rfl rfl ?_)) rfl
     ·have hk1:((k:Int)-1).toNat=k-1:=by omega
      have e9:s.ahead k=(s.ticks.getD ((k:Int)-1).toNat default).v:=by
       obtain⟨j,rfl⟩:∃ j,k=j+1:=⟨k-1,by omega⟩
       rw [hk1];rfl
      rw [e9]
      have hvj:=h.num.v ((k:Int)-1).toNat (by omega)
      rw [show s.tick ((k:Int)-1).toNat=s.ticks.getD ((k:Int)-1).toNat default from rfl] at hvj
      have hsl4:=sendB_len 4 ((k:Int)%256) ((s.ticks.getD k default).v-(s.ticks.getD ((k:Int)-1).toNat default).v+W.gradeOn t s.route (s.place k)+(s.ticks.getD k default).acc)
      have eS4:=ySend L 4 k ((s.ticks.getD k default).v-(s.ticks.getD ((k:Int)-1).toNat default).v+W.gradeOn t s.route (s.place k)+(s.ticks.getD k default).acc) (by unfold W.I64;omega) (by omega) (by unfold W.I64;omega) _ rfl (by omega)
      have hM3:(L++sendB 4 ((k:Int)%256) ((s.ticks.getD k default).v-(s.ticks.getD ((k:Int)-1).toNat default).v+W.gradeOn t s.route (s.place k)+(s.ticks.getD k default).acc)).length≤31:=by rw [List.length_append];omega
      conv=>whnf
      repeat' ((first|refine CallS.call (CallN.updVE [3] [] (RvJL.cons (RvJ.gro rfl) (RvJL.pu rfl)) (Als.nil _) (by simp) (givBuf rfl) eS4 ?_)|refine Drw.lateP tabOk [0,1,2,3,4,5,6,7,8,9,10,11,12,13,14,15,16] [] [17,18] (by kernel_rfl) (by kernel_rfl) ?_|refine Br.pt (by assumption) ?_|refine Br.pf (by assumption) ?_|refine Br.pt (by omega) ?_|refine Br.pf (by omega) ?_|refine CallD.pu (eA) rfl ?_|refine CallD.pu (eG) rfl ?_|refine Ob.mk (by omega) ?_|refine Ob.mk (by unfold W.I64 at *;omega) ?_|refine Ob.mk (by simp only [Option.getD_some,Option.getD_none];omega) ?_|refine Ix.nat _ ?_|refine Ix.tn (by omega) ?_|refine Pc.lit ?_);conv=>whnf)
      refine LoopAt.rule tabOk [(1,_),(3,_),(4,_),(6,_),(9,_)] (fun (i:Nat×List (List Nat))=>[(14,.int .i64 (i.1:Int)),(10,.gro 3 i.2.length)]) (fun (i:Nat×List (List Nat))=>[.blk [sgsV t.segs,gpsV t.grps],.blk (scrC s),.blk (tickC (s.ticks.getD k default)),.buf 85 1 (tc i.2)]) (fun (i:Nat×List (List Nat))=>i.1≤s.reads.length∧i.2=(L++sendB 4 ((k:Int)%256) ((s.ticks.getD k default).v-(s.ticks.getD ((k:Int)-1).toNat default).v+W.gradeOn t s.route (s.place k)+(s.ticks.getD k default).acc))++(List.range i.1).flatMap (sendR s k)∧i.2.length≤40+i.1) (fun (i:Nat×List (List Nat))=>s.reads.length-i.1) (0,(L++sendB 4 ((k:Int)%256) ((s.ticks.getD k default).v-(s.ticks.getD ((k:Int)-1).toNat default).v+W.gradeOn t s.route (s.place k)+(s.ticks.getD k default).acc))) (by trivial) ⟨Nat.zero_le _,by simp,by dsimp only;omega⟩ (by trivial) (by trivial) (fun _=>⟨rfl,rfl,rfl,by simp [hE]⟩) (fun i hk=>?_)
      obtain⟨i,M⟩:=i
      obtain⟨hi,hM,hMn⟩:=hk
      dsimp only at hi hM hMn ⊢
      by_cases hlt:i<s.reads.length
      ·have e8:(s.read i).cycle=(s.reads.getD i default).cycle:=rfl
       have hfm:(List.range (i+1)).flatMap (sendR s k)=(List.range i).flatMap (sendR s k)++sendR s k i:=by rw [List.range_succ,List.flatMap_append];simp
       by_cases hcy:(s.reads.getD i default).cycle=k
       ·have eR:sendR s k i=sendB 5 ((k:Int)%256) (s.reads.getD i default).group:=by unfold sendR;rw [if_pos (show (s.read i).cycle=(k:Int) from hcy)];rfl
        have hsl5:=sendB_len 5 ((k:Int)%256) (s.reads.getD i default).group
        have eS5:=ySend M 5 k (s.reads.getD i default).group (by unfold W.I64;omega) (by omega) (hs.grp i hlt) M.length rfl (by omega)
        conv=>whnf
        repeat' ((first|refine CallS.call (CallN.updVE [3] [] (RvJL.cons (RvJ.gro rfl) (RvJL.pu rfl)) (Als.nil _) (by simp) (givBuf rfl) eS5 ?_)|refine Br.pt (by assumption) ?_|refine Br.pt (by omega) ?_|refine Ob.mk (by omega) ?_|refine Ob.mk (by unfold W.I64 at *;omega) ?_|refine Ix.nat _ ?_);conv=>whnf)
        exact⟨(i+1,M++sendB 5 ((k:Int)%256) (s.reads.getD i default).group),⟨hlt,by dsimp only;rw [hfm,eR,hM,List.append_assoc],by dsimp only;rw [List.length_append];omega⟩,by dsimp only;omega,(by trivial),(by trivial),(by trivial)⟩
       ·have eR:sendR s k i=[]:=by unfold sendR;rw [if_neg (show ¬ (s.read i).cycle=(k:Int) from hcy)]
        conv=>whnf
        repeat' ((first|refine Br.pf (by assumption) ?_|refine Br.pt (by omega) ?_|refine Ob.mk (by omega) ?_|refine Ob.mk (by unfold W.I64 at *;omega) ?_|refine Ix.nat _ ?_);conv=>whnf)
        exact⟨(i+1,M),⟨hlt,by dsimp only;rw [hfm,eR,List.append_nil,hM],by dsimp only;omega⟩,by dsimp only;omega,(by trivial),(by trivial),(by trivial)⟩
      ·obtain rfl:i=s.reads.length:=by omega
       conv=>whnf
       repeat' ((refine Br.pf (by omega) ?_);conv=>whnf)
       rw [← hM]
       exact FinAt.gen (ars:=[textsV M]) [3] (RvL.cons (tc_fin (by simp) rfl) RvL.nil) (by repeat (first|exact Als.nil _|refine Als.cons rfl rfl ?_)) rfl
    ·rw [if_neg l3,List.append_nil]
     conv=>whnf
     repeat' ((first|refine Br.pf (by assumption) ?_|refine Br.pf (by omega) ?_|refine Ob.mk (by simp only [Option.getD_some,Option.getD_none];omega) ?_|refine Ix.nat _ ?_|refine Pc.lit ?_);conv=>whnf)
     refine LoopAt.rule tabOk [(1,_),(3,_),(4,_),(6,_),(9,_)] (fun (i:Nat×List (List Nat))=>[(14,.int .i64 (i.1:Int)),(10,.gro 3 i.2.length)]) (fun (i:Nat×List (List Nat))=>[.blk [sgsV t.segs,gpsV t.grps],.blk (scrC s),.blk (tickC (s.ticks.getD k default)),.buf 85 1 (tc i.2)]) (fun (i:Nat×List (List Nat))=>i.1≤s.reads.length∧i.2=L++(List.range i.1).flatMap (sendR s k)∧i.2.length≤40+i.1) (fun (i:Nat×List (List Nat))=>s.reads.length-i.1) (0,L) (by trivial) ⟨Nat.zero_le _,by simp,by dsimp only;omega⟩ (by trivial) (by trivial) (fun _=>⟨rfl,rfl,rfl,by simp [hE]⟩) (fun i hk=>?_)
     obtain⟨i,M⟩:=i
     obtain⟨hi,hM,hMn⟩:=hk
     dsimp only at hi hM hMn ⊢
     by_cases hlt:i<s.reads.length
     ·have e8:(s.read i).cycle=(s.reads.getD i default).cycle:=rfl
      have hfm:(List.range (i+1)).flatMap (sendR s k)=(List.range i).flatMap (sendR s k)++sendR s k i:=by rw [List.range_succ,List.flatMap_append];simp
      by_cases hcy:(s.reads.getD i default).cycle=k
      ·have eR:sendR s k i=sendB 5 ((k:Int)%256) (s.reads.getD i default).group:=by unfold sendR;rw [if_pos (show (s.read i).cycle=(k:Int) from hcy)];rfl
       have hsl5:=sendB_len 5 ((k:Int)%256) (s.reads.getD i default).group
       have eS5:=ySend M 5 k (s.reads.getD i default).group (by unfold W.I64;omega) (by omega) (hs.grp i hlt) M.length rfl (by omega)
       conv=>whnf
       repeat' ((first|refine CallS.call (CallN.updVE [3] [] (RvJL.cons (RvJ.gro rfl) (RvJL.pu rfl)) (Als.nil _) (by simp) (givBuf rfl) eS5 ?_)|refine Br.pt (by assumption) ?_|refine Br.pt (by omega) ?_|refine Ob.mk (by omega) ?_|refine Ob.mk (by unfold W.I64 at *;omega) ?_|refine Ix.nat _ ?_);conv=>whnf)
       exact⟨(i+1,M++sendB 5 ((k:Int)%256) (s.reads.getD i default).group),⟨hlt,by dsimp only;rw [hfm,eR,hM,List.append_assoc],by dsimp only;rw [List.length_append];omega⟩,by dsimp only;omega,(by trivial),(by trivial),(by trivial)⟩
      ·have eR:sendR s k i=[]:=by unfold sendR;rw [if_neg (show ¬ (s.read i).cycle=(k:Int) from hcy)]
       conv=>whnf
       repeat' ((first|refine Br.pf (by assumption) ?_|refine Br.pt (by omega) ?_|refine Ob.mk (by omega) ?_|refine Ob.mk (by unfold W.I64 at *;omega) ?_|refine Ix.nat _ ?_);conv=>whnf)
       exact⟨(i+1,M),⟨hlt,by dsimp only;rw [hfm,eR,List.append_nil,hM],by dsimp only;omega⟩,by dsimp only;omega,(by trivial),(by trivial),(by trivial)⟩
     ·obtain rfl:i=s.reads.length:=by omega
      conv=>whnf
      repeat' ((refine Br.pf (by omega) ?_);conv=>whnf)
      rw [← hM]
      exact FinAt.gen (ars:=[textsV M]) [3] (RvL.cons (tc_fin (by simp) rfl) RvL.nil) (by repeat (first|exact Als.nil _|refine Als.cons rfl rfl ?_)) rfl
end
end Y
section
namespace W
def smallS(t:Trk)(i:Nat):Bool:=decide ((t.segs.getD i default).pieces.length≤70)&&decide ((t.segs.getD i default).next.length≤3)
def smallT(s:Script)(i:Nat):Bool:=decide ((s.ticks.getD i default).junk.length≤30)&&allB (fun j=>decide (((s.ticks.getD i default).junk.getD j []).length≤200)) (s.ticks.getD i default).junk.length
def smallB(t:Trk)(s:Script):Bool:=decide (t.segs.length≤50∧t.grps.length≤60∧s.ticks.length≤90∧s.reads.length≤90∧s.route.length≤100)&&allB (smallS t) t.segs.length&&allB (smallT s) s.ticks.length
end W
namespace Y
open Go Go.RowKit Go.Sort
variable{c:W.Conf}{t:W.Trk}{s:W.Script}
theorem topSmall(t:W.Trk)(s:W.Script):Ret Tryz.prog 14 [trkV t,scrV s] (·=.bool (W.smallB t s)):=by
 unfold W.smallB
 by_cases h0:t.segs.length≤50∧t.grps.length≤60∧s.ticks.length≤90∧s.reads.length≤90∧s.route.length≤100
 ·rw [decide_eq_true h0,Bool.true_and]
  obtain⟨h1,h2,h3,h4,h5⟩:=h0
  refine enterO tabOk (N:=92) (gs:=[]) (args:=[_,_]) Tryz.func14 rfl rfl rfl (nLe rfl) (fun E hE=>?_)
  conv=>whnf
  repeat' ((refine Br.pf (by omega) ?_);conv=>whnf)
  refine LoopAt.rule tabOk [(2,_),(3,_),(4,_),(39,_)] (fun (i:Nat)=>[(40,.int .i64 (i:Int))]) (fun (i:Nat)=>[.blk [sgsV t.segs,gpsV t.grps],.blk (scrC s)]) (fun (i:Nat)=>i≤t.segs.length∧∀ j,j<i→W.smallS t j=true) (fun (i:Nat)=>t.segs.length-i) 0 (by trivial) ⟨Nat.zero_le _,fun j hj=>absurd hj (by omega)⟩ (by trivial) (by trivial) (fun _=>⟨rfl,rfl,rfl,by simp [hE]⟩) (fun i hk=>?_)
  obtain⟨hk,hno⟩:=hk
  by_cases hlt:i<t.segs.length
  ·have er:W.smallS t i=(decide ((t.segs.getD i default).pieces.length≤70)&&decide ((t.segs.getD i default).next.length≤3)):=rfl
   have no:W.smallS t i=false→AV.bool false=.bool (W.allB (W.smallS t) t.segs.length&&W.allB (W.smallT s) s.ticks.length):=fun hf=>by
    rw [W.allB_no hlt hf];rfl
   conv=>whnf
   repeat' (first|((first|refine Br.pt (by assumption) ?_|refine Br.pf (by assumption) ?_|refine Br.pt (by omega) ?_|refine Br.ot rfl ?_|refine Ob.mk (by omega) ?_|refine Ob.mk (by unfold W.I64 at *;omega) ?_|refine Ix.nat _ ?_|refine FinAt.val rfl ?_);conv=>whnf)|((refine Br.d (fun h=>?_) (fun h=>?_))<;>conv=>whnf))
   all_goals first
    |exact no (by rw [er,decide_eq_false (p:=_≤70) (by omega)];rfl)
    |exact no (by rw [er,decide_eq_false (p:=_≤3) (by omega)];exact Bool.and_false _)
    |exact⟨i+1,⟨hlt,W.all_step hno (by rw [er,decide_eq_true (by omega),decide_eq_true (by omega)];rfl)⟩,by omega,(by trivial),(by trivial),(by trivial)⟩
  ·obtain rfl:i=t.segs.length:=by omega
   rw [W.allB_yes hno,Bool.true_and]
   conv=>whnf
   repeat' ((refine Br.pf (by omega) ?_);conv=>whnf)
   refine LoopAt.rule tabOk [(2,_),(3,_),(4,_),(64,_)] (fun (i:Nat)=>[(65,.int .i64 (i:Int))]) (fun (i:Nat)=>[.blk [sgsV t.segs,gpsV t.grps],.blk (scrC s)]) (fun (i:Nat)=>i≤s.ticks.length∧∀ j,j<i→W.smallT s j=true) (fun (i:Nat)=>s.ticks.length-i) 0 (by trivial) ⟨Nat.zero_le _,fun j hj=>absurd hj (by omega)⟩ (by trivial) (by trivial) (fun _=>⟨rfl,rfl,rfl,by simp [hE]⟩) (fun i hk=>?_)
   obtain⟨hk,hno2⟩:=hk
   by_cases hlt:i<s.ticks.length
   ·have er:W.smallT s i=(decide ((s.ticks.getD i default).junk.length≤30)&&W.allB (fun j=>decide (((s.ticks.getD i default).junk.getD j []).length≤200)) (s.ticks.getD i default).junk.length):=rfl
    have no:W.smallT s i=false→AV.bool false=.bool (W.allB (W.smallT s) s.ticks.length):=fun hf=>by
     rw [W.allB_no hlt hf]
    conv=>whnf
    repeat' (first|((first|refine Br.pt (by omega) ?_|refine Ob.mk (by omega) ?_|refine Ix.nat _ ?_|refine FinAt.val rfl ?_);conv=>whnf)|((refine Br.d (fun h=>?_) (fun h=>?_))<;>conv=>whnf))
    ·exact no (by rw [er,decide_eq_false (p:=_≤30) (by omega)];rfl)
    ·obtain⟨q,rfl⟩:∃ q,q=i:=⟨i,rfl⟩
     refine LoopAt.rule tabOk [(2,_),(3,_),(4,_),(64,_),(65,_),(81,_),(82,_)] (fun (i:Nat)=>[(83,.int .i64 (i:Int))]) (fun (i:Nat)=>[.blk [sgsV t.segs,gpsV t.grps],.blk (scrC s)]) (fun (i:Nat)=>i≤(s.ticks.getD q default).junk.length∧∀ j,j<i→decide (((s.ticks.getD q default).junk.getD j []).length≤200)=true) (fun (i:Nat)=>(s.ticks.getD q default).junk.length-i) 0 (by trivial) ⟨Nat.zero_le _,fun j hj=>absurd hj (by omega)⟩ (by trivial) (by trivial) (fun _=>⟨rfl,rfl,rfl,by simp [hE]⟩) (fun i hk=>?_)
     obtain⟨hk2,hno3⟩:=hk
     by_cases hlt2:i<(s.ticks.getD q default).junk.length
     ·conv=>whnf
      repeat' (first|((first|refine Br.pt (by omega) ?_|refine Ob.mk (by omega) ?_|refine Ob.mk (by unfold W.I64 at *;omega) ?_|refine Ix.nat _ ?_|refine FinAt.val rfl ?_);conv=>whnf)|((refine Br.d (fun h=>?_) (fun h=>?_))<;>conv=>whnf))
      ·refine no ?_
       rw [er,W.allB_no hlt2 (decide_eq_false (by omega)),Bool.and_false]
      ·exact⟨i+1,⟨hlt2,W.all_step hno3 (decide_eq_true (by omega))⟩,by omega,(by trivial),(by trivial),(by trivial)⟩
     ·obtain rfl:i=(s.ticks.getD q default).junk.length:=by omega
      conv=>whnf
      repeat' ((first|refine Br.pf (by omega) ?_|refine Ob.mk (by unfold W.I64 at *;omega) ?_);conv=>whnf)
      exact⟨q+1,⟨hlt,W.all_step hno2 (by rw [er,decide_eq_true (by omega),W.allB_yes hno3];rfl)⟩,by omega,(by trivial),(by trivial),(by trivial)⟩
   ·obtain rfl:i=s.ticks.length:=by omega
    rw [W.allB_yes hno2]
    conv=>whnf
    repeat' ((first|refine Br.pf (by omega) ?_|refine FinAt.val rfl ?_);conv=>whnf)
    rfl
 ·rw [decide_eq_false h0,Bool.false_and,Bool.false_and]
  refine enterO tabOk (N:=92) (gs:=[]) (args:=[_,_]) Tryz.func14 rfl rfl rfl (nLe rfl) (fun E hE=>?_)
  conv=>whnf
  repeat' (first|((first|refine Br.pt (by assumption) ?_|refine Br.pf (by assumption) ?_|refine Br.pt (by omega) ?_|refine Br.ot rfl ?_|refine FinAt.val rfl ?_);conv=>whnf)|((refine Br.d (fun h=>?_) (fun h=>?_))<;>conv=>whnf))
  all_goals first|rfl|omega
end Y
end
namespace Y
open Go Go.RowKit Go.Sort
section
variable{c:W.Conf}{t:W.Trk}{s:W.Script}
theorem apRp:Ap Tryz.prog 34 44 32:=⟨.agg ⟨[.int .i64 0,.int .i64 0,.int .i64 0,.int .i64 0,.int .i64 0,.int .i64 0,.int .i64 0,.int .i64 0,.int .i64 0,.int .i64 0,.slice none 0 0,.int .i64 0,.bool false,.bool false,.int .i64 0,.int .i64 0,.bool false,.bool false,.bool false,.bool false,.bool false,.int .i64 0,.int .i64 0,.int .i64 0,.int .i64 0,.int .i64 0,.int .i64 0,.int .i64 0,.int .i64 0,.int .i64 0,.int .i64 0,.int .i64 0]⟩,232,by kernel_rfl,by kernel_rfl,rfl,by decide,by decide⟩
def rp0:W.Report:=W.Report.empty 0
abbrev rpsV(rs:List W.Report):AV:=.lst 32 rs.length fun i=>rpC (rs.getD i rp0)
def rc(rs:List W.Report):List (List AV):=rs.map rpC
theorem rc_len(rs:List W.Report):(rc rs).length=rs.length:=by simp [rc]
theorem rp_fin{L:List W.Report}{own:Ow}{I:List Nat}{j:Nat}(hi:j∈I)(hb:nth own j=some (.buf 44 32 (rc L))):Rv own I (.gro j L.length) (rpsV L) :=
 Rv.gro hi hb (rc_len L) (fun i hi=>PLe.of (by simp [rc,List.getD,hi]))
theorem bytes_lt{kind seq v:Int}(hk:Fr.sz kind≠0)(h:Fr.ok kind seq v):∀ x∈Fr.bytes kind seq v,x<256:=by
 have hs:=h.1
 have hkk:=kinds (n:=Fr.sz kind) rfl hk
 have hz:Fr.sz kind<256:=by rcases Fr.sz_cases kind with q|q|q<;>omega
 have hc:=(Crc.sum (Fr.enc kind seq v)).isLt
 intro x hx
 unfold Fr.bytes at hx
 rcases List.mem_append.1 hx with hx|hx
 ·unfold Fr.enc at hx
  rcases List.mem_append.1 hx with hx|hx
  ·simp only [List.mem_cons,List.not_mem_nil,or_false] at hx
   omega
  ·exact Fr.be_lt _ _ x hx
 ·simp only [List.mem_cons,List.not_mem_nil,or_false] at hx
  omega
def TextOk(l:List Nat):Prop:=(∀ x∈l,x<256)∧l.length≤1000000
theorem sendB_ok{kind seq v:Int}:∀ l∈sendB kind seq v,TextOk l:=fun l h=>by
 unfold sendB at h
 split at h
 ·next h1 =>
  rw [List.mem_singleton] at h
  subst h
  refine⟨bytes_lt h1.1 (okB_ok h1.2),?_⟩
  rw [Fr.bytes_len]
  rcases Fr.sz_cases kind with q|q|q<;>omega
 ·cases h
theorem sentL_ok(hs:ScrO s){p:Int}{k:Nat}(hk:k<s.ticks.length):∀ l∈sentL t p s k,TextOk l:=fun l h=>by
 unfold sentL at h
 have opt:∀ (b:Prop) [Decidable b] (kind seq v:Int),l∈(if b then sendB kind seq v else [])→TextOk l:=fun b _ kind seq v hm=>by
  split at hm
  ·exact sendB_ok l hm
  ·cases hm
 rcases List.mem_append.1 h with h|h
 ·have hm:s.ticks.getD k default∈s.ticks:=getD_memB _ hk
  have h':l∈(s.ticks.getD k default).junk:=h
  obtain⟨j,hj,e⟩:=List.getElem_of_mem h'
  refine⟨hs.b _ hm l h',?_⟩
  have:=hs.junk k hk j hj
  rw [show (s.ticks.getD k default).junk.getD j []=l by rw [List.getD_eq_getElem?_getD,List.getElem?_eq_getElem hj];exact e] at this
  exact this
 rcases List.mem_append.1 h with h|h
 ·exact opt _ _ _ _ h
 rcases List.mem_append.1 h with h|h
 ·exact opt _ _ _ _ h
 rcases List.mem_append.1 h with h|h
 ·exact opt _ _ _ _ h
 rcases List.mem_append.1 h with h|h
 ·exact opt _ _ _ _ h
 obtain⟨i,_,hi⟩:=List.mem_flatMap.1 h
 unfold sendR at hi
 exact opt _ _ _ _ hi
theorem sentL_len{k:Nat}(hj:(s.ticks.getD k default).junk.length≤27)(hr:s.reads.length≤1000){p:Int}:(sentL t p s k).length≤2000:=by
 have hf:∀ n:Nat,((List.range n).flatMap (sendR s k)).length≤n:=fun n=>by
  induction n with
  |zero=>simp
  |succ n ih =>
   rw [List.range_succ,List.flatMap_append,List.length_append]
   have:([n].flatMap (sendR s k)).length≤1:=by
    simp only [List.flatMap_cons,List.flatMap_nil,List.append_nil]
    unfold sendR
    split
    ·exact sendB_len _ _ _
    ·simp
   omega
 have opt:∀ (b:Prop) [Decidable b] (kind seq v:Int),(if b then sendB kind seq v else []).length≤1:=fun b _ kind seq v=>by
  split
  ·exact sendB_len _ _ _
  ·simp
 have h1:=hf s.reads.length
 unfold sentL
 simp only [List.length_append]
 have e0:(s.tick k).junk.length=(s.ticks.getD k default).junk.length:=rfl
 have a1:=opt ((s.tick k).lost 0=0) 1 ((k%256:Nat):Int) (s.count p 0 (k+1)%65536)
 have a2:=opt ((s.tick k).lost 1=0) 2 ((k%256:Nat):Int) (s.count p 1 (k+1)%65536)
 have a3:=opt ((s.tick k).lost 2=0) 3 ((k%256:Nat):Int) ((s.tick k).v+(s.tick k).rad)
 have a4:=opt ((s.tick k).lost 3=0) 4 ((k%256:Nat):Int) ((s.tick k).v-s.ahead k+W.gradeOn t s.route (s.place k)+(s.tick k).acc)
 omega
def mailK(c:W.Conf)(t:W.Trk)(s:W.Script)(k:Nat):Ml.M:=Ml.sort (k:Int) (sentL t c.pulses s k)
def cmdK(s:W.Script)(k:Nat):Bool:=decide ((s.ticks.getD k default).command=1)
theorem yRun(h:AdN c t s)(hs:ScrO s)(hf:(W.fits c t).1=0)(hc:ConfI c)(hj:∀ k,k<s.ticks.length→(s.ticks.getD k default).junk.length≤27)(hr:s.reads.length≤1000)(hn:s.ticks.length≤1000) :
  Ret Tryz.prog 16 [confV c,trkV t,scrV s] (fun v=>∃ rs n l,v=rpsV rs∧EOk t l∧RunTo (mailK c t s) (cmdK s) (startN c t l) s.ticks.length n rs):=by
 have eP:=packC t h.chk.img
 have eN:=navNew c t hf h.chk.check h.conf h.chk.img hc h.chk.trkI
 have ht:=h.chk.ok
 refine enterO tabOk (N:=42) (gs:=[]) (args:=[_,_,_]) Tryz.func16 rfl rfl rfl (nLe rfl) (fun E hE=>?_)
 conv=>whnf
 repeat' ((first|refine Drw.lateP tabOk [0,1,2] [] [3,4] (by kernel_rfl) (by kernel_rfl) ?_|refine CallD.pu (eP) rfl ?_);conv=>whnf)
 refine CallS.call (CallN.newW eN rfl (fun cs hcs=>?_))
 obtain⟨l,hl,hcs⟩:=hcs
 subst hcs
 have hN0:=startN_ok h.conf ht hl
 conv=>whnf
 repeat' ((first|refine QAt.ptrNil rfl rfl rfl (by kernel_rfl) ?_|refine Br.of rfl ?_);conv=>whnf)
 refine LoopAt.emp 8 44 32 rfl ?_
 refine LoopAt.rule tabOk [(3,_),(4,_),(5,_),(7,_),(18,_)] (fun (i:Nat×W.Nav×List W.Report)=>[(19,.int .i64 (i.1:Int)),(8,.gro 4 i.2.2.length)]) (fun (i:Nat×W.Nav×List W.Report)=>[.blk (confC c),.blk [sgsV t.segs,gpsV t.grps],.blk (scrC s),.blk (navC i.2.1),.buf 44 32 (rc i.2.2)]) (fun (i:Nat×W.Nav×List W.Report)=>i.1≤s.ticks.length∧RunTo (mailK c t s) (cmdK s) (startN c t l) i.1 i.2.1 i.2.2) (fun (i:Nat×W.Nav×List W.Report)=>s.ticks.length-i.1) (0,startN c t l,[]) (by trivial) ⟨Nat.zero_le _,.zero⟩ (by trivial) (by trivial) (fun _=>⟨rfl,rfl,rfl,by simp [hE]⟩) (fun i hk=>?_)
 obtain⟨i,n,rs⟩:=i
 obtain⟨hi,hR⟩:=hk
 dsimp only at hi hR ⊢
 have hrl:=hR.len
 by_cases hlt:i<s.ticks.length
 ·obtain⟨hN,hcy,hcc,htt⟩:=hR.ok hN0 rfl (by omega)
  have eS:=ySent h hs i hlt (hj i hlt)
  have hlen:=sentL_len (t:=t) (p:=c.pulses) (hj i hlt) hr
  have eT:=fun cmd=>navStep n (sentL t c.pulses s i) cmd hN (by omega) (sentL_ok hs hlt) (by omega)
  rw [hcy] at eT
  conv=>whnf
  repeat' ((first|refine Drw.lateP tabOk [1,2,3,4,5,6,7,8,9,10,11,12,13,14] [0] [15,16,17,18] (by kernel_rfl) (by kernel_rfl) ?_|refine Br.pt (by omega) ?_|refine CallD.pu (eS) rfl ?_|refine Ob.mk (by omega) ?_|refine Ix.nat _ ?_);conv=>whnf)
  refine CallS.call (CallN.upd [3] [] (RvJL.cons (RvJ.ownP rfl) (RvJL.pu rfl)) (Als.nil _) (by simp) (Giv.one rfl (by simp) (RcJ.pu rfl)) (eT _) (fun v gs' hp _=>?_))
  obtain⟨n',r,hv,hg,hS⟩:=hp
  subst hv hg
  conv=>whnf
  repeat' ((first|refine OpAt.appG (es:=[rpC r]) apRp rfl [] rfl rfl rfl (rc_len rs) (by simp) (Als.nil _) (by simp) (Xs.one rfl rfl rfl (RvL.pu rfl) rfl) (by decide) (by omega) ?_|refine Ob.mk (by unfold W.I64 at *;omega) ?_|refine BsN.mark ?_);conv=>whnf)
  have hrc:rc rs++[rpC r]=rc (rs++[r]):=by simp [rc]
  have hl1:rs.length+1=(rs++[r]).length:=by simp
  rw [hrc,hl1]
  exact⟨(i+1,n',rs++[r]),⟨hlt,.step hR hS⟩,by dsimp only;omega,(by trivial),(by trivial),(by trivial)⟩
 ·obtain rfl:i=s.ticks.length:=by omega
  conv=>whnf
  repeat' ((refine Br.pf (by omega) ?_);conv=>whnf)
  exact FinAt.gen (ars:=[rpsV rs]) [4] (RvL.cons (rp_fin (by simp) rfl) RvL.nil) (by repeat (first|exact Als.nil _|refine Als.cons rfl rfl ?_)) ⟨rs,n,l,rfl,hl,hR⟩
end
section
variable{c:W.Conf}{t:W.Trk}{s:W.Script}
theorem ConfB.i(h:ConfB c):ConfI c:=by
 have h1:=h.pulses
 have h2:=h.circLo
 have h3:=h.circHi
 have h4:=h.radBase
 have h5:=h.radPart
 have h6:=h.accErr
 have h7:=h.maxSpeed
 have h8:=h.maxAccel
 have h9:=h.antenna
 have h10:=h.still
 have h11:=h.timeout
 have h12:=h.stillSpeed
 have h13:=h.roll
 have h14:=h.brake
 have hx:0≤W.up c.circHi c.pulses∨True:=.inr trivial
 have hm:3*c.radBase≤max (W.up c.circHi c.pulses) (3*c.radBase):=Int.le_max_right _ _
 constructor<;>unfold W.I64<;>omega
theorem fits_ok(h:(W.fitsR c t).1=0):(W.fits c t).1=0:=by
 obtain⟨h1,h2⟩:=fitsR_zero h
 have hk:=(RChk.of h2).check
 have hw:=wrongR_ok h1
 unfold W.fitsR at h
 rw [if_neg (fun q=>q h1),if_neg (fun q=>q h2)] at h
 unfold W.fits
 rw [if_neg (fun q=>q hw),if_neg (fun q=>q hk)]
 have hno:¬ 0≤W.firstI (fun i=>!W.fitAtR c t i) t.grps.length:=fun q=>by rw [if_pos q] at h;cases h
 have hall:=firstI_neg hno
 have:W.firstBad t.grps.length (fun i=>decide (c.reach (t.grps.getD i default)≤(t.grps.getD i default).offset∧c.reach (t.grps.getD i default)≤t.len (t.grps.getD i default).seg-(t.grps.getD i default).offset))=none:=by
  unfold W.firstBad
  rw [List.find?_eq_none]
  intro j hj
  have:=hall j (List.mem_range.1 hj)
  unfold W.fitAtR at this
  simpa [W.Trk.gp] using this
 rw [this]
structure Adm(c:W.Conf)(t:W.Trk)(s:W.Script):Prop where
 n:AdN c t s
 fit:(W.fits c t).1=0
 fitR:(W.fitsR c t).1=0
 sens:∀ k,k<s.ticks.length→W.sensorsMay c s k=true
 reads:∀ k,k<s.reads.length→W.readAt c t s k=true
 junk:∀ k,k<s.ticks.length→W.junkAt s k=true
theorem Adm.of(h:W.admits c t s=0):Adm c t s:=by
 unfold W.admits at h
 split at h
 ·cases h
 next h1 =>
 split at h
 ·cases h
 next h2 =>
 split at h
 ·cases h
 next h3 =>
 split at h
 ·cases h
 next h4 =>
 split at h
 ·next h5=>exact absurd h h5
 next h5 =>
 split at h
 ·cases h
 next h6 =>
 split at h
 ·cases h
 next h7 =>
 split at h
 ·cases h
 next h8 =>
 simp only [Bool.not_eq_true',Bool.not_eq_false,Decidable.not_not,ne_eq] at h1 h2 h3 h4 h5 h6 h7 h8
 obtain⟨c1,c2⟩:=fitsR_zero h1
 refine⟨⟨RChk.of c2,(ConfOk.of (wrongR_ok c1)).b,h2,h3,h4,h5⟩,fits_ok h1,h1,fun k hk=>W.allB_at h6 k hk,fun k hk=>?_,fun k hk=>?_⟩
 ·unfold W.readsMay at h7;exact W.allB_at h7 k hk
 ·unfold W.junkMay at h8;exact W.allB_at h8 k hk
theorem junk_len{k:Nat}(h:W.junkAt s k=true):(s.ticks.getD k default).junk.length≤27:=by
 unfold W.junkAt at h
 simp only [Bool.and_eq_true,decide_eq_true_eq] at h
 exact h.1
theorem small_facts(h:W.smallB t s=true):t.segs.length≤50∧t.grps.length≤60∧s.ticks.length≤90∧s.reads.length≤90∧s.route.length≤100:=by
 unfold W.smallB at h
 simp only [Bool.and_eq_true,decide_eq_true_eq] at h
 exact h.1.1
def RideIs(c:W.Conf)(t:W.Trk)(s:W.Script)(v:AV):Prop :=
 (v=.tup [.emp,.bool false])∨(W.smallB t s=true∧Adm c t s∧∃ rs n l,v=.tup [rpsV rs,.bool true]∧EOk t l∧RunTo (mailK c t s) (cmdK s) (startN c t l) s.ticks.length n rs)
theorem yRide(h0:t.segs.length≤1000000)(h1:t.grps.length≤1000000)(hs:ScrO s):Ret Tryz.prog 7 [confV c,trkV t,scrV s] (RideIs c t s):=by
 have eS:=topSmall t s
 have eA:=yAdmit c t s h0 h1 hs
 by_cases a1:W.smallB t s=true
 ·rw [a1] at eS
  have hsm:=small_facts a1
  by_cases a2:W.admits c t s=0
  ·rw [a2] at eA
   have hA:=Adm.of a2
   have eR:=yRun hA.n hs hA.fit hA.n.conf.i (fun k hk=>junk_len (hA.junk k hk)) (by omega) (by omega)
   refine enterO tabOk (N:=23) (gs:=[]) (args:=[_,_,_]) Tryz.func7 rfl rfl rfl (nLe rfl) (fun E hE=>?_)
   conv=>whnf
   repeat' ((first|refine Br.nf (by omega) ?_|refine Br.of rfl ?_|refine CallS.q (eS) rfl ?_|refine CallS.q (eA) rfl ?_);conv=>whnf)
   refine CallS.call (CallN.puP eR rfl (fun v hv=>?_))
   obtain⟨rs,n,l,hv,hl,hR⟩:=hv
   subst hv
   conv=>whnf
   repeat' ((refine FinAt.val rfl ?_);conv=>whnf)
   exact .inr ⟨a1,hA,rs,n,l,rfl,hl,hR⟩
  ·refine enterO tabOk (N:=23) (gs:=[]) (args:=[_,_,_]) Tryz.func7 rfl rfl rfl (nLe rfl) (fun E hE=>?_)
   conv=>whnf
   repeat' ((first|refine Br.nt (by assumption) ?_|refine Br.of rfl ?_|refine CallS.q (eS) rfl ?_|refine CallS.q (eA) rfl ?_|refine FinAt.val rfl ?_);conv=>whnf)
   all_goals exact .inl rfl
 ·rw [show W.smallB t s=false by simpa using a1] at eS
  refine enterO tabOk (N:=23) (gs:=[]) (args:=[_,_,_]) Tryz.func7 rfl rfl rfl (nLe rfl) (fun E hE=>?_)
  conv=>whnf
  repeat' ((first|refine Br.ot rfl ?_|refine CallS.q (eS) rfl ?_|refine FinAt.val rfl ?_);conv=>whnf)
  all_goals exact .inl rfl
end
section
variable{c:W.Conf}{t:W.Trk}
abbrev Cy:=List (List Nat)×Bool
abbrev cyC(x:Cy):List AV:=[textsV x.1,.bool x.2]
abbrev cysV(l:List Cy):AV:=.lst 2 l.length fun i=>cyC (l.getD i ([],false))
def mailF(q:List Cy)(k:Nat):Ml.M:=Ml.sort (k:Int) (q.getD k ([],false)).1
def cmdF(q:List Cy)(k:Nat):Bool:=(q.getD k ([],false)).2
theorem yFeed(q:List Cy)(hq:q.length≤1000)(hR:RChk t)(hC:ConfB c)(hf:(W.fitsR c t).1=0)(hT:∀ x∈q,x.1.length≤1000∧∀ l∈x.1,TextOk l) :
  Ret Tryz.prog 17 [confV c,trkV t,cysV q] (fun v=>∃ rs n l,v=rpsV rs∧EOk t l∧RunTo (mailF q) (cmdF q) (startN c t l) q.length n rs):=by
 have eF:=yFits c t (by have:=hR.n;omega) (by have:=hR.g;omega)
 rw [hf] at eF
 have eP:=packC t hR.img
 have eN:=navNew c t (fits_ok hf) hR.check hC hR.img hC.i hR.trkI
 have ht:=hR.ok
 refine enterO tabOk (N:=48) (gs:=[]) (args:=[_,_,_]) Tryz.func17 rfl rfl rfl (nLe rfl) (fun E hE=>?_)
 conv=>whnf
 repeat' ((first|refine Drw.lateP tabOk [0,1,2] [] [3,4] (by kernel_rfl) (by kernel_rfl) ?_|refine Br.nf (by omega) ?_|refine CallS.q (eF) rfl ?_|refine CallD.pu (eP) rfl ?_);conv=>whnf)
 refine CallS.call (CallN.newW eN rfl (fun cs hcs=>?_))
 obtain⟨l,hl,hcs⟩:=hcs
 subst hcs
 have hN0:=startN_ok hC ht hl
 conv=>whnf
 repeat' ((first|refine QAt.ptrNil rfl rfl rfl (by kernel_rfl) ?_|refine Br.of rfl ?_);conv=>whnf)
 refine LoopAt.emp 10 44 32 rfl ?_
 refine LoopAt.rule tabOk [(2,_),(3,_),(4,_),(9,_),(27,_)] (fun (i:Nat×W.Nav×List W.Report)=>[(28,.int .i64 (i.1:Int)),(10,.gro 3 i.2.2.length)]) (fun (i:Nat×W.Nav×List W.Report)=>[.blk (confC c),.blk [sgsV t.segs,gpsV t.grps],.blk (navC i.2.1),.buf 44 32 (rc i.2.2)]) (fun (i:Nat×W.Nav×List W.Report)=>i.1≤q.length∧RunTo (mailF q) (cmdF q) (startN c t l) i.1 i.2.1 i.2.2) (fun (i:Nat×W.Nav×List W.Report)=>q.length-i.1) (0,startN c t l,[]) (by trivial) ⟨Nat.zero_le _,.zero⟩ (by trivial) (by trivial) (fun _=>⟨rfl,rfl,rfl,by simp [hE]⟩) (fun i hk=>?_)
 obtain⟨i,n,rs⟩:=i
 obtain⟨hi,hR⟩:=hk
 dsimp only at hi hR ⊢
 have hrl:=hR.len
 by_cases hlt:i<q.length
 ·obtain⟨hN,hcy,hcc,htt⟩:=hR.ok hN0 rfl (by omega)
  have hTi:=hT (q.getD i ([],false)) (getD_memB _ hlt)
  have eT:=fun cmd=>navStep n (q.getD i ([],false)).1 cmd hN (by omega) hTi.2 (by omega)
  rw [hcy] at eT
  conv=>whnf
  repeat' ((first|refine Drw.lateP tabOk [1,2,3,4,5,6,7,8,9,10,11] [0] [12,13,14,15] (by kernel_rfl) (by kernel_rfl) ?_|refine Br.pt (by omega) ?_|refine Ob.mk (by omega) ?_|refine Ix.nat _ ?_);conv=>whnf)
  refine CallS.call (CallN.upd [2] [] (RvJL.cons (RvJ.ownP rfl) (RvJL.pu rfl)) (Als.nil _) (by simp) (Giv.one rfl (by simp) (RcJ.pu rfl)) (eT _) (fun v gs' hp _=>?_))
  obtain⟨n',r,hv,hg,hS⟩:=hp
  subst hv hg
  conv=>whnf
  repeat' ((first|refine OpAt.appG (es:=[rpC r]) apRp rfl [] rfl rfl rfl (rc_len rs) (by simp) (Als.nil _) (by simp) (Xs.one rfl rfl rfl (RvL.pu rfl) rfl) (by decide) (by omega) ?_|refine Ob.mk (by unfold W.I64 at *;omega) ?_|refine BsN.mark ?_);conv=>whnf)
  have hrc:rc rs++[rpC r]=rc (rs++[r]):=by simp [rc]
  have hl1:rs.length+1=(rs++[r]).length:=by simp
  rw [hrc,hl1]
  exact⟨(i+1,n',rs++[r]),⟨hlt,.step hR hS⟩,by dsimp only;omega,(by trivial),(by trivial),(by trivial)⟩
 ·obtain rfl:i=q.length:=by omega
  conv=>whnf
  repeat' ((refine Br.pf (by omega) ?_);conv=>whnf)
  exact FinAt.gen (ars:=[rpsV rs]) [3] (RvL.cons (rp_fin (by simp) rfl) RvL.nil) (by repeat (first|exact Als.nil _|refine Als.cons rfl rfl ?_)) ⟨rs,n,l,rfl,hl,hR⟩
end
theorem r7PutK(kind seq v:Int)(hk:W.I64 kind)(hs:W.I64 seq)(hv:W.I64 v)(h0:Fr.sz kind≠0)(h1:okB kind seq v=true):Ret Tryz.prog 34 [.agg [I kind,I seq,I v]] (·=.tup [bytesV (Fr.bytes kind seq v),I 0]):=by
 rcases Fr.sz_cases kind with q|q|q
 ·omega
 ·exact r7PutB kind _ v hk hs hv q.1 h1
 ·by_cases hp:0≤v
  ·exact r7PutP kind _ v hk hs hv q.1 h1 hp
  ·exact r7PutM kind _ v hk hs hv q.1 h1 (by omega)
def snA:List AV:=[.int .u16 0,.int .u16 0,.int .i32 0,.int .i32 0,.int .u16 7,.bool true,.bool true,.bool true,.bool true,.bool true,.bool false]
def snB:List AV:=[.int .u16 0,.int .u16 0,.int .i32 0,.int .i32 0,.int .u16 0,.bool true,.bool true,.bool true,.bool true,.bool false,.bool false]
def aliveQ:List Cy:=[([Fr.bytes 1 0 0,Fr.bytes 2 0 0,Fr.bytes 3 0 0,Fr.bytes 4 0 0,Fr.bytes 5 0 7],false),([Fr.bytes 1 1 0,Fr.bytes 2 1 0,Fr.bytes 3 1 0,Fr.bytes 4 1 0],false)]
theorem apCy:Ap Tryz.prog 71 100 2:=⟨.agg ⟨[.slice none 0 0,.bool false]⟩,32,by kernel_rfl,by kernel_rfl,rfl,by decide,by decide⟩
theorem sentAlive:Ret Tryz.prog 18 [.lst 11 2 fun i=>[snA,snB].getD i []] (·=cysV aliveQ):=by
 have a1:=r7PutK 1 0 0 (by unfold W.I64;omega) (by unfold W.I64;omega) (by unfold W.I64;omega) (by decide) (by decide)
 have a2:=r7PutK 2 0 0 (by unfold W.I64;omega) (by unfold W.I64;omega) (by unfold W.I64;omega) (by decide) (by decide)
 have a3:=r7PutK 3 0 0 (by unfold W.I64;omega) (by unfold W.I64;omega) (by unfold W.I64;omega) (by decide) (by decide)
 have a4:=r7PutK 4 0 0 (by unfold W.I64;omega) (by unfold W.I64;omega) (by unfold W.I64;omega) (by decide) (by decide)
 have a5:=r7PutK 5 0 7 (by unfold W.I64;omega) (by unfold W.I64;omega) (by unfold W.I64;omega) (by decide) (by decide)
 have b1:=r7PutK 1 1 0 (by unfold W.I64;omega) (by unfold W.I64;omega) (by unfold W.I64;omega) (by decide) (by decide)
 have b2:=r7PutK 2 1 0 (by unfold W.I64;omega) (by unfold W.I64;omega) (by unfold W.I64;omega) (by decide) (by decide)
 have b3:=r7PutK 3 1 0 (by unfold W.I64;omega) (by unfold W.I64;omega) (by unfold W.I64;omega) (by decide) (by decide)
 have b4:=r7PutK 4 1 0 (by unfold W.I64;omega) (by unfold W.I64;omega) (by unfold W.I64;omega) (by decide) (by decide)
 have b5:=r7PutK 5 1 0 (by unfold W.I64;omega) (by unfold W.I64;omega) (by unfold W.I64;omega) (by decide) (by decide)
 refine enterO tabOk (N:=74) (gs:=[]) (args:=[_]) Tryz.func18 rfl rfl rfl (nLe rfl) (fun E hE=>?_)
 conv=>whnf
 repeat' ((first|refine LoopAt.few tabOk 6 ?_|refine OpAt.appE apTxt rfl [] rfl rfl (Als.nil _) (by simp) (Xs.one rfl rfl rfl (RvL.pu rfl) rfl) (by decide) (by decide) ?_|refine OpAt.appG apTxt rfl [] rfl rfl rfl rfl (by simp) (Als.nil _) (by simp) (Xs.one rfl rfl rfl (RvL.pu rfl) rfl) (by decide) (by decide) ?_|refine Br.pt (by omega) ?_|refine Br.pf (by omega) ?_|refine Br.ot rfl ?_|refine CallS.q (a1) rfl ?_|refine CallS.q (a2) rfl ?_|refine CallS.q (a3) rfl ?_|refine CallS.q (a4) rfl ?_|refine CallS.q (a5) rfl ?_|refine Ob.mk (by omega) ?_|refine Ob.mk (by unfold W.I64 at *;omega) ?_|refine Ob.mk (by simp only [Option.getD_some,Option.getD_none];omega) ?_|refine Ix.of 0 rfl ?_|refine Ix.of 1 rfl ?_|refine Ix.nat _ ?_|refine Pc.lit ?_|refine BsN.mark ?_);conv=>whnf)
 refine OpAt.appE (es:=[cyC (aliveQ.getD 0 ([],false))]) apCy rfl [3] rfl rfl (by repeat (first|exact Als.nil _|refine Als.cons rfl rfl ?_)) (by simp [hE]) (Xs.one rfl rfl rfl (RvL.cons (tc_fin (L:=(aliveQ.getD 0 ([],false)).1) (by simp) rfl) (RvL.pu rfl)) rfl) (by decide) (by decide) ?_
 conv=>whnf
 repeat' ((first|refine LoopAt.few tabOk 6 ?_|refine OpAt.appE apTxt rfl [] rfl rfl (Als.nil _) (by simp) (Xs.one rfl rfl rfl (RvL.pu rfl) rfl) (by decide) (by decide) ?_|refine OpAt.appG apTxt rfl [] rfl rfl rfl rfl (by simp) (Als.nil _) (by simp) (Xs.one rfl rfl rfl (RvL.pu rfl) rfl) (by decide) (by decide) ?_|refine Br.pt (by omega) ?_|refine Br.pf (by omega) ?_|refine Br.ot rfl ?_|refine Br.of rfl ?_|refine CallS.q (b1) rfl ?_|refine CallS.q (b2) rfl ?_|refine CallS.q (b3) rfl ?_|refine CallS.q (b4) rfl ?_|refine CallS.q (b5) rfl ?_|refine Ob.mk (by omega) ?_|refine Ob.mk (by unfold W.I64 at *;omega) ?_|refine Ob.mk (by simp only [Option.getD_some,Option.getD_none];omega) ?_|refine Ix.of 0 rfl ?_|refine Ix.of 1 rfl ?_|refine Ix.nat _ ?_|refine Pc.lit ?_|refine BsN.mark ?_);conv=>whnf)
 refine OpAt.appG (es:=[cyC (aliveQ.getD 1 ([],false))]) apCy rfl [13] rfl rfl rfl rfl (by simp) (by repeat (first|exact Als.nil _|refine Als.cons rfl rfl ?_)) (by simp [hE]) (Xs.one rfl rfl rfl (RvL.cons (tc_fin (L:=(aliveQ.getD 1 ([],false)).1) (by simp) rfl) (RvL.pu rfl)) rfl) (by decide) (by decide) ?_
 conv=>whnf
 repeat' ((first|refine Br.pf (by omega) ?_|refine Ob.mk (by unfold W.I64 at *;omega) ?_);conv=>whnf)
 refine FinAt.gen (ars:=[cysV aliveQ]) [9] (RvL.cons (Rv.gro (by simp) rfl rfl (fun j hj=>?_)) RvL.nil) (by repeat (first|exact Als.nil _|refine Als.cons rfl rfl ?_)) rfl
 have hj2:j<2:=hj
 obtain rfl|rfl:j=0∨j=1:=by omega
 all_goals exact PLe.of rfl
def aliveC:W.Conf:={ pulses:=1024,circLo:=131072,circHi:=131072,radBase:=0,radPart:=0,accErr:=0,maxSpeed:=1000,maxAccel:=100,antenna:=9,still:=2,stillSpeed:=128,roll:=0,timeout:=5,brake:=2 }
def aliveT:W.Trk:=⟨[⟨9000,[⟨0,0⟩],[]⟩],[⟨7,0,4000,0,0⟩]⟩
def AliveIs:Prop:=∀ rs n l,EOk aliveT l→RunTo (mailF aliveQ) (cmdF aliveQ) (startN aliveC aliveT l) 2 n rs→∃ r0 r1,rs=[r0,r1]∧r0.accepted=true∧r1.group=7∧r1.mode=2∧r1.still=true∧W.Sp.has ⟨r1.pos.lo,r1.pos.hi⟩ 0=true∧W.Sp.width ⟨r1.pos.lo,r1.pos.hi⟩<1000∧W.I64 r1.pos.lo∧W.I64 r1.pos.hi
theorem bytes_ok{k q v:Int}(h0:Fr.sz k≠0)(h1:okB k q v=true):TextOk (Fr.bytes k q v):=sendB_ok (kind:=k) (seq:=q) (v:=v) _ (by unfold sendB;rw [if_pos ⟨h0,h1⟩];exact List.mem_singleton.2 rfl)
theorem aliveQ_ok:∀ x∈aliveQ,x.1.length≤1000∧∀ l∈x.1,TextOk l:=by
 intro x hx
 simp only [aliveQ,List.mem_cons,List.not_mem_nil,or_false] at hx
 rcases hx with rfl|rfl
 ·refine⟨nLe rfl,fun l hl=>?_⟩
  simp only [List.mem_cons,List.not_mem_nil,or_false] at hl
  rcases hl with rfl|rfl|rfl|rfl|rfl<;>exact bytes_ok (by decide) (by decide)
 ·refine⟨nLe rfl,fun l hl=>?_⟩
  simp only [List.mem_cons,List.not_mem_nil,or_false] at hl
  rcases hl with rfl|rfl|rfl|rfl<;>exact bytes_ok (by decide) (by decide)
theorem yAlive(hA:AliveIs):Ret Tryz.prog 8 [] (·=.bool true):=by
 have eF:=yFeed (c:=aliveC) (t:=aliveT) aliveQ (by decide) (RChk.of (by decide)) ((ConfOk.of (wrongR_ok (by decide))).b) (by decide) aliveQ_ok
 refine enterO tabOk (N:=65) (gs:=[]) (args:=[]) Tryz.func8 rfl rfl rfl (nLe rfl) (fun E hE=>?_)
 conv=>whnf
 repeat' (first|((first|refine Drw.held tabOk 1 0 [0,2,3,4,5] (.alt (.go 1 (.go 6 (.go 7 (.go 8 (.go 9 .done))))) (.go 6 (.alt (.go 1 (.go 7 (.go 8 (.go 9 .done)))) (.go 7 (.go 1 (.go 8 (.go 9 .done))))))) 5 rfl rfl rfl rfl (by kernel_rfl) ?_|refine And.intro rfl ?_|refine BsN.mark ?_);conv=>whnf)|((refine Both.mk ?_ ?_)<;>conv=>whnf))
 all_goals
  refine CallS.call (CallN.retE [5] (RvL.cons (Rv.sl (by simp) rfl (by decide) (fun j hj=>?_)) RvL.nil) (by repeat (first|exact Als.nil _|refine Als.cons rfl rfl ?_)) (by simp [hE]) sentAlive ?_)
  ·obtain rfl|rfl:j=0∨j=1:=by omega
   all_goals exact⟨nLe rfl,RvL.pu rfl⟩
  conv=>whnf
  repeat' ((refine And.intro rfl ?_);conv=>whnf)
  refine CallS.call (CallN.ret (ars:=[confV aliveC,trkV aliveT,cysV aliveQ]) [1,2,3] (RvL.cons (Rv.pu rfl) (RvL.cons (Rv.agg (RvL.cons (Rv.sl (by simp) rfl (by decide) (fun j hj=>?_)) (RvL.cons (Rv.sl (by simp) rfl (by decide) (fun j hj=>?_)) RvL.nil))) (RvL.pu rfl))) (by repeat (first|exact Als.nil _|refine Als.cons rfl rfl ?_)) (by simp [hE]) eF (fun v hv=>?_))
  ·obtain rfl:j=0:=by omega
   refine⟨nLe rfl,RvL.cons (Rv.pu rfl) (RvL.cons (Rv.sl (by simp) rfl (by decide) (fun j hj=>?_)) (RvL.cons Rv.emp RvL.nil))⟩
   obtain rfl:j=0:=by omega
   exact⟨nLe rfl,RvL.pu rfl⟩
  ·obtain rfl:j=0:=by omega
   exact⟨nLe rfl,RvL.pu rfl⟩
  obtain⟨rs,n,l,hv,hl,hR⟩:=hv
  subst hv
  obtain⟨r0,r1,hrs,f1,f2,f3,f4,f5,f6,f7,f8⟩:=hA rs n l hl hR
  subst hrs
  rw [show rpsV [r0,r1]=.lst 32 2 fun i=>rpC ([r0,r1].getD i rp0) from rfl]
  conv=>whnf
  repeat' ((first|refine And.intro rfl ?_|refine Br.ot (by assumption) ?_|refine Br.pt (by assumption) ?_|refine Br.pt (by omega) ?_|refine CallS.q (spHas _ _ _) rfl ?_|refine CallS.q (spWidth _ _ f7 f8) rfl ?_|refine Ob.mk (by omega) ?_|refine Ix.of 0 rfl ?_|refine Ix.of 1 rfl ?_|refine FinAt.val rfl ?_);conv=>whnf)
  show AV.bool (decide (W.Sp.width ⟨r1.pos.lo,r1.pos.hi⟩<1000))=AV.bool true
  rw [decide_eq_true f6]
section
variable{c:W.Conf}{t:W.Trk}{s:W.Script}
end
section
variable{c:W.Conf}{t:W.Trk}{s:W.Script}
theorem width_le{a b:Int}(h:a≤b):W.Sp.width ⟨a,b⟩=b-a:=if_pos (show W.Sp.right ⟨a,b⟩ from h)
end
section
def al0(l:List Int):W.Nav:=startN aliveC aliveT l
def alS0(l:List Int):W.Nav×W.Fused:=sensed (al0 l) (mailF aliveQ 0)
def alM0(l:List Int):W.Nav×Bool:=(alS0 l).1.move (alS0 l).2.speed
def al1(l:List Int):W.Nav:=ended (accepted (withL (alM0 l).1 []) ⟨0,[],true,true⟩ (alS0 l).2) (alS0 l).2 (alM0 l).2 true (cmdF aliveQ 0)
def alS1(l:List Int):W.Nav×W.Fused:=sensed (al1 l) (mailF aliveQ 1)
def alM1(l:List Int):W.Nav×Bool:=(alS1 l).1.move (alS1 l).2.speed
def al2(l:List Int):W.Nav:=ended (accepted (withL (alM1 l).1 (alM1 l).1.place.set.list) ⟨0,[],true,false⟩ (alS1 l).2) (alS1 l).2 (alM1 l).2 false (cmdF aliveQ 1)
theorem ai_has0:(mailF aliveQ 0).has 5=true:=by kernel_rfl
theorem ai_val0:aliveT.find ((mailF aliveQ 0).val 5)=some 0:=by kernel_rfl
theorem ai_has1:(mailF aliveQ 1).has 5=false:=by kernel_rfl
theorem ai_l0(l:List Int):(alM0 l).1.place.set.list=[]:=by kernel_rfl
theorem ai_on0(l:List Int):(withL (alM0 l).1 []).place.on=false:=by kernel_rfl
theorem ai_t0(l:List Int):(withL (alM0 l).1 []).t=aliveT:=by kernel_rfl
theorem ai_l1(l:List Int):(alM1 l).1.place.set.list=[⟨1,[0,0,0,0,0,0,0,0,0,0,0,0]⟩]:=by kernel_rfl
def alR(l:List Int):W.Report:=(al2 l).tell (opened (al1 l) (mailF aliveQ 1) ⟨0,[],true,false⟩) (alS1 l).2
theorem ai_g(l:List Int):(alR l).group=7:=by kernel_rfl
theorem ai_m(l:List Int):(alR l).mode=2:=by kernel_rfl
theorem ai_s(l:List Int):(alR l).still=true:=by kernel_rfl
theorem ai_lo(l:List Int):(alR l).pos.lo=-9:=by kernel_rfl
theorem ai_hi(l:List Int):(alR l).pos.hi=9:=by kernel_rfl
theorem al0_e(l:List Int):startN aliveC aliveT l=al0 l:=by delta al0;exact rfl
theorem s0_e(l:List Int):sensed (al0 l) (mailF aliveQ 0)=alS0 l:=by delta alS0;exact rfl
theorem m0_e(l:List Int):(alS0 l).1.move (alS0 l).2.speed=alM0 l:=by delta alM0;exact rfl
theorem s1_e(l:List Int):sensed (al1 l) (mailF aliveQ 1)=alS1 l:=by delta alS1;exact rfl
theorem m1_e(l:List Int):(alS1 l).1.move (alS1 l).2.speed=alM1 l:=by delta alM1;exact rfl
theorem n1_e(l:List Int):ended (accepted (withL (alM0 l).1 []) ⟨0,[],true,true⟩ (alS0 l).2) (alS0 l).2 (alM0 l).2 true (cmdF aliveQ 0)=al1 l:=by delta al1;exact rfl
theorem n2_e(l:List Int):ended (accepted (withL (alM1 l).1 (alM1 l).1.place.set.list) ⟨0,[],true,false⟩ (alS1 l).2) (alS1 l).2 (alM1 l).2 false (cmdF aliveQ 1)=al2 l:=by delta al2;exact rfl
theorem r_e(l:List Int):(al2 l).tell (opened (al1 l) (mailF aliveQ 1) ⟨0,[],true,false⟩) (alS1 l).2=alR l:=by delta alR;exact rfl
attribute [local irreducible] al0 alS0 alM0 al1 alS1 alM1 al2 alR mailF aliveT aliveQ
theorem alive1{l:List Int}{n:W.Nav}{r:W.Report}(h:StepR (al0 l) (mailF aliveQ 0) (cmdF aliveQ 0) n r):n=al1 l∧r.accepted=true:=by
 unfold StepR MoveR at h
 rw [s0_e,m0_e] at h
 obtain⟨n2,over,x,⟨l2,hp,hn2,ho⟩,hk,hn,ht⟩:=h
 rw [ai_l0] at hp
 obtain rfl:=hp.eq_nil
 subst hn2
 have hx:x=⟨0,[],true,true⟩:=by
  rcases hk with ⟨a,_⟩|⟨_,a,_⟩|⟨_,i,hi,⟨hon,_⟩|⟨_,hx⟩⟩
  ·rw [ai_has0] at a;cases a
  ·rw [ai_t0,ai_val0] at a;cases a
  ·rw [ai_on0] at hon;cases hon
  ·rw [ai_t0,ai_val0] at hi
   cases hi
   exact hx
 subst hx
 subst ho
 rw [n1_e] at hn
 exact⟨hn,(tell_acc ht).trans rfl⟩
theorem alive2{l:List Int}{n:W.Nav}{r:W.Report}(h:StepR (al1 l) (mailF aliveQ 1) (cmdF aliveQ 1) n r):∃ pm ov,r={ alR l with permitted:=pm,over:=ov }:=by
 unfold StepR MoveR at h
 rw [s1_e,m1_e] at h
 obtain⟨n2,over,x,⟨l2,hp,hn2,ho⟩,hk,hn,ht⟩:=h
 rw [ai_l1] at hp
 obtain rfl:=List.perm_singleton.1 hp
 rw [← ai_l1 l] at hn2
 subst hn2
 have hx:x=⟨0,[],true,false⟩:=by
  rcases hk with ⟨_,a⟩|⟨a,_⟩|⟨a,_⟩
  ·exact a
  ·rw [ai_has1] at a;cases a
  ·rw [ai_has1] at a;cases a
 subst hx
 subst ho
 rw [n2_e] at hn
 subst hn
 unfold TellR at ht
 rw [r_e] at ht
 exact ht
theorem aliveIs:AliveIs:=fun rs n l hl hR=>by
 cases hR with
 |step h1 s1 =>
  cases h1 with
  |step h0 s0 =>
   cases h0
   rw [show startN aliveC aliveT l=al0 l from al0_e l] at s0
   obtain⟨e1,e2⟩:=alive1 s0
   subst e1
   obtain⟨pm,ov,e3⟩:=alive2 s1
   subst e3
   have hlo:=ai_lo l
   have hhi:=ai_hi l
   refine⟨_,_,rfl,e2,ai_g l,ai_m l,ai_s l,?_,?_,?_,?_⟩
   ·show W.Sp.has ⟨(alR l).pos.lo,(alR l).pos.hi⟩ 0=true
    rw [hlo,hhi];decide
   ·show W.Sp.width ⟨(alR l).pos.lo,(alR l).pos.hi⟩<1000
    rw [hlo,hhi];decide
   ·show W.I64 (alR l).pos.lo
    rw [hlo];unfold W.I64;omega
   ·show W.I64 (alR l).pos.hi
    rw [hhi];unfold W.I64;omega
end
abbrev AllB(w:World)(b:Nat):Prop:=b<w.heap.size
theorem Ret.law{P:Program}{f:Nat}{args:List AV}{b:Bool}(h:Ret P f args (·=.bool b))(w:World)(Vs:List Value)(hV:all2 (R (AllB w) w []) args Vs) :
  Calls P f ⟨Vs⟩ w fun e w'=>e=.returned (.bool b)∧Below w.heap.size w w' :=
 (h (AllB w) w [] Vs (Gs.nil _ _) (fun _ h=>h) hV).mono fun e w' ⟨r,V,gs',bs',S',h1,h2,h3,_,_,_,_,_,_,_,hF⟩=>by
  subst h2
  obtain rfl:V=.bool b:=h3
  exact⟨h1,hF.os,hF.tape,hF.output,hF.size,fun k hk=>hF.block k hk (fun ⟨i,L,hi,_⟩=>by simp [nth] at hi)⟩
end Y
section
namespace Y
open Go Go.RowKit Go.Sort Go.ChangeShapes Go.WideShapes Go.ChangeAt Go.Deep Go.Joins
section
variable{H:Type}{enc:TypeId×Value→H}{P:Program}{w:World}{base:Nat}{spare:Nat→Bool}{held:Bool}
theorem od_int{t:TypeId}{fuel:Nat}{cs:List Value}{x:DataW H×List MemPlace}(ht:P.underlying t=some (.int .i64))(h:DataW.trod enc P w base spare held fuel t cs=some x):∃ a:Int,PL (AllB w) w [I a] cs∧W.I64 a:=by
 obtain⟨n,rfl,_,hw⟩:=DataW.trod_int ht h
 refine⟨n,(PL_iff).2 ⟨rfl,trivial⟩,?_⟩
 simp [Lit.wf,IntKind.min,IntKind.max,IntKind.bits,IntKind.signed] at hw
 unfold W.I64
 omega
theorem od_lst{α:Type}{t e:TypeId}{sz:Nat}{xC:α→List AV}{p:α→Prop}(d0:α)(ht:P.underlying t=some (.slice e))(hc:P.cellsOf e=sz)(hsz:0<sz)
  (elem:∀ {n:Nat} {cs:List Value} {x:DataW H×List MemPlace},DataW.trod enc P w base spare held n e cs=some x→∃ a,PL (AllB w) w (xC a) cs∧p a)
  {fuel:Nat} {cs:List Value} {x:DataW H×List MemPlace} (h:DataW.trod enc P w base spare held fuel t cs=some x) :
  ∃ l:List α,(∃ v,cs=[v]∧P1 (AllB w) w (.lst sz l.length fun i=>xC (l.getD i d0)) v)∧(∀ a∈l,p a):=by
 rcases open_slice ht h with ⟨hcs,_⟩|⟨a,len,cap,m,n,D,Pl,hcs,hb,hl,hm,hmm,_,hx⟩
 ·exact⟨[],⟨_,hcs,none,0,rfl,Nat.le_refl _,Nat.zero_le _,fun h=>absurd h (by simp)⟩,by simp⟩
 ·have hlm:len≤m:=by rw [hmm];split<;>omega
  have hsome:∀ i,i<len→∃ q:α×List Value,PL (AllB w) w (xC q.1) q.2∧p q.1∧w.cells? base (a.add (i*P.cellsOf e)) (P.cellsOf e)=some q.2:=fun i hi=>by
   obtain⟨cs',q1,q2⟩:=hx i (by omega)
   obtain⟨y,q3,q4⟩:=elem q2
   exact⟨(y,cs'),q3,q4,q1⟩
  haveI:Inhabited (α×List Value):=⟨(d0,[])⟩
  obtain⟨f,hf⟩:=choose_lt (n:=len) (p:=fun i (q:α×List Value)=>PL (AllB w) w (xC q.1) q.2∧p q.1∧w.cells? base (a.add (i*P.cellsOf e)) (P.cellsOf e)=some q.2) hsome
  refine⟨(List.range len).map fun i=>(f i).1,⟨_,hcs,some a,cap,by simp,by simpa using hl,hm,fun h0=>?_⟩,fun y hy=>?_⟩
  ·have h0':0<len:=by simpa using h0
   obtain⟨g1,g2,g3⟩:=World.cells?_some (hf 0 h0').2.2
   have hlen0:0<(f 0).2.length:=by rw [g2,hc];exact hsz
   have c0:w.cell? ((a.add (0*P.cellsOf e)).add 0)=some (f 0).2[0]:=by
    rw [g3 0 (by rw [hc];exact hsz),List.getElem?_eq_getElem hlen0]
   obtain⟨b,o,spot⟩:=a
   have hspot:spot=none:=by simpa [Addr.add] using World.cell?_spot c0
   subst hspot
   have hadd:∀ n k,(⟨b,k,none⟩:Addr).add n=⟨b,k+n,none⟩:=fun n k=>by unfold Addr.add;split<;>simp_all
   have hlt:b<w.heap.size:=by
    have:=World.block_lt_of_cell? w _ c0
    simpa [hadd] using this
   refine⟨b,o,rfl,hlt,hlt,fun i hi=>?_⟩
   have hi':i<len:=by simpa using hi
   obtain⟨k1,k2,k3⟩:=hf i hi'
   obtain⟨_,q2,q3⟩:=World.cells?_some k3
   refine⟨(f i).2,?_,by rw [q2,hc],fun j v hj=>?_,hlt⟩
   ·have:((List.range len).map fun i=>(f i).1).getD i d0=(f i).1:=by simp [List.getD,hi']
    show PL (AllB w) w (xC (((List.range len).map fun i=>(f i).1).getD i d0)) (f i).2
    rw [this];exact k1
   ·have hjl:j<P.cellsOf e:=by rw [← q2];exact(List.getElem?_eq_some_iff.1 hj).1
    have:=q3 j hjl
    rw [hadd,hadd,hc,hj] at this
    exact this
  ·obtain⟨i,hi,rfl⟩:=List.mem_map.1 hy
   exact(hf i (List.mem_range.1 hi)).2.1
end
end Y
end
namespace Y
open Go Go.RowKit Go.Sort
section
variable{c:W.Conf}{t:W.Trk}{s:W.Script}
structure ScrG(s:W.Script):Prop where
 b:ScrB s
 rd:∀ i,i<s.reads.length→W.I64 (s.reads.getD i default).cycle∧W.I64 (s.reads.getD i default).point
 grp:∀ i,i<s.reads.length→W.I64 (s.reads.getD i default).group
theorem ScrG.o(h:ScrG s)(hs:W.smallB t s=true):t.segs.length≤1000000∧t.grps.length≤1000000∧ScrO s:=by
 have hf:=small_facts hs
 refine⟨by omega,by omega,h.b,by omega,by omega,by omega,fun i hi j hj=>?_,h.rd,h.grp⟩
 unfold W.smallB at hs
 rw [Bool.and_eq_true] at hs
 have h1:=W.allB_at hs.2 i hi
 unfold W.smallT at h1
 rw [Bool.and_eq_true] at h1
 have h2:=W.allB_at h1.2 j hj
 simp only [decide_eq_true_eq] at h2
 exact Nat.le_trans h2 (by omega)
theorem yRide0(h:W.smallB t s=false):Ret Tryz.prog 7 [confV c,trkV t,scrV s] (·=.tup [.emp,.bool false]):=by
 have eS:=topSmall t s
 rw [h] at eS
 refine enterO tabOk (N:=23) (gs:=[]) (args:=[_,_,_]) Tryz.func7 rfl rfl rfl (nLe rfl) (fun E hE=>?_)
 conv=>whnf
 repeat' ((first|refine Br.ot rfl ?_|refine CallS.q (eS) rfl ?_|refine FinAt.val rfl ?_);conv=>whnf)
 all_goals rfl
end
end Y
section
namespace Y
open Go Go.RowKit Go.Sort Go.ChangeShapes Go.WideShapes Go.ChangeAt Go.Deep Go.Joins
section
variable{H:Type}(enc:TypeId×Value→H)(P:Program)(w:World)(base:Nat)(spare:Nat→Bool)(held:Bool)
def Opn(t:TypeId)(Q:List AV→Prop):Prop:=∀ (n:Nat) (cs:List Value) (x:DataW H×List MemPlace),DataW.trod enc P w base spare held n t cs=some x→∃ l,Q l∧PL (AllB w) w l cs
inductive AllO:List (TypeId×Nat)→List (List AV→Prop)→Prop
 |nil:AllO [] []
 |cons {t:TypeId} {o:Nat} {Q:List AV→Prop} {fs:List (TypeId×Nat)} {Qs:List (List AV→Prop)}:Opn enc P w base spare held t Q→AllO fs Qs→AllO ((t,o)::fs) (Q::Qs)
end
def Cat:List (List AV→Prop)→List AV→Prop
 |[],l=>l=[]
 |Q::Qs,l=>∃ a b,l=a++b∧Q a∧Cat Qs b
def Laid(P:Program):Nat→List (TypeId×Nat)→Nat→Bool
 |o,[],e=>o==e
 |o,f::fs,e=>(f.2==o)&&Laid P (o+P.cellsOf f.1) fs e
def fieldsOf(P:Program)(t:TypeId):Option (List (TypeId×Nat)) :=
 match P.underlying t with
 |some (.struct fs)=>some (fs.toList.map fun f=>(f.type,f.offset))
 |_=>none
section
variable{H:Type}{enc:TypeId×Value→H}{P:Program}{w:World}{base:Nat}{spare:Nat→Bool}{held:Bool}
theorem PL_app{S:Nat→Prop}{w:World}:∀ {a b:List AV} {x y:List Value},PL S w a x→PL S w b y→PL S w (a++b) (x++y)
 |[],b,x,y,h,h'=>by
   have:x=[]:=h
   subst this;exact h'
 |c::a,b,x,y,⟨v,r,e,h1,h2⟩,h'=>by
   subst e
   exact⟨v,r++y,rfl,h1,PL_app h2 h'⟩
theorem Opn.mono{t:TypeId}{Q Q':List AV→Prop}(h:Opn enc P w base spare held t Q)(hQ:∀ l,Q l→Q' l):Opn enc P w base spare held t Q':=fun n cs x hx=>by
 obtain⟨l,h1,h2⟩:=h n cs x hx
 exact⟨l,hQ l h1,h2⟩
theorem fieldsOf_some{t:TypeId}{l:List (TypeId×Nat)}(h:fieldsOf P t=some l):∃ fs,P.underlying t=some (.struct fs)∧fs.toList.map (fun f=>(f.type,f.offset))=l:=by
 unfold fieldsOf at h
 split at h
 ·next fs h1=>exact⟨fs,h1,Option.some.inj h⟩
 ·cases h
theorem cat_fields:∀ (fs:List (TypeId×Nat)) (Qs:List (List AV→Prop)) (o:Nat) (cs:List Value),Laid P o fs cs.length=true→AllO enc P w base spare held fs Qs →
  (∀ f∈fs,∃ n x,DataW.trod enc P w base spare held n f.1 ((cs.drop f.2).take (P.cellsOf f.1))=some x)→∃ l,Cat Qs l∧PL (AllB w) w l (cs.drop o)
 |[],[],o,cs,hl,_,_=>by
   have:o=cs.length:=by simpa [Laid] using hl
   subst this
   exact⟨[],rfl,by simp [PL]⟩
 |(ft,fo)::fs,Q::Qs,o,cs,hl,.cons hq hr,hx=>by
   unfold Laid at hl
   rw [Bool.and_eq_true] at hl
   have ho:fo=o:=by simpa using hl.1
   obtain⟨n,x,e⟩:=hx (ft,fo) (by simp)
   obtain⟨l1,q1,p1⟩:=hq n _ x e
   obtain⟨l2,q2,p2⟩:=cat_fields fs Qs (o+P.cellsOf ft) cs hl.2 hr (fun g hg=>hx g (by simp [hg]))
   refine⟨l1++l2,⟨l1,l2,rfl,q1,q2⟩,?_⟩
   have:=PL_app p1 p2
   simp only [ho] at this
   rw [← List.drop_drop,List.take_append_drop] at this
   exact this
theorem Opn.struct{t:TypeId}{l:List (TypeId×Nat)}{Qs:List (List AV→Prop)}(ht:fieldsOf P t=some l)(hl:Laid P 0 l (P.cellsOf t)=true)(hq:AllO enc P w base spare held l Qs):Opn enc P w base spare held t (Cat Qs):=fun n cs x hx=>by
 obtain⟨fs,hu,rfl⟩:=fieldsOf_some ht
 obtain⟨xs,m,_,_,hlen,hsz,hf⟩:=DataW.trod_struct hu hx
 rw [← hlen] at hl
 have:=cat_fields _ Qs 0 cs hl hq fun f hm=>by
  obtain⟨g,hg,rfl⟩:=List.mem_map.1 hm
  obtain⟨i,hi,he⟩:=List.mem_iff_getElem.1 hg
  have hi':i<fs.size:=by simpa using hi
  have hi2:i<xs.length:=by omega
  refine⟨m,xs[i],?_⟩
  show DataW.trod enc P w base spare held m g.type ((cs.drop g.offset).take (P.cellsOf g.type))=_
  rw [hf i g (by rw [Array.getElem?_eq_getElem hi',← he];simp),List.getElem?_eq_getElem hi2]
 simpa using this
theorem Opn.arr{t e:TypeId}{n:Nat}{Q:List AV→Prop}(ht:P.underlying t=some (.array n e))(hc:P.cellsOf t=n*P.cellsOf e)(hq:Opn enc P w base spare held e Q):Opn enc P w base spare held t (Cat (List.replicate n Q)):=fun f cs x hx=>by
 obtain⟨xs,m,_,_,hlen,hsz,hf⟩:=DataW.trod_array ht hx
 have key:∀ k,k≤n→∃ l,Cat (List.replicate k Q) l∧PL (AllB w) w l (cs.drop ((n-k)*P.cellsOf e)):=by
  intro k
  induction k with
  |zero =>
   intro _
   refine⟨[],rfl,?_⟩
   have:cs.drop ((n-0)*P.cellsOf e)=[]:=List.drop_eq_nil_of_le (by rw [hlen,hc];simp)
   rw [this];simp [PL]
  |succ k ih =>
   intro hk
   obtain⟨l2,q2,p2⟩:=ih (by omega)
   have hi:n-(k+1)<n:=by omega
   have e1:=hf (n-(k+1)) hi
   rw [List.getElem?_eq_getElem (by omega)] at e1
   obtain⟨l1,q1,p1⟩:=hq m _ _ e1
   refine⟨l1++l2,⟨l1,l2,rfl,q1,q2⟩,?_⟩
   have:=PL_app p1 p2
   have e2:(n-k)*P.cellsOf e=(n-(k+1))*P.cellsOf e+P.cellsOf e:=by
    have:n-k=n-(k+1)+1:=by omega
    rw [this,Nat.add_mul,Nat.one_mul]
   rw [e2,← List.drop_drop,List.take_append_drop] at this
   exact this
 have:=key n (Nat.le_refl n)
 simpa using this
theorem Opn.i64{t:TypeId}(ht:P.underlying t=some (.int .i64)):Opn enc P w base spare held t fun l=>∃ a,l=[I a]∧W.I64 a:=fun n cs x hx=>by
 obtain⟨a,h1,h2⟩:=od_int ht hx
 exact⟨_,⟨a,rfl,h2⟩,h1⟩
theorem Opn.byte{t:TypeId}(ht:P.underlying t=some (.int .u8)):Opn enc P w base spare held t fun l=>∃ a:Nat,l=[.int .u8 (a:Int)]∧a<256:=fun n cs x hx=>by
 obtain⟨n,rfl,_,hw⟩:=DataW.trod_int ht hx
 have:=bounds_u8 hw
 refine⟨_,⟨n.toNat,rfl,by omega⟩,(PL_iff).2 ⟨?_,trivial⟩⟩
 show Value.int .u8 n=.int .u8 (n.toNat:Int)
 rw [Int.toNat_of_nonneg this.1]
theorem Opn.lst{α:Type}{t e:TypeId}(sz:Nat){xC:α→List AV}{p:α→Prop}(d0:α)(ht:P.underlying t=some (.slice e))(hc:P.cellsOf e=sz)(hsz:0<sz)
  (elem:Opn enc P w base spare held e fun l=>∃ a,l=xC a∧p a):Opn enc P w base spare held t fun l=>∃ L:List α,l=[.lst sz L.length fun i=>xC (L.getD i d0)]∧∀ a∈L,p a:=fun n cs x hx=>by
 obtain⟨L,⟨v,rfl,h1⟩,h2⟩:=od_lst d0 ht hc hsz (fun {n cs x} h=>by
  obtain⟨_,⟨a,rfl,h4⟩,h5⟩:=elem n cs x h
  exact⟨a,h5,h4⟩) hx
 exact⟨_,⟨L,rfl,h2⟩,(PL_iff).2 ⟨h1,trivial⟩⟩
theorem Opn.top{t:TypeId}{lf:List (TypeId×Nat)}{Q:List AV→Prop}{r:Reach}{b0:Nat}{v:Value}{d:DataW H}{ps:List MemPlace}(h:Opn enc P w base spare held t Q)(ht:fieldsOf P t=some lf)(hv:Value.okWide P w r b0 t v)(hd:DataW.Trod enc P w base spare held t v d ps):∃ l,Q l∧P1 (AllB w) w (.agg l) v:=by
 obtain⟨fs,hu,_⟩:=fieldsOf_some ht
 obtain⟨cs,rfl,_⟩:=okWide_struct hu hv
 obtain⟨fuel,hf⟩:=hd
 obtain⟨l,h1,h2⟩:=h fuel _ _ hf
 exact⟨l,h1,cs.toList,rfl,h2⟩
end
end Y
end
section
namespace Y
open Go Go.RowKit Go.Sort Go.ChangeShapes Go.WideShapes Go.ChangeAt Go.Deep Go.Joins
section
variable{H:Type}{enc:TypeId×Value→H}{w:World}{base:Nat}{spare:Nat→Bool}{held:Bool}
theorem oInt:Opn enc Tryz.prog w base spare held 3 (fun l=>∃ a,l=[I a]∧W.I64 a):=Opn.i64 (by kernel_rfl)
theorem oInt64:Opn enc Tryz.prog w base spare held 2 (fun l=>∃ a,l=[I a]∧W.I64 a):=Opn.i64 (by kernel_rfl)
theorem oByte:Opn enc Tryz.prog w base spare held 5 (fun l=>∃ a:Nat,l=[.int .u8 (a:Int)]∧a<256):=Opn.byte (by kernel_rfl)
theorem oInts:Opn enc Tryz.prog w base spare held 28 (fun l=>∃ L:List Int,l=[isV L]∧∀ a∈L,W.I64 a):=Opn.lst 1 0 (by kernel_rfl) (by kernel_rfl) (by decide) oInt
theorem oBytes:Opn enc Tryz.prog w base spare held 85 (fun l=>∃ L:List Nat,l=[bytesV L]∧∀ a∈L,a<256):=Opn.lst 1 0 (by kernel_rfl) (by kernel_rfl) (by decide) oByte
theorem oTexts:Opn enc Tryz.prog w base spare held 82 (fun l=>∃ L:List (List Nat),l=[textsV L]∧∀ a∈L,∀ x∈a,x<256):=Opn.lst 1 [] (by kernel_rfl) (by kernel_rfl) (by decide) oBytes
theorem oPiece:Opn enc Tryz.prog w base spare held 66 (fun l=>∃ a:W.Piece,l=pcC a∧True) :=
 (Opn.struct (l:=[(2,0),(2,1)]) (by kernel_rfl) (by kernel_rfl) (.cons oInt64 (.cons oInt64 .nil))).mono fun l h=>by
  obtain⟨_,_,rfl,⟨a,rfl,_⟩,_,_,rfl,⟨b,rfl,_⟩,rfl⟩:=h
  exact⟨⟨a,b⟩,rfl,trivial⟩
theorem oPieces:Opn enc Tryz.prog w base spare held 67 (fun l=>∃ L:List W.Piece,l=[pcsV L]∧∀ a∈L,True):=Opn.lst 2 default (by kernel_rfl) (by kernel_rfl) (by decide) oPiece
theorem oSeg:Opn enc Tryz.prog w base spare held 69 (fun l=>∃ a:W.Seg,l=sgC a∧True) :=
 (Opn.struct (l:=[(2,0),(67,1),(28,2)]) (by kernel_rfl) (by kernel_rfl) (.cons oInt64 (.cons oPieces (.cons oInts .nil)))).mono fun l h=>by
  obtain⟨_,_,rfl,⟨a,rfl,_⟩,_,_,rfl,⟨b,rfl,_⟩,_,_,rfl,⟨c,rfl,_⟩,rfl⟩:=h
  exact⟨⟨a,b,c⟩,rfl,trivial⟩
theorem oSegs:Opn enc Tryz.prog w base spare held 24 (fun l=>∃ L:List W.Seg,l=[sgsV L]∧∀ a∈L,True):=Opn.lst 3 default (by kernel_rfl) (by kernel_rfl) (by decide) oSeg
theorem oGrp:Opn enc Tryz.prog w base spare held 50 (fun l=>∃ a:W.Grp,l=gpC a∧True) :=
 (Opn.struct (l:=[(3,0),(3,1),(2,2),(2,3),(2,4)]) (by kernel_rfl) (by kernel_rfl) (.cons oInt (.cons oInt (.cons oInt64 (.cons oInt64 (.cons oInt64 .nil)))))).mono fun l h=>by
  obtain⟨_,_,rfl,⟨a,rfl,_⟩,_,_,rfl,⟨b,rfl,_⟩,_,_,rfl,⟨c,rfl,_⟩,_,_,rfl,⟨d,rfl,_⟩,_,_,rfl,⟨e,rfl,_⟩,rfl⟩:=h
  exact⟨⟨a,b,c,d,e⟩,rfl,trivial⟩
theorem oGrps:Opn enc Tryz.prog w base spare held 25 (fun l=>∃ L:List W.Grp,l=[gpsV L]∧∀ a∈L,True):=Opn.lst 5 default (by kernel_rfl) (by kernel_rfl) (by decide) oGrp
theorem oTrk:Opn enc Tryz.prog w base spare held 27 (fun l=>∃ a:W.Trk,l=[sgsV a.segs,gpsV a.grps]) :=
 (Opn.struct (l:=[(24,0),(25,1)]) (by kernel_rfl) (by kernel_rfl) (.cons oSegs (.cons oGrps .nil))).mono fun l h=>by
  obtain⟨_,_,rfl,⟨a,rfl,_⟩,_,_,rfl,⟨b,rfl,_⟩,rfl⟩:=h
  exact⟨⟨a,b⟩,rfl⟩
theorem oConf:Opn enc Tryz.prog w base spare held 23 (fun l=>∃ a:W.Conf,l=confC a) :=
 (Opn.struct (l:=[(2,0),(2,1),(2,2),(2,3),(2,4),(2,5),(2,6),(2,7),(2,8),(3,9),(2,10),(2,11),(3,12),(2,13)]) (by kernel_rfl) (by kernel_rfl)
  (.cons oInt64 (.cons oInt64 (.cons oInt64 (.cons oInt64 (.cons oInt64 (.cons oInt64 (.cons oInt64 (.cons oInt64 (.cons oInt64 (.cons oInt (.cons oInt64 (.cons oInt64 (.cons oInt (.cons oInt64 .nil))))))))))))))).mono fun l h=>by
  obtain⟨_,_,rfl,⟨a,rfl,_⟩,_,_,rfl,⟨b,rfl,_⟩,_,_,rfl,⟨c,rfl,_⟩,_,_,rfl,⟨d,rfl,_⟩,_,_,rfl,⟨e,rfl,_⟩,_,_,rfl,⟨f,rfl,_⟩,_,_,rfl,⟨g,rfl,_⟩,_,_,rfl,⟨h,rfl,_⟩,_,_,rfl,⟨i,rfl,_⟩,_,_,rfl,⟨j,rfl,_⟩,_,_,rfl,⟨k,rfl,_⟩,_,_,rfl,⟨m,rfl,_⟩,_,_,rfl,⟨n,rfl,_⟩,_,_,rfl,⟨o,rfl,_⟩,rfl⟩:=h
  exact⟨⟨a,b,c,d,e,f,g,h,i,j,k,m,n,o⟩,rfl⟩
theorem oTwo:Opn enc Tryz.prog w base spare held 29 (fun l=>∃ a b,l=[I a,I b]) :=
 (Opn.arr (n:=2) (e:=2) (by kernel_rfl) (by kernel_rfl) oInt64).mono fun l h=>by
  obtain⟨_,_,rfl,⟨a,rfl,_⟩,_,_,rfl,⟨b,rfl,_⟩,rfl⟩:=h
  exact⟨a,b,rfl⟩
theorem oFour:Opn enc Tryz.prog w base spare held 81 (fun l=>∃ a b c d,l=[I a,I b,I c,I d]) :=
 (Opn.arr (n:=4) (e:=3) (by kernel_rfl) (by kernel_rfl) oInt).mono fun l h=>by
  obtain⟨_,_,rfl,⟨a,rfl,_⟩,_,_,rfl,⟨b,rfl,_⟩,_,_,rfl,⟨c,rfl,_⟩,_,_,rfl,⟨d,rfl,_⟩,rfl⟩:=h
  exact⟨a,b,c,d,rfl⟩
theorem oTick:Opn enc Tryz.prog w base spare held 84 (fun l=>∃ a:W.Tick,l=tickC a∧∀ x∈a.junk,∀ y∈x,y<256) :=
 (Opn.struct (l:=[(2,0),(29,1),(2,3),(2,4),(81,5),(82,9),(3,10)]) (by kernel_rfl) (by kernel_rfl) (.cons oInt64 (.cons oTwo (.cons oInt64 (.cons oInt64 (.cons oFour (.cons oTexts (.cons oInt .nil)))))))).mono fun l h=>by
  obtain⟨_,_,rfl,⟨a,rfl,_⟩,_,_,rfl,⟨b,c,rfl⟩,_,_,rfl,⟨d,rfl,_⟩,_,_,rfl,⟨e,rfl,_⟩,_,_,rfl,⟨f,g,h,i,rfl⟩,_,_,rfl,⟨j,rfl,hj⟩,_,_,rfl,⟨k,rfl,_⟩,rfl⟩:=h
  exact⟨⟨a,b,c,d,e,f,g,h,i,j,k⟩,rfl,hj⟩
theorem oTicks:Opn enc Tryz.prog w base spare held 30 (fun l=>∃ L:List W.Tick,l=[ticksV L]∧∀ a∈L,∀ x∈a.junk,∀ y∈x,y<256):=Opn.lst 11 default (by kernel_rfl) (by kernel_rfl) (by decide) oTick
theorem oRead:Opn enc Tryz.prog w base spare held 48 (fun l=>∃ a:W.Read,l=readC a∧(W.I64 a.cycle∧W.I64 a.group∧W.I64 a.point)) :=
 (Opn.struct (l:=[(3,0),(3,1),(3,2),(2,3)]) (by kernel_rfl) (by kernel_rfl) (.cons oInt (.cons oInt (.cons oInt (.cons oInt64 .nil))))).mono fun l h=>by
  obtain⟨_,_,rfl,⟨a,rfl,ha⟩,_,_,rfl,⟨b,rfl,_⟩,_,_,rfl,⟨c,rfl,hc⟩,_,_,rfl,⟨d,rfl,hd⟩,rfl⟩:=h
  exact⟨⟨a,b,c,d⟩,rfl,ha,hc,hd⟩
theorem oReads:Opn enc Tryz.prog w base spare held 31 (fun l=>∃ L:List W.Read,l=[readsV L]∧∀ a∈L,W.I64 a.cycle∧W.I64 a.group∧W.I64 a.point):=Opn.lst 4 default (by kernel_rfl) (by kernel_rfl) (by decide) oRead
theorem oScr:Opn enc Tryz.prog w base spare held 33 (fun l=>∃ a:W.Script,l=scrC a∧ScrG a) :=
 (Opn.struct (l:=[(28,0),(2,1),(2,2),(29,3),(29,5),(30,7),(31,8)]) (by kernel_rfl) (by kernel_rfl) (.cons oInts (.cons oInt64 (.cons oInt64 (.cons oTwo (.cons oTwo (.cons oTicks (.cons oReads .nil)))))))).mono fun l h=>by
  obtain⟨_,_,rfl,⟨a,rfl,_⟩,_,_,rfl,⟨b,rfl,_⟩,_,_,rfl,⟨c,rfl,_⟩,_,_,rfl,⟨d,e,rfl⟩,_,_,rfl,⟨f,g,rfl⟩,_,_,rfl,⟨i,rfl,hi⟩,_,_,rfl,⟨j,rfl,hj⟩,rfl⟩:=h
  have get:∀ k,k<j.length→W.I64 (j.getD k default).cycle∧W.I64 (j.getD k default).group∧W.I64 (j.getD k default).point:=fun k hk=>by
   have:=hj j[k] (List.getElem_mem hk)
   rw [List.getD_eq_getElem?_getD,List.getElem?_eq_getElem hk]
   exact this
  exact⟨⟨a,b,c,d,e,f,g,i,j⟩,rfl,hi,fun k hk=>⟨(get k hk).1,(get k hk).2.2⟩,fun k hk=>(get k hk).2.1⟩
end
theorem open_cts{H:Type}{enc:TypeId×Value→H}{w:World}{spare:Nat→Bool}{held:Bool}{r r' r'':Reach}{b0 b1 b2:Nat}{v0 v1 v2:Value}{d0 d1 d2:DataW H}{p0 p1 p2:List MemPlace}
  (k0:Value.okWide Tryz.prog w r b0 23 v0) (h0:DataW.Trod enc Tryz.prog w 0 spare held 23 v0 d0 p0)
  (k1:Value.okWide Tryz.prog w r' b1 27 v1) (h1:DataW.Trod enc Tryz.prog w 0 spare held 27 v1 d1 p1)
  (k2:Value.okWide Tryz.prog w r'' b2 33 v2) (h2:DataW.Trod enc Tryz.prog w 0 spare held 33 v2 d2 p2) :
  ∃ c t s,P1 (AllB w) w (confV c) v0∧P1 (AllB w) w (trkV t) v1∧P1 (AllB w) w (scrV s) v2∧ScrG s:=by
 obtain⟨_,⟨c,rfl⟩,q0⟩:=Opn.top (oConf (held:=held)) (lf:=[(2,0),(2,1),(2,2),(2,3),(2,4),(2,5),(2,6),(2,7),(2,8),(3,9),(2,10),(2,11),(3,12),(2,13)]) (by kernel_rfl) k0 h0
 obtain⟨_,⟨t,rfl⟩,q1⟩:=Opn.top (oTrk (held:=held)) (lf:=[(24,0),(25,1)]) (by kernel_rfl) k1 h1
 obtain⟨_,⟨s,rfl,hs⟩,q2⟩:=Opn.top (oScr (held:=held)) (lf:=[(28,0),(2,1),(2,2),(29,3),(29,5),(30,7),(31,8)]) (by kernel_rfl) k2 h2
 exact⟨c,t,s,q0,q1,q2,hs⟩
end Y
end
end Go.Proofs.YtllemifiammnnaaGreat
