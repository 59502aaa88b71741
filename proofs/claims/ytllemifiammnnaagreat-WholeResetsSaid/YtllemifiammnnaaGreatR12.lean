/- Part 12 of the proof. No condition. -/
import Derived.Deep.DeepCutAuto
import Derived.Deep.MidRow
import Derived.StillTail
import Derived.Test.YtllemifiammnnaaGreatR11
import Derived.Test.YtllemifiammnnaaGreatR08
import Derived.Test.YtllemifiammnnaaGreatR03
import Derived.Test.YtllemifiammnnaaGreatR00
import Derived.Test.YtllemifiammnnaaGreatR06
import Derived.Test.YtllemifiammnnaaGreatR05
import Derived.Test.YtllemifiammnnaaGreatR04
set_option linter.unusedVariables false
set_option linter.unusedSimpArgs false
set_option maxRecDepth 100000
set_option maxHeartbeats 4000000
namespace Go.Proofs.YtllemifiammnnaaGreat
namespace Y
open Go Go.RowKit Go.Sort
abbrev routesV(l:List (List Int)):AV:=.lst 1 l.length fun i=>[isV (l.getD i [])]
abbrev rpL(r:W.Report)(x:AV):List AV:=[I r.cycle,I r.mode,I r.group,I r.pos.lo,I r.pos.hi,I r.est,I r.speed.lo,I r.speed.hi,I r.nominal,I r.dist,x,I r.fit,.bool r.clean,.bool r.conflict,I r.slip0,I r.slip1,.bool r.accepted,.bool r.fault,.bool r.still,.bool r.roll,.bool r.over,I r.moved.lo,I r.moved.hi,I r.permitted,I r.circ0.lo,I r.circ0.hi,I r.circ1.lo,I r.circ1.hi,I r.bad,I r.stale,I r.twice,I r.beyond]
abbrev rpC(r:W.Report):List AV:=rpL r (routesV r.routes)
theorem FinAt.two{vs ars cs0 cs cs':List AV}{own:Ow}{post:AV→List OB→Prop}(I:List Nat)(hr:RvL own I vs ars)(hI:∀ i∈I,2≤i∧∃ o,nth own i=some o∧alive o=true)(h0:nth own 0=some (.blk cs0))(hok:okO 2 [.blk cs0]=true)(hb:nth own 1=some (.blk cs))(hc:RvL own I cs cs')(h:post (oneOr ars) [.blk cs0,.blk cs']):FinAt 2 vs own post :=
 ⟨I,ars,[.blk cs0,.blk cs'],h,hr,hI,rfl,fun j x hj=>by
  match j with
  |0=>simp only [nth,Option.some.injEq] at hj;subst hj;exact⟨_,h0,.inr ⟨rfl,hok⟩⟩
  |1=>simp only [nth,Option.some.injEq] at hj;subst hj;exact⟨_,hb,.inl ⟨cs,cs',rfl,rfl,hc⟩⟩
  |j+2=>simp [nth] at hj⟩
theorem apRows:Ap Tryz.prog 40 28 1:=⟨.slice none 0 0,24,by kernel_rfl,by kernel_rfl,rfl,by decide,by decide⟩
def told(n:W.Nav)(r:W.Report)(f:W.Fused):W.Report:={ r with fit:=f.fit,clean:=f.clean,conflict:=f.conflict,slip0:=f.slip0,slip1:=f.slip1,speed:=f.speed,nominal:=f.speed.mid,dist:=n.dist,still:=n.still.on,roll:=n.roll.on,moved:=n.roll.moved,circ0:=n.circ0,circ1:=n.circ1,mode:=n.watch.mode n.place.on f.fit f.conflict,permitted:=n.c.maxSpeed }
def told2(n:W.Nav)(r:W.Report)(f:W.Fused):W.Report:={ told n r f with group:=(n.t.grp n.place.group).id,pos:=n.place.pos,est:=n.place.est }
theorem tell_off{n:W.Nav}{r:W.Report}{f:W.Fused}(h:n.place.on=false):n.tell r f=told n r f:=by
 have e:∃ x,n.tell r f=if !n.place.on then told n r f else x:=⟨_,rfl⟩
 obtain⟨x,e⟩:=e
 rw [e,if_pos (by rw [h];rfl)]
theorem tell_yes{n:W.Nav}{r:W.Report}{f:W.Fused}(h:n.place.on=true)(pm:Int)(ov:Bool):({ n.tell r f with permitted:=pm,over:=ov }:W.Report)={ told2 n r f with routes:=n.place.set.list.map W.Rt.path,permitted:=pm,over:=ov }:=by
 have e:∃ q o,n.tell r f=if !n.place.on then told n r f else { told2 n r f with routes:=n.place.set.list.map W.Rt.path,permitted:=q,over:=o }:=⟨_,_,rfl⟩
 obtain⟨q,o,e⟩:=e
 rw [e,if_neg (by rw [h];simp)]
theorem routesV_map(l:List W.Rt):routesV (l.map W.Rt.path)=.lst 1 l.length fun i=>[isV (l.getD i ⟨0,[]⟩).path]:=by
 unfold routesV
 rw [List.length_map]
 congr 1
 funext i
 have:(l.map W.Rt.path).getD i []=(l.getD i ⟨0,[]⟩).path:=by
  by_cases h:i<l.length
  ·simp [List.getD,h]
  ·rw [List.getD_eq_getElem?_getD,List.getElem?_eq_none (by simpa using h),List.getD_eq_getElem?_getD,List.getElem?_eq_none (by omega)];rfl
 rw [this]
theorem navTell(n:W.Nav)(r:W.Report)(f:W.Fused)(hN:NavOk n)(hs:SpeedB n.c f.speed)(hr:r.routes=[]):RetO Tryz.prog 62 [.blk (navC n),.blk (rpL r .emp)] [.own 0 0,.own 1 0,.agg (fusedC f)] (fun v gs'=>v=.tup []∧∃ r',gs'=[.blk (navC n),.blk (rpC r')]∧TellR n r f r'):=by
 have hms:=hN.cf.maxSpeed
 have hbr:=hN.cf.brake
 have hs1:=hs.lo
 have hs2:=hs.hi
 have hs3:=hs.right
 have hmid:=spMid f.speed.lo f.speed.hi (by unfold W.I64;omega) (by unfold W.I64;omega)
 have hmo:=waMode n.watch.silent n.watch.strife n.watch.failed n.place.on f.fit f.conflict
 refine enterO tabOk (N:=209) (gs:=[_,_]) (args:=[_,_,_]) Tryz.func62 rfl rfl rfl (nLe rfl) (fun E hE=>?_)
 cases hon:n.place.on
 ·have hnot:(!n.place.on)=true:=by rw [hon];rfl
  conv=>whnf
  repeat' ((first|(refine Drw.len 24 14 rfl rfl ?_;refine Drw.held tabOk 5 2 [0,1,2,3,4,5,6,7,8,9,10,11,12,13] (.go 14 (.go 15 (.go 16 (.go 17 (.go 18 (.go 19 (.go 20 (.go 21 (.go 22 (.go 23 .done)))))))))) 10 rfl rfl rfl rfl (by kernel_rfl) ?_)|refine And.intro rfl ?_|(refine Drw.len 21 14 rfl rfl ?_;refine Drw.lateP tabOk [0,3,4,5,6,7,8,9,10,11,12,13] [1,2] [14,15,16,17,18,19,20] (by kernel_rfl) (by kernel_rfl) ?_)|(refine Drw.len 35 25 rfl rfl ?_;refine Drw.lateP tabOk [0,4,5,6,7,8,9,10,11,12,13,14,15,16,17,18,19,20,21,22,23,24] [1,2,3] [25,26,27,28,29,30,31,32,33,34] (by kernel_rfl) (by kernel_rfl) ?_)|(refine Drw.len 27 23 rfl rfl ?_;refine Drw.lateP tabOk [0,2,3,4,5,6,7,8,9,10,11,12,13,14,15,16,17,18,19,20,21,22] [1] [23,24,25,26] (by kernel_rfl) (by kernel_rfl) ?_)|refine Br.ot (by assumption) ?_|refine CallD.pu (hmid) rfl ?_|refine CallD.pu (hmo) rfl ?_);conv=>whnf)
  refine FinAt.two (ars:=[]) (cs':=rpC (told n r f)) [] RvL.nil (by simp) rfl rfl rfl ?_ ⟨rfl,told n r f,rfl,n.c.maxSpeed,r.over,?_⟩
  ·unfold rpC
   have e:(told n r f).routes=[]:=hr
   rw [e]
   repeat (first|exact RvL.nil|refine RvL.cons (Rv.pu rfl) ?_|refine RvL.cons Rv.emp ?_)
  ·rw [tell_off hon];rfl
 ·have hnot:(!n.place.on)=false:=by rw [hon];rfl
  have hp:=hN.pl hon
  have hg:=hp.grp
  have hsn:=hp.set.n
  have hplo:=hp.hi
  have hfr:=free_ n.t n.ends n.place.set n.place.pos.hi hN.tk.len hN.tk.nok.1 hp.set hN.en (by unfold W.I64;omega)
  conv=>whnf
  repeat' ((first|(refine Drw.len 24 14 rfl rfl ?_;refine Drw.held tabOk 5 2 [0,1,2,3,4,5,6,7,8,9,10,11,12,13] (.go 14 (.go 15 (.go 16 (.go 17 (.go 18 (.go 19 (.go 20 (.go 21 (.go 22 (.go 23 .done)))))))))) 10 rfl rfl rfl rfl (by kernel_rfl) ?_)|refine And.intro rfl ?_|(refine Drw.len 21 14 rfl rfl ?_;refine Drw.lateP tabOk [0,3,4,5,6,7,8,9,10,11,12,13] [1,2] [14,15,16,17,18,19,20] (by kernel_rfl) (by kernel_rfl) ?_)|(refine Drw.len 35 25 rfl rfl ?_;refine Drw.lateP tabOk [0,4,5,6,7,8,9,10,11,12,13,14,15,16,17,18,19,20,21,22,23,24] [1,2,3] [25,26,27,28,29,30,31,32,33,34] (by kernel_rfl) (by kernel_rfl) ?_)|(refine Drw.len 27 23 rfl rfl ?_;refine Drw.lateP tabOk [0,2,3,4,5,6,7,8,9,10,11,12,13,14,15,16,17,18,19,20,21,22] [1] [23,24,25,26] (by kernel_rfl) (by kernel_rfl) ?_)|(refine Drw.len 35 28 rfl rfl ?_;refine Drw.lateP tabOk [0,3,4,5,6,7,8,9,10,11,12,13,14,15,16,17,18,19,20,21,22,23,24,25,26,27] [1,2] [28,29,30,31,32,33,34] (by kernel_rfl) (by kernel_rfl) ?_)|refine Br.of (by assumption) ?_|refine CallD.pu (hmid) rfl ?_|refine CallD.pu (hmo) rfl ?_|refine Ob.mk (by omega) ?_|refine Ix.tn (by omega) ?_);conv=>whnf)
  refine LoopAt.empC 1 10 28 1 rfl rfl ?_
  refine LoopAt.rule tabOk [(0,_),(1,_),(5,_),(147,_),(148,_)] (fun (i:Nat×List (List AV))=>[(149,.int .i64 i.1)]) (fun (i:Nat×List (List AV))=>[.blk (navC n),.blk (rpL (told2 n r f) (.gro 3 i.1)),.blk (fusedC f),.buf 28 1 i.2]) (fun (i:Nat×List (List AV))=>i.1≤n.place.set.list.length∧i.2=(List.range i.1).map (fun j=>[isV (n.place.set.list.getD j ⟨0,[]⟩).path])) (fun (i:Nat×List (List AV))=>n.place.set.list.length-i.1) (0,[]) (by trivial) ⟨Nat.zero_le _,rfl⟩ (by trivial) (by trivial) (fun _=>⟨rfl,rfl,rfl,by simp [hE]⟩) (fun i hk=>?_)
  obtain⟨k,cs⟩:=i
  obtain⟨hk,hcs⟩:=hk
  dsimp only at hk hcs ⊢
  have hcl:cs.length=k:=by rw [hcs,List.length_map,List.length_range]
  by_cases hlt:k<n.place.set.list.length
  ·have hro:=hp.set.end_b hN.tk.len hlt
   conv=>whnf
   repeat' (first|((first|(refine Drw.len 12 11 rfl rfl ?_;refine Drw.held tabOk 7 4 [0,1,2,3,5] (.alt (.go 4 (.go 6 (.go 7 (.go 8 (.go 9 (.go 10 (.go 11 .done))))))) (.go 6 (.alt (.go 4 (.go 7 (.go 8 (.go 9 (.go 10 (.go 11 .done)))))) (.go 7 (.go 4 (.go 8 (.go 9 (.go 10 (.go 11 .done))))))))) 7 rfl rfl rfl rfl (by kernel_rfl) ?_)|refine And.intro rfl ?_|refine OpAt.appG apRows rfl [] rfl rfl rfl hcl (by simp) (Als.nil _) (by simp) (Xs.one rfl rfl rfl (RvL.pu rfl) rfl) (by decide) (by omega) ?_|refine Br.pt (by omega) ?_|refine CallS.q (path _ hro.len hro.lo hro.hi) rfl ?_|refine Ob.mk (by omega) ?_|refine Ob.mk (by unfold W.I64 at *;omega) ?_|refine Ix.nat _ ?_|refine BsN.mark ?_);conv=>whnf)|((refine Both.mk ?_ ?_)<;>conv=>whnf))
   all_goals
    refine⟨(k+1,cs++[[isV (n.place.set.list.getD k ⟨0,[]⟩).path]]),⟨by dsimp only;omega,?_⟩,by dsimp only;omega,(by trivial),(by trivial),(by trivial)⟩
    rw [List.range_succ,List.map_append,hcs]
    rfl
  ·obtain rfl:k=n.place.set.list.length:=by omega
   conv=>whnf
   repeat' ((first|refine Drw.lateP tabOk [0,1,2,3,4,5,6,7,8,9,10,11,12,13,14,15,16,17,18] [] [19,20,21,22,23,24] (by kernel_rfl) (by kernel_rfl) ?_|refine Br.pf (by omega) ?_);conv=>whnf)
   refine CallS.call (CallN.puP hfr rfl (fun v hv=>?_))
   obtain⟨q,b,rfl,hq⟩:=hv
   cases b
   ·conv=>whnf
    repeat' ((first|(refine Drw.len 12 11 rfl rfl ?_;refine Drw.lateP tabOk [0,1,2,3,4,5,6,7,8,9,10] [] [11] (by kernel_rfl) (by kernel_rfl) ?_)|refine Br.of rfl ?_);conv=>whnf)
    refine FinAt.two (ars:=[]) (cs':=rpC { told2 n r f with routes:=n.place.set.list.map W.Rt.path,permitted:=n.c.maxSpeed,over:=decide (n.c.maxSpeed<f.speed.hi) }) [3] RvL.nil (fun i hi=>by simp at hi;subst hi;exact⟨by omega,_,rfl,rfl⟩) rfl rfl rfl ?_ ⟨rfl,_,rfl,n.c.maxSpeed,decide (n.c.maxSpeed<f.speed.hi),(tell_yes hon _ _).symm⟩
    unfold rpC rpL
    rw [routesV_map]
    repeat (first|exact RvL.nil|refine RvL.cons (Rv.pu rfl) ?_|refine RvL.cons (Rv.gro (by simp) rfl hcl (fun j hj=>PLe.of (by rw [hcs];simp [List.getD,hj]))) ?_)
   ·conv=>whnf
    repeat' ((refine Br.ot rfl ?_);conv=>whnf)
    refine CallS.call (CallN.puP (permitted_ n.c q hq (by unfold W.I64;omega) (by unfold W.I64;omega)) rfl (fun v hv=>?_))
    obtain⟨pm,rfl,hpm⟩:=hv
    conv=>whnf
    repeat' (((refine Drw.len 12 11 rfl rfl ?_;refine Drw.lateP tabOk [0,1,2,3,4,5,6,7,8,9,10] [] [11] (by kernel_rfl) (by kernel_rfl) ?_));conv=>whnf)
    refine FinAt.two (ars:=[]) (cs':=rpC { told2 n r f with routes:=n.place.set.list.map W.Rt.path,permitted:=pm,over:=decide (pm<f.speed.hi) }) [3] RvL.nil (fun i hi=>by simp at hi;subst hi;exact⟨by omega,_,rfl,rfl⟩) rfl rfl rfl ?_ ⟨rfl,_,rfl,pm,decide (pm<f.speed.hi),(tell_yes hon _ _).symm⟩
    unfold rpC rpL
    rw [routesV_map]
    repeat (first|exact RvL.nil|refine RvL.cons (Rv.pu rfl) ?_|refine RvL.cons (Rv.gro (by simp) rfl hcl (fun j hj=>PLe.of (by rw [hcs];simp [List.getD,hj]))) ?_)
end Y
section
open Go.ChangeShapes Go.WideShapes Go.RowKit Go.Sort
def mv(H:Nat→Bool)(V:Nat→Int)(bad stale twice beyond:Int):Value :=
 .agg #[.bool (H 0),.bool (H 1),.bool (H 2),.bool (H 3),.bool (H 4),.bool (H 5),.int .i64 (V 0),.int .i64 (V 1),.int .i64 (V 2),.int .i64 (V 3),.int .i64 (V 4),.int .i64 (V 5),.int .i64 bad,.int .i64 stale,.int .i64 twice,.int .i64 beyond]
end
section
open Go.ChangeShapes Go.WideShapes Go.RowKit Go.Sort
def mcell(m:Ml.M)(i:Nat):Value :=
 if i<6 then .bool (m.has i) else if i<12 then .int .i64 (m.val (i-6)) else if i=12 then .int .i64 m.bad else if i=13 then .int .i64 m.stale else if i=14 then .int .i64 m.twice else .int .i64 m.beyond
structure MailAt(w:World)(g:Nat)(m:Ml.M):Prop where
 cell:∀ i,i<16→w.cell? ⟨g,i,none⟩=some (mcell m i)
 free:∀ i,i<16→w.frozen? ⟨g,i,none⟩=false
theorem MailAt.set{w:World}{g:Nat}{m m':Ml.M}(h:MailAt w g m)(k:Nat)(v:Value)(hv:mcell m' k=v)(ho:∀ i,i<16→i≠k→mcell m' i=mcell m i):MailAt (w.setCell ⟨g,k,none⟩ v) g m':=by
 refine⟨fun i hi=>?_,fun i hi=>?_⟩
 ·by_cases e:i=k
  ·subst e
   rw [hv]
   exact World.cell?_setCell_same' w _ v (by rw [h.cell i hi];rfl)
  ·rw [ho i hi e,← h.cell i hi]
   exact World.cell?_setCell_other _ _ _ _ (by simp [Ne.symm e])
 ·rw [← h.free i hi]
  simp
theorem MailAt.val{w:World}{g:Nat}{m:Ml.M}(h:MailAt w g m)(k:Nat)(hk:k<6)(n:Int):MailAt (w.setCell ⟨g,6+k,none⟩ (.int .i64 n)) g { m with val:=Ml.upd m.val k n }:=by
 refine h.set (6+k) _ ?_ (fun i hi hne=>?_)
 ·simp only [mcell];rw [if_neg (by omega),if_pos (by omega),show 6+k-6=k by omega];simp [Ml.upd]
 ·simp only [mcell,Ml.upd]
  repeat' split
  all_goals first|rfl|omega
end
section
open Go Go.RowKit
section
variable{P:Program}
end
end
section
open Go.ChangeShapes Go.WideShapes Go.RowKit Go.Sort
structure Rw where
 a:Option Addr
 l:List Nat
 c:Nat
def Rw.v(r:Rw):Value:=.slice r.a r.l.length r.c
def Rw.z:Rw:=⟨none,[],0⟩
structure RwOk(w:World)(r:Rw):Prop where
 rd:RdB w r.a r.l
 nil:r.a=none→r.c=0
 cap:r.l.length≤r.c
 top:r.c≤maxLen
structure RdR(w:World)(A:Option Addr)(rs:List Rw):Prop where
 ok:∀ r∈rs,RwOk w r
 at_:0<rs.length→∃ b off,A=some ⟨b,off,none⟩∧b<w.heap.size∧∀ i,i<rs.length→w.cell? ⟨b,off+i,none⟩=some (rs.getD i Rw.z).v
theorem RdR.get{w:World}{A:Option Addr}{rs:List Rw}(h:RdR w A rs)(i:Nat)(hi:i<rs.length):RwOk w (rs.getD i Rw.z):=by
 have e:rs.getD i Rw.z=rs[i]:=by simp [List.getD,hi]
 rw [e];exact h.ok _ (List.getElem_mem hi)
def Ml.M.v(m:Ml.M):Value:=mv m.has m.val m.bad m.stale m.twice m.beyond
def Ml.M.cells(m:Ml.M):List Value:=[.bool (m.has 0),.bool (m.has 1),.bool (m.has 2),.bool (m.has 3),.bool (m.has 4),.bool (m.has 5),.int .i64 (m.val 0),.int .i64 (m.val 1),.int .i64 (m.val 2),.int .i64 (m.val 3),.int .i64 (m.val 4),.int .i64 (m.val 5),.int .i64 m.bad,.int .i64 m.stale,.int .i64 m.twice,.int .i64 m.beyond]
theorem and_255(c:Int):bits .and .i64 c 255=c%256:=by
 show IntKind.i64.wrap ((BitVec.ofInt 64 c &&& BitVec.ofInt 64 255).toNat:Int)=_
 have e:(BitVec.ofInt 64 c &&& BitVec.ofInt 64 255).toNat=(c%256).toNat:=by
  rw [BitVec.toNat_and,BitVec.toNat_ofInt,show (BitVec.ofInt 64 255).toNat=2 ^ 8-1 from rfl,Nat.and_two_pow_sub_one_eq_mod]
  have h1:(0:Int)≤c%((2 ^ 64:Nat):Int):=Int.emod_nonneg _ (by decide)
  generalize h:c%((2 ^ 64:Nat):Int)=x at h1
  have h2:((2 ^ 64:Nat):Int)=18446744073709551616:=by decide
  rw [h2] at h
  omega
 rw [e]
 have h0:0≤c%256:=by omega
 have h1:c%256<256:=by omega
 rw [Int.toNat_of_nonneg h0]
 generalize c%256=y at h0 h1
 rw [IntKind.wrap_i64]
 omega
end
namespace Y
open Go Go.RowKit Go.Sort
theorem mailTake(m:Ml.M)(seq:Int)(l:List Nat)(hl:∀ x∈l,x<256)(hn:l.length≤1000000)(hb:m.bad≤1000∧m.stale≤1000∧m.twice≤1000):RetO Tryz.prog 88 [.blk (mlC m)] [.own 0 0,I seq,bytesV l] (fun v gs'=>v=.tup []∧gs'=[.blk (mlC (Ml.take seq m (Fr.get l)))]):=by
 have hg:=frGet l hl hn
 have hkr:=Ml.kind_range l hl
 obtain⟨g,hge⟩:∃ g,g=Fr.get l:=⟨_,rfl⟩
 rw [← hge] at hg hkr ⊢
 obtain⟨gk,gs,gv,ge⟩:=g
 dsimp only [gvA] at hkr hg
 have hb1:=hb.1
 have hb2:=hb.2.1
 have hb3:=hb.2.2
 unfold Ml.take
 dsimp only
 refine enterO tabOk (N:=64) (gs:=[_]) (args:=[_,_,_]) Tryz.func88 rfl rfl rfl (nLe rfl) (fun E hE=>?_)
 by_cases he:ge=0
 ·obtain⟨k1,k2⟩:=hkr he
  rw [if_neg (by simpa using he)]
  by_cases hs:gs=seq
  ·rw [if_neg (by simpa using hs)]
   obtain rfl|rfl|rfl|rfl|rfl:gk=1∨gk=2∨gk=3∨gk=4∨gk=5:=by omega
   ·cases hh:m.has 1
    ·rw [if_neg (by rw [show m.has (Int.toNat 1)=false from hh];simp)]
     conv=>whnf
     repeat' ((first|(refine Drw.len 16 11 rfl rfl ?_;refine Drw.held tabOk 6 1 [0,1,2,3,4,5,6,7,8,9,12,13] (.go 10 (.go 11 (.go 14 (.go 15 .done)))) 4 rfl rfl rfl rfl (by kernel_rfl) ?_)|refine And.intro rfl ?_|refine Br.of (by assumption) ?_|refine Br.nf (by assumption) ?_|refine CallS.q (hg) rfl ?_|refine Ob.mk (by omega) ?_|refine Drw.loose (by kernel_rfl) ?_|refine Ix.of 1 rfl ?_|refine Pc.lit ?_);conv=>whnf)
     refine FinAt.asis [] RvL.nil (by simp) (by show 1≤_;simp) rfl ⟨rfl,rfl⟩
    ·rw [if_pos (show m.has (Int.toNat 1)=true from hh)]
     conv=>whnf
     repeat' ((first|refine Br.ot (by assumption) ?_|refine Br.nf (by assumption) ?_|refine CallS.q (hg) rfl ?_|refine Ob.mk (by omega) ?_|refine Ob.mk (by unfold W.I64 at *;omega) ?_|refine Drw.loose (by kernel_rfl) ?_|refine Ix.of 1 rfl ?_|refine Pc.lit ?_);conv=>whnf)
     refine FinAt.asis [] RvL.nil (by simp) (by show 1≤_;simp) rfl ⟨rfl,rfl⟩
   ·cases hh:m.has 2
    ·rw [if_neg (by rw [show m.has (Int.toNat 2)=false from hh];simp)]
     conv=>whnf
     repeat' ((first|(refine Drw.len 16 11 rfl rfl ?_;refine Drw.held tabOk 6 1 [0,1,2,3,4,5,6,7,8,9,12,13] (.go 10 (.go 11 (.go 14 (.go 15 .done)))) 4 rfl rfl rfl rfl (by kernel_rfl) ?_)|refine And.intro rfl ?_|refine Br.of (by assumption) ?_|refine Br.nf (by assumption) ?_|refine CallS.q (hg) rfl ?_|refine Ob.mk (by simp only [Option.getD_some,Option.getD_none];omega) ?_|refine Drw.loose (by kernel_rfl) ?_|refine Ix.nat _ ?_|refine Pc.lit ?_);conv=>whnf)
     refine FinAt.asis [] RvL.nil (by simp) (by show 1≤_;simp) rfl ⟨rfl,rfl⟩
    ·rw [if_pos (show m.has (Int.toNat 2)=true from hh)]
     conv=>whnf
     repeat' ((first|refine Br.ot (by assumption) ?_|refine Br.nf (by assumption) ?_|refine CallS.q (hg) rfl ?_|refine Ob.mk (by unfold W.I64 at *;omega) ?_|refine Ob.mk (by simp only [Option.getD_some,Option.getD_none];omega) ?_|refine Drw.loose (by kernel_rfl) ?_|refine Ix.nat _ ?_|refine Pc.lit ?_);conv=>whnf)
     refine FinAt.asis [] RvL.nil (by simp) (by show 1≤_;simp) rfl ⟨rfl,rfl⟩
   ·cases hh:m.has 3
    ·rw [if_neg (by rw [show m.has (Int.toNat 3)=false from hh];simp)]
     conv=>whnf
     repeat' ((first|(refine Drw.len 16 11 rfl rfl ?_;refine Drw.held tabOk 6 1 [0,1,2,3,4,5,6,7,8,9,12,13] (.go 10 (.go 11 (.go 14 (.go 15 .done)))) 4 rfl rfl rfl rfl (by kernel_rfl) ?_)|refine And.intro rfl ?_|refine Br.of (by assumption) ?_|refine Br.nf (by assumption) ?_|refine CallS.q (hg) rfl ?_|refine Ob.mk (by simp only [Option.getD_some,Option.getD_none];omega) ?_|refine Drw.loose (by kernel_rfl) ?_|refine Ix.nat _ ?_|refine Pc.lit ?_);conv=>whnf)
     refine FinAt.asis [] RvL.nil (by simp) (by show 1≤_;simp) rfl ⟨rfl,rfl⟩
    ·rw [if_pos (show m.has (Int.toNat 3)=true from hh)]
     conv=>whnf
     repeat' ((first|refine Br.ot (by assumption) ?_|refine Br.nf (by assumption) ?_|refine CallS.q (hg) rfl ?_|refine Ob.mk (by unfold W.I64 at *;omega) ?_|refine Ob.mk (by simp only [Option.getD_some,Option.getD_none];omega) ?_|refine Drw.loose (by kernel_rfl) ?_|refine Ix.nat _ ?_|refine Pc.lit ?_);conv=>whnf)
     refine FinAt.asis [] RvL.nil (by simp) (by show 1≤_;simp) rfl ⟨rfl,rfl⟩
   ·cases hh:m.has 4
    ·rw [if_neg (by rw [show m.has (Int.toNat 4)=false from hh];simp)]
     conv=>whnf
     repeat' ((first|(refine Drw.len 16 11 rfl rfl ?_;refine Drw.held tabOk 6 1 [0,1,2,3,4,5,6,7,8,9,12,13] (.go 10 (.go 11 (.go 14 (.go 15 .done)))) 4 rfl rfl rfl rfl (by kernel_rfl) ?_)|refine And.intro rfl ?_|refine Br.of (by assumption) ?_|refine Br.nf (by assumption) ?_|refine CallS.q (hg) rfl ?_|refine Ob.mk (by simp only [Option.getD_some,Option.getD_none];omega) ?_|refine Drw.loose (by kernel_rfl) ?_|refine Ix.nat _ ?_|refine Pc.lit ?_);conv=>whnf)
     refine FinAt.asis [] RvL.nil (by simp) (by show 1≤_;simp) rfl ⟨rfl,rfl⟩
    ·rw [if_pos (show m.has (Int.toNat 4)=true from hh)]
     conv=>whnf
     repeat' ((first|refine Br.ot (by assumption) ?_|refine Br.nf (by assumption) ?_|refine CallS.q (hg) rfl ?_|refine Ob.mk (by unfold W.I64 at *;omega) ?_|refine Ob.mk (by simp only [Option.getD_some,Option.getD_none];omega) ?_|refine Drw.loose (by kernel_rfl) ?_|refine Ix.nat _ ?_|refine Pc.lit ?_);conv=>whnf)
     refine FinAt.asis [] RvL.nil (by simp) (by show 1≤_;simp) rfl ⟨rfl,rfl⟩
   ·cases hh:m.has 5
    ·rw [if_neg (by rw [show m.has (Int.toNat 5)=false from hh];simp)]
     conv=>whnf
     repeat' ((first|(refine Drw.len 16 11 rfl rfl ?_;refine Drw.held tabOk 6 1 [0,1,2,3,4,5,6,7,8,9,12,13] (.go 10 (.go 11 (.go 14 (.go 15 .done)))) 4 rfl rfl rfl rfl (by kernel_rfl) ?_)|refine And.intro rfl ?_|refine Br.of (by assumption) ?_|refine Br.nf (by assumption) ?_|refine CallS.q (hg) rfl ?_|refine Ob.mk (by simp only [Option.getD_some,Option.getD_none];omega) ?_|refine Drw.loose (by kernel_rfl) ?_|refine Ix.nat _ ?_|refine Pc.lit ?_);conv=>whnf)
     refine FinAt.asis [] RvL.nil (by simp) (by show 1≤_;simp) rfl ⟨rfl,rfl⟩
    ·rw [if_pos (show m.has (Int.toNat 5)=true from hh)]
     conv=>whnf
     repeat' ((first|refine Br.ot (by assumption) ?_|refine Br.nf (by assumption) ?_|refine CallS.q (hg) rfl ?_|refine Ob.mk (by unfold W.I64 at *;omega) ?_|refine Ob.mk (by simp only [Option.getD_some,Option.getD_none];omega) ?_|refine Drw.loose (by kernel_rfl) ?_|refine Ix.nat _ ?_|refine Pc.lit ?_);conv=>whnf)
     refine FinAt.asis [] RvL.nil (by simp) (by show 1≤_;simp) rfl ⟨rfl,rfl⟩
  ·rw [if_pos hs]
   conv=>whnf
   repeat' ((first|refine Br.nt (by assumption) ?_|refine Br.nf (by assumption) ?_|refine CallS.q (hg) rfl ?_|refine Ob.mk (by unfold W.I64 at *;omega) ?_);conv=>whnf)
   refine FinAt.asis [] RvL.nil (by simp) (by show 1≤_;simp) rfl ⟨rfl,rfl⟩
 ·rw [if_pos he]
  conv=>whnf
  repeat' ((first|refine Br.nt (by assumption) ?_|refine CallS.q (hg) rfl ?_|refine Ob.mk (by unfold W.I64 at *;omega) ?_);conv=>whnf)
  refine FinAt.asis [] RvL.nil (by simp) (by show 1≤_;simp) rfl ⟨rfl,rfl⟩
abbrev textsV(ls:List (List Nat)):AV:=.lst 1 ls.length fun i=>[bytesV (ls.getD i [])]
theorem QAt.and255{P:Program}{o:Oper}{tm:Tm}{own:Ow}{K:AV→Prop}{t t':TypeId}{x y:Operand}{p:Int}(hp:0≤p∧p≤9223372036854775807)(ho:o.op=.binOp .and t x y t')(hx:ev tm x fun v=>v=I p)(hy:ev tm y fun v=>v=I 255)(hK:K (I (p%256))):QAt P o tm own K:=by
 have e:bits .and .i64 p 255=p%256:=and_255 p
 rw [← e] at hK
 exact QAt.bin ho hx hy rfl rfl (r:=I (bits .and .i64 p 255)) rfl (fun w=>by
  simp only [val]
  rw [Sem.run_bind,guard_int]
  rfl) hK
theorem mailSort(cycle:Int)(ls:List (List Nat))(hc:0≤cycle∧cycle≤1000000)(hls:∀ l∈ls,(∀ x∈l,x<256)∧l.length≤1000000)(hn:ls.length≤1000000):Ret Tryz.prog 54 [I cycle,textsV ls] (·=.agg (mlC (Ml.sort cycle ls))):=by
 refine enterO tabOk (N:=31) (gs:=[]) (args:=[_,_]) Tryz.func54 rfl rfl rfl (nLe rfl) (fun E hE=>?_)
 have e1:(min (ls.length:Int) 32).toNat=min ls.length 32:=by omega
 have e2:((ls.length:Int)-min (ls.length:Int) 32)=((ls.length-32:Nat):Int):=by omega
 conv=>whnf
 repeat' ((first|refine Ob.mk (by unfold W.I64 at *;omega) ?_|refine Ob.mk (by simp only [Option.getD_some,Option.getD_none];omega) ?_|refine Ix.tn (by omega) ?_);conv=>whnf)
 rw [e2]
 refine LoopAt.rule tabOk [(0,_),(4,_),(6,_),(19,_),(20,_)] (fun (i:Nat)=>[(21,.int .i64 (i:Int))]) (fun (i:Nat)=>[.blk [.bool false,.bool false,.bool false,.bool false,.bool false,.bool false,I 0,I 0,I 0,I 0,I 0,I 0,I 0,I 0,I 0,I 0],.blk (mlC (Ml.takes (cycle%256) (Ml.none_ (ls.length-32)) (ls.take i)))]) (fun (i:Nat)=>i≤min ls.length 32) (fun (i:Nat)=>min ls.length 32-i) 0 (by trivial) (Nat.zero_le _) (by trivial) (by trivial) (fun _=>⟨rfl,rfl,rfl,by simp [hE]⟩) (fun i hk=>?_)
 have hk':i≤min ls.length 32:=hk
 have hlen:(List.take i ls).length=i:=by rw [List.length_take];omega
 have hle:=Ml.none_le (cycle%256) (ls.length-32) (ls.take i)
 rw [hlen] at hle
 by_cases hlt:i<min ls.length 32
 ·have hi:i<ls.length:=by omega
  have hx:=hls (ls.getD i []) (by simp [List.getD,hi])
  have hT:=mailTake (Ml.takes (cycle%256) (Ml.none_ (ls.length-32)) (ls.take i)) (cycle%256) (ls.getD i []) hx.1 hx.2 (by omega)
  have hs:Ml.take (cycle%256) (Ml.takes (cycle%256) (Ml.none_ (ls.length-32)) (ls.take i)) (Fr.get (ls.getD i []))=Ml.takes (cycle%256) (Ml.none_ (ls.length-32)) (ls.take (i+1)):=by
   rw [List.take_succ_eq_append_getElem hi,Ml.takes_snoc]
   simp [List.getD,hi]
  rw [hs] at hT
  have hb:(i:Int)<(((some (min (ls.length:Int) 32).toNat).getD ls.length-(none:Option Nat).getD 0:Nat):Int):=by show (i:Int)<(((min (ls.length:Int) 32).toNat-0:Nat):Int);omega
  conv=>whnf
  repeat' ((first|refine QAt.and255 (by omega) rfl rfl rfl ?_|refine CallS.call (CallN.updE [1] [] (RvJL.cons (RvJ.ownP rfl) (RvJL.pu rfl)) (Als.nil _) (by simp) (Giv.one rfl (by simp) (RcJ.pu rfl)) hT ?_)|refine Br.pt (by assumption) ?_|refine Ob.mk (by omega) ?_|refine Ob.mk (by unfold W.I64 at *;omega) ?_|refine Ix.nat _ ?_);conv=>whnf)
  exact⟨i+1,by omega,by omega,(by trivial),(by trivial),(by trivial)⟩
 ·obtain rfl:i=min ls.length 32:=by omega
  have hb:¬ ((min ls.length 32:Nat):Int)<(((some (min (ls.length:Int) 32).toNat).getD ls.length-(none:Option Nat).getD 0:Nat):Int):=by show ¬ ((min ls.length 32:Nat):Int)<(((min (ls.length:Int) 32).toNat-0:Nat):Int);omega
  conv=>whnf
  repeat' ((first|refine Br.pf (by assumption) ?_|refine FinAt.val rfl ?_);conv=>whnf)
  have e3:ls.take (min ls.length 32)=ls.take 32:=by
   by_cases h:ls.length≤32
   ·rw [Nat.min_eq_left h,List.take_length,List.take_of_length_le h]
   ·rw [Nat.min_eq_right (by omega)]
  rw [e3]
  rfl
abbrev navL(n:W.Nav)(x:AV):List AV:=[I n.c.pulses,I n.c.circLo,I n.c.circHi,I n.c.radBase,I n.c.radPart,I n.c.accErr,I n.c.maxSpeed,I n.c.maxAccel,I n.c.antenna,I n.c.still,I n.c.stillSpeed,I n.c.roll,I n.c.timeout,I n.c.brake,
 sgsV n.t.segs,gpsV n.t.grps,.bool n.broken,I n.cycle,I n.grades.lo,I n.grades.hi,isV n.ends,.bool n.k0.known,.int .u16 n.k0.last,I n.k0.sum,.bool n.k1.known,.int .u16 n.k1.last,I n.k1.sum,I n.circ0.lo,I n.circ0.hi,I n.circ1.lo,I n.circ1.hi,I n.speed.lo,I n.speed.hi,I n.dist,
 .bool n.place.on,I n.place.group,I n.place.pos.lo,I n.place.pos.hi,I n.place.est,I n.place.set.from_,x,.bool n.clean,I n.origin.lo,I n.origin.hi,I n.sum0,I n.sum1,I n.still.count,.bool n.still.on,.bool n.roll.anchored,.bool n.roll.on,I n.roll.moved.lo,I n.roll.moved.hi,I n.watch.silent,I n.watch.strife,.bool n.watch.failed]
structure ForA{α:Type}(p:α→Prop)(A:α→Prop):Prop where
 mk::out:∀ a,p a→A a
theorem CallN.updA{P:Program}{N:Nat}{E:En}{f:Nat}{vs xs:List AV}{dst:Option Nat}{K:Tm→Ow→Prop}{tm:Tm}{own:Ow}{α:Type}{R:α→AV}{G:α→List OB}{p:α→Prop}(J I:List Nat){gs:List OB}(hv:RvJL own J I vs xs)(hI:Als own I)(hg:∀ i∈I,E.gs.length≤i)(hJ:Giv own J I gs)(h:RetO P f gs xs fun v gs'=>∃ a,v=R a∧gs'=G a∧p a)
  (hK:ForA p fun a=>put N tm dst (R a) fun tm=>K tm (putJ J ((G a).map (rnO J)) (killI I own))):CallN P N E f vs dst K tm own :=
 CallN.upd J I hv hI hg hJ h fun r gs' ⟨a,h1,h2,h3⟩ _=>by subst h1;subst h2;exact hK.out a h3
theorem navL_rc{own:Ow}{J I:List Nat}(n:W.Nav)(h:n.place.set.list=[]):RcJ own J I (navL n .emp) (navC n):=by
 refine RcJ.of ?_
 have e:navC n=navL n (rtsV []):=by rw [← h]
 rw [e]
 unfold navL
 repeat (first|exact RvL.nil|refine RvL.cons (Rv.pu rfl) ?_|refine RvL.cons Rv.emp ?_)
theorem JoinLeaf{tmJ tm:Tm}{ownJ own:Ow}(h1:Sub tmJ tm)(h2:Pre ownJ own)(t:True):Exit.normal=.normal∧Sub tmJ tm∧Pre ownJ own:=⟨rfl,h1,h2⟩
theorem sensed_of{n:W.Nav}{m:Ml.M}{s:W.Nav}{f:W.Fused}(h:({ n with cycle:=n.cycle+1 }:W.Nav).sense m=(s,f)):sensed n m=({ s with clean:=s.clean&&f.clean },f):=by
 unfold sensed
 dsimp only
 rw [h]
theorem NavOk.sense1{n:W.Nav}{m:Ml.M}(h:NavOk n)(hc:n.cycle<100000):NavOk (({ n with cycle:=n.cycle+1 }:W.Nav).sense m).1:=by
 have h1:=(h.sensed (m:=m) hc).1
 exact { off:=h1.off,cf:=h1.cf,tk:=h1.tk,en:=h1.en,gr:=h1.gr,cy:=h1.cy,k0:=h1.k0,k1:=h1.k1,c0:=h1.c0,c1:=h1.c1,sp:=h1.sp,di:=h1.di,pl:=h1.pl,ori:=h1.ori,s0:=h1.s0,s1:=h1.s1,st:=h1.st,ro:=h1.ro,w0:=h1.w0,w1:=h1.w1 }
theorem MoveR.on{n n':W.Nav}{s:W.Sp}{over:Bool}(h:MoveR n s n' over)(ho:n'.place.on=true):n.place.on=true:=by
 obtain⟨l,_,rfl,_⟩:=h
 cases hon:n.place.on with
 |true=>rfl
 |false =>
  have:(if n.place.on then (n.place.move n.t s).1 else n.place).on=true:=ho
  rw [if_neg (by rw [hon];simp)] at this
  rw [hon] at this
  exact this
theorem LookR.at64{n:W.Nav}{m:Ml.M}{was:W.Place}{s:W.Sp}{x:W.Found}(h:LookR n m was s x)(hN:NavOk n):∀ y∈x.at_,W.I64 y:=by
 rcases h with ⟨_,rfl⟩|⟨_,_,rfl⟩|⟨h5,i,hf,h⟩
 ·intro y hy;cases hy
 ·intro y hy;cases hy
 ·rcases h with ⟨hon,l,hl,rfl⟩|⟨_,rfl⟩
  ·intro y hy
   rcases hl with ⟨_,_,hm⟩|⟨_,rfl⟩
   ·have hi:=(find_lt hf).1
    have hg:=(hN.tk.gr hi).1
    have hl2:=hN.tk.len (n.t.grps.getD i default).seg.toNat (by have:=hg.seg;omega)
    have e:n.t.len (n.t.grps.getD i default).seg=(n.t.segs.getD (n.t.grps.getD i default).seg.toNat default).length:=rfl
    have:=raw_b hN.tk.len (hN.pl hon).set.ok hg.offset.1 (by have:=hg.offset;omega) ((hm y).1 hy).1
    unfold W.I64;omega
   ·cases hy
  ·intro y hy;cases hy
theorem NavOk.watchedB{n:W.Nav}{f:W.Fused}{over acc:Bool}(h:NavOk n):NavOk { n with watch:=n.watch.next n.c f.fit f.conflict over acc }:=by
 have h1:=h.w0
 have h2:=h.w1
 have h3:=h.cf.timeout
 have hc:∀ (k:Int) (b:Bool),0≤k→0≤W.wcount k (n.c.timeout+1) b∧W.wcount k (n.c.timeout+1) b≤1001:=fun k b hk=>by unfold W.wcount;split<;>omega
 exact { off:=h.off,cf:=h.cf,tk:=h.tk,en:=h.en,gr:=h.gr,cy:=h.cy,k0:=h.k0,k1:=h.k1,c0:=h.c0,c1:=h.c1,sp:=h.sp,di:=h.di,pl:=h.pl,ori:=h.ori,s0:=h.s0,s1:=h.s1,st:=h.st,ro:=h.ro,w0:=hc _ _ h1.1,w1:=hc _ _ h2.1 }
def seqDrop:Nat→Code→Code
 |0,c=>c
 |k+1,.seq a b=>seqDrop k b
 |_+1,c=>c
noncomputable def stepCode:Code:=(Tryz.f32).body.getD .skip
def endN(n5:W.Nav)(f:W.Fused)(cmd:Bool):W.Nav:=rolled (if n5.watch.failed then { n5 with place:=W.Place.none } else n5) f cmd
theorem stepTailC(E:En)(hEg:E.gs.length=1)(n:W.Nav)(n5:W.Nav)(m:Ml.M)(f:W.Fused)(was:W.Place)(x:W.Found)(cmd:Bool)(hN:NavOk n5)(hs:SpeedB n5.c f.speed)(post:AV→List OB→Prop)(hpost:∀ r',TellR (endN n5 f cmd) (opened n m x) f r'→post (.agg (rpC r')) [.blk (navC (endN n5 f cmd))]) :
  WC tab Tryz.prog 158 E (seqDrop 13 stepCode) (endG tab [.cell 6 44] 1 post) [(0,AV.own 0 0),(2,AV.bool cmd),(6,AV.own 1 0),(7,AV.own 2 0),(8,AV.own 3 0),(9,AV.own 4 0),(12,AV.own 6 0)] [OB.blk (navC n5),OB.blk (rpL { W.Report.empty 0 with mode:=0 } .emp),OB.blk (rpL { W.Report.empty n.cycle with bad:=m.bad,stale:=m.stale,twice:=m.twice,beyond:=m.beyond } .emp),OB.blk (mlC m),OB.blk (fusedC f),OB.blk (plC was),OB.blk [I x.group,isV x.at_,.bool x.ok,.bool x.accepted]]:=by
 conv in seqDrop 13 stepCode=>whnf
 have hcf:=hN.cf
 have hms:=hcf.maxSpeed
 have h1:=hs.lo
 have h2:=hs.hi
 have h3:=hs.right
 have hstl:=stNext n5.still.count n5.still.on n5.c f.speed.lo f.speed.hi f.fit (by have:=hcf.stillSpeed;have:=hcf.radBase;omega) hcf.stillSpeed.2 hN.st.1 (by have:=hN.st;omega) (by have:=hcf.still;omega) (by have:=hcf.still;omega)
 have hrol:=roNext n5.roll.anchored n5.roll.on n5.roll.moved.lo n5.roll.moved.hi n5.c (n5.still.next n5.c f.speed f.fit).on cmd f.speed.lo f.speed.hi hcf.roll.1 hcf.roll.2 hN.ro.1 hN.ro.2 (by unfold W.I64;omega) (by unfold W.I64;omega)
 cases hfl:n5.watch.failed
 ·have hE:endN n5 f cmd=({ n5 with still:=n5.still.next n5.c f.speed f.fit,roll:=n5.roll.next n5.c (n5.still.next n5.c f.speed f.fit).on cmd f.speed }:W.Nav):=by
   unfold endN
   rw [hfl];(try rfl)
  have hNE:NavOk ({ n5 with still:=n5.still.next n5.c f.speed f.fit,roll:=n5.roll.next n5.c (n5.still.next n5.c f.speed f.fit).on cmd f.speed }:W.Nav):=by
   rw [← hE]
   unfold endN
   rw [hfl]
   exact NavOk.rolled (n:=n5) (f:=f) (cmd:=cmd) (hN)
  rw [hE] at hpost
  have htl:=(navTell ({ n5 with still:=n5.still.next n5.c f.speed f.fit,roll:=n5.roll.next n5.c (n5.still.next n5.c f.speed f.fit).on cmd f.speed }:W.Nav) (opened n m x) f hNE hs rfl).imp (fun v gs ⟨h1,a,h2,h3⟩=>(⟨a,h1,h2,h3⟩:∃ a:W.Report,v=AV.tup []∧gs=[OB.blk (navC ({ n5 with still:=n5.still.next n5.c f.speed f.fit,roll:=n5.roll.next n5.c (n5.still.next n5.c f.speed f.fit).on cmd f.speed }:W.Nav)),OB.blk (rpC a)]∧TellR ({ n5 with still:=n5.still.next n5.c f.speed f.fit,roll:=n5.roll.next n5.c (n5.still.next n5.c f.speed f.fit).on cmd f.speed }:W.Nav) (opened n m x) f a))
  conv=>whnf
  repeat' (first|((first|(refine Drw.len 17 16 rfl rfl ?_;refine Drw.lateP tabOk [0,1,2,3,4,5,6,7,8,9,10,11,12,13,14,15] [] [16] (by kernel_rfl) (by kernel_rfl) ?_)|(refine Drw.len 21 20 rfl rfl ?_;refine Drw.lateP tabOk [0,1,2,3,4,5,6,7,8,9,10,11,12,13,14,15,16,17,18,19] [] [20] (by kernel_rfl) (by kernel_rfl) ?_)|(refine Drw.len 9 6 rfl rfl ?_;refine Drw.join tabOk [(0,.own 0 0),(6,.own 1 0),(7,.own 2 0),(9,.own 4 0)] [OB.blk (navC ({ n5 with still:=n5.still.next n5.c f.speed f.fit,roll:=n5.roll.next n5.c (n5.still.next n5.c f.speed f.fit).on cmd f.speed }:W.Nav)),OB.blk (rpL { W.Report.empty 0 with mode:=0 } .emp),OB.blk (rpL (opened n m x) .emp),OB.blk (mlC m),OB.blk (fusedC f)] rfl rfl (by rw [hEg];simp) (Drw.held tabOk 8 3 [0,2] (.alt (.go 1 (.alt (.go 3 (.alt (.go 4 (.go 5 (.go 6 (.go 7 (.go 8 .done))))) (.go 5 (.alt (.go 4 (.go 6 (.go 7 (.go 8 .done)))) (.go 6 (.go 4 (.go 7 (.go 8 .done)))))))) (.go 5 (.alt (.go 3 (.alt (.go 4 (.go 6 (.go 7 (.go 8 .done)))) (.go 6 (.go 4 (.go 7 (.go 8 .done)))))) (.go 6 (.go 3 (.go 4 (.go 7 (.go 8 .done))))))))) (.go 3 (.alt (.go 1 (.alt (.go 4 (.go 5 (.go 6 (.go 7 (.go 8 .done))))) (.go 5 (.alt (.go 4 (.go 6 (.go 7 (.go 8 .done)))) (.go 6 (.go 4 (.go 7 (.go 8 .done)))))))) (.go 4 (.go 1 (.go 5 (.go 6 (.go 7 (.go 8 .done))))))))) 7 rfl rfl rfl rfl (by kernel_rfl) ?_) ?_)|refine JoinLeaf (by repeat (first|exact trivial|refine And.intro rfl ?_)) (by repeat (first|exact trivial|refine And.intro rfl ?_)) ?_|refine And.intro rfl ?_|refine CallS.call (CallN.updA (α:=W.Report) (R:=fun _=>AV.tup []) (G:=fun a=>[OB.blk (navC ({ n5 with still:=n5.still.next n5.c f.speed f.fit,roll:=n5.roll.next n5.c (n5.still.next n5.c f.speed f.fit).on cmd f.speed }:W.Nav)),OB.blk (rpC a)]) (p:=fun a=>TellR ({ n5 with still:=n5.still.next n5.c f.speed f.fit,roll:=n5.roll.next n5.c (n5.still.next n5.c f.speed f.fit).on cmd f.speed }:W.Nav) (opened n m x) f a) [0,2] [] (RvJL.cons (RvJ.ownP rfl) (RvJL.cons (RvJ.ownP rfl) (RvJL.pu rfl))) (Als.nil _) (by simp) ⟨rfl,by decide,by simp,Giv.consB rfl (RcJ.pu rfl) (Giv.consB rfl (RcJ.pu rfl) Giv.done)⟩ htl ?_)|refine ForA.mk (fun r' hr'=>?_)|refine Br.of (by assumption) ?_|refine CallD.pu (hstl) rfl ?_|refine CallD.pu (hrol) rfl ?_);conv=>whnf)|((refine Both.mk ?_ ?_)<;>conv=>whnf))
  all_goals (try exact trivial)
  all_goals
   exact FinAt.asis [] (RvL.pu rfl) (by simp) (by show 1≤_;simp) rfl (hpost r' hr')
 ·have hE:endN n5 f cmd=({ n5 with place:=W.Place.none,still:=n5.still.next n5.c f.speed f.fit,roll:=n5.roll.next n5.c (n5.still.next n5.c f.speed f.fit).on cmd f.speed }:W.Nav):=by
   unfold endN
   rw [hfl];(try rfl)
  have hNE:NavOk ({ n5 with place:=W.Place.none,still:=n5.still.next n5.c f.speed f.fit,roll:=n5.roll.next n5.c (n5.still.next n5.c f.speed f.fit).on cmd f.speed }:W.Nav):=by
   rw [← hE]
   unfold endN
   rw [hfl]
   exact NavOk.rolled (n:={ n5 with place:=W.Place.none }) (f:=f) (cmd:=cmd) ({ off:=hN.off,cf:=hN.cf,tk:=hN.tk,en:=hN.en,gr:=hN.gr,cy:=hN.cy,k0:=hN.k0,k1:=hN.k1,c0:=hN.c0,c1:=hN.c1,sp:=hN.sp,di:=hN.di,pl:=(fun h=>by cases h),ori:=hN.ori,s0:=hN.s0,s1:=hN.s1,st:=hN.st,ro:=hN.ro,w0:=hN.w0,w1:=hN.w1 })
  rw [hE] at hpost
  have htl:=(navTell ({ n5 with place:=W.Place.none,still:=n5.still.next n5.c f.speed f.fit,roll:=n5.roll.next n5.c (n5.still.next n5.c f.speed f.fit).on cmd f.speed }:W.Nav) (opened n m x) f hNE hs rfl).imp (fun v gs ⟨h1,a,h2,h3⟩=>(⟨a,h1,h2,h3⟩:∃ a:W.Report,v=AV.tup []∧gs=[OB.blk (navC ({ n5 with place:=W.Place.none,still:=n5.still.next n5.c f.speed f.fit,roll:=n5.roll.next n5.c (n5.still.next n5.c f.speed f.fit).on cmd f.speed }:W.Nav)),OB.blk (rpC a)]∧TellR ({ n5 with place:=W.Place.none,still:=n5.still.next n5.c f.speed f.fit,roll:=n5.roll.next n5.c (n5.still.next n5.c f.speed f.fit).on cmd f.speed }:W.Nav) (opened n m x) f a))
  conv=>whnf
  repeat' (first|((first|(refine Drw.len 17 16 rfl rfl ?_;refine Drw.lateP tabOk [0,1,2,3,4,5,6,7,8,9,10,11,12,13,14,15] [] [16] (by kernel_rfl) (by kernel_rfl) ?_)|(refine Drw.len 21 20 rfl rfl ?_;refine Drw.lateP tabOk [0,1,2,3,4,5,6,7,8,9,10,11,12,13,14,15,16,17,18,19] [] [20] (by kernel_rfl) (by kernel_rfl) ?_)|(refine Drw.len 9 6 rfl rfl ?_;refine Drw.join tabOk [(0,.own 0 0),(6,.own 1 0),(7,.own 2 0),(9,.own 4 0)] [OB.blk (navL ({ n5 with place:=W.Place.none,still:=n5.still.next n5.c f.speed f.fit,roll:=n5.roll.next n5.c (n5.still.next n5.c f.speed f.fit).on cmd f.speed }:W.Nav) .emp),OB.blk (rpL { W.Report.empty 0 with mode:=0 } .emp),OB.blk (rpL (opened n m x) .emp),OB.blk (mlC m),OB.blk (fusedC f)] rfl rfl (by rw [hEg];simp) (Drw.held tabOk 8 3 [0,2] (.alt (.go 1 (.alt (.go 3 (.alt (.go 4 (.go 5 (.go 6 (.go 7 (.go 8 .done))))) (.go 5 (.alt (.go 4 (.go 6 (.go 7 (.go 8 .done)))) (.go 6 (.go 4 (.go 7 (.go 8 .done)))))))) (.go 5 (.alt (.go 3 (.alt (.go 4 (.go 6 (.go 7 (.go 8 .done)))) (.go 6 (.go 4 (.go 7 (.go 8 .done)))))) (.go 6 (.go 3 (.go 4 (.go 7 (.go 8 .done))))))))) (.go 3 (.alt (.go 1 (.alt (.go 4 (.go 5 (.go 6 (.go 7 (.go 8 .done))))) (.go 5 (.alt (.go 4 (.go 6 (.go 7 (.go 8 .done)))) (.go 6 (.go 4 (.go 7 (.go 8 .done)))))))) (.go 4 (.go 1 (.go 5 (.go 6 (.go 7 (.go 8 .done))))))))) 7 rfl rfl rfl rfl (by kernel_rfl) ?_) ?_)|refine JoinLeaf (by repeat (first|exact trivial|refine And.intro rfl ?_)) (by repeat (first|exact trivial|refine And.intro rfl ?_)) ?_|refine And.intro rfl ?_|refine CallS.call (CallN.updA (α:=W.Report) (R:=fun _=>AV.tup []) (G:=fun a=>[OB.blk (navC ({ n5 with place:=W.Place.none,still:=n5.still.next n5.c f.speed f.fit,roll:=n5.roll.next n5.c (n5.still.next n5.c f.speed f.fit).on cmd f.speed }:W.Nav)),OB.blk (rpC a)]) (p:=fun a=>TellR ({ n5 with place:=W.Place.none,still:=n5.still.next n5.c f.speed f.fit,roll:=n5.roll.next n5.c (n5.still.next n5.c f.speed f.fit).on cmd f.speed }:W.Nav) (opened n m x) f a) [0,2] [] (RvJL.cons (RvJ.ownP rfl) (RvJL.cons (RvJ.ownP rfl) (RvJL.pu rfl))) (Als.nil _) (by simp) ⟨rfl,by decide,by simp,Giv.consB rfl (navL_rc ({ n5 with place:=W.Place.none,still:=n5.still.next n5.c f.speed f.fit,roll:=n5.roll.next n5.c (n5.still.next n5.c f.speed f.fit).on cmd f.speed }:W.Nav) rfl) (Giv.consB rfl (RcJ.pu rfl) Giv.done)⟩ htl ?_)|refine ForA.mk (fun r' hr'=>?_)|refine Br.ot (by assumption) ?_|refine CallD.pu (hstl) rfl ?_|refine CallD.pu (hrol) rfl ?_);conv=>whnf)|((refine Both.mk ?_ ?_)<;>conv=>whnf))
  all_goals (try exact trivial)
  all_goals
   exact FinAt.asis [] (RvL.pu rfl) (by simp) (by show 1≤_;simp) rfl (hpost r' hr')
theorem navStep(n:W.Nav)(ls:List (List Nat))(cmd:Bool)(hN:NavOk n)(hcy:n.cycle<100000)(hls:∀ l∈ls,(∀ x∈l,x<256)∧l.length≤1000000)(hn:ls.length≤1000000) :
  RetO Tryz.prog 32 [.blk (navC n)] [.own 0 0,textsV ls,.bool cmd] (fun v gs'=>∃ n' r,v=.agg (rpC r)∧gs'=[.blk (navC n')]∧StepR n (Ml.sort n.cycle ls) cmd n' r):=by
 have hc0:=hN.cy
 have hoff:=hN.off
 have hS:=mailSort n.cycle ls ⟨hc0.1,by omega⟩ hls hn
 have hfit:=Ml.sort_fit n.cycle ls (fun l hl=>(hls l hl).1)
 obtain⟨m,hm⟩:∃ m,m=Ml.sort n.cycle ls:=⟨_,rfl⟩
 rw [← hm] at hS hfit ⊢
 have hN1:=hN.sense1 (m:=m) hcy
 have hsp1:SpeedB n.c (({ n with cycle:=n.cycle+1 }:W.Nav).sense m).2.speed:=(hN.sensed (m:=m) hcy).2
 have hsn:=sense_ { n with cycle:=n.cycle+1 } m (hN.k0.ok hc0) (hN.k1.ok hc0) hN1 hfit
 obtain⟨s,f,hsf⟩:∃ s f,({ n with cycle:=n.cycle+1 }:W.Nav).sense m=(s,f):=⟨_,_,rfl⟩
 rw [hsf] at hN1 hsp1 hsn
 have hsd:=sensed_of hsf
 have hsc:s.c=n.c∧s.dist=n.dist∧s.cycle=n.cycle+1∧s.place=n.place:=by
  have:s=(({ n with cycle:=n.cycle+1 }:W.Nav).sense m).1:=by rw [hsf]
  rw [this]
  exact⟨rfl,rfl,rfl,rfl⟩
 dsimp only at hN1 hsp1 hsn
 refine enterO tabOk (N:=158) (gs:=[_]) (args:=[_,_,_]) Tryz.func32 rfl rfl rfl (nLe rfl) (fun E hE=>?_)
 have hr0:(W.Report.empty n.cycle).routes=[]:=rfl
 have hEg:=hE
 cases hcl:s.clean
 ·have hsd2:sensed n m=(({ s with clean:=false }:W.Nav),f):=by rw [hsd,hcl];(try rfl)
  have hN2:NavOk ({ s with clean:=false }:W.Nav):=by have:=(hN.sensed (m:=m) hcy).1;rw [hsd2] at this;exact this
  conv=>whnf
  repeat' ((first|(refine Drw.len 16 9 rfl rfl ?_;refine Drw.held tabOk 8 3 [0,1,2,3,4,5,6,7,8] (.go 9 (.go 10 (.go 11 (.go 12 (.go 13 (.go 14 (.go 15 .done))))))) 7 rfl rfl rfl rfl (by kernel_rfl) ?_)|refine And.intro rfl ?_|refine CallS.call (CallN.updE [0] [] (RvJL.cons (RvJ.ownP rfl) (RvJL.pu rfl)) (Als.nil _) (by simp) (Giv.one rfl (by simp) (RcJ.pu rfl)) (hsn) ?_)|refine Br.of (by assumption) ?_|refine CallS.q (hS) rfl ?_|refine Ob.mk (by unfold W.I64 at *;omega) ?_);conv=>whnf)
  refine CallS.call (CallN.updA (α:=W.Nav×Bool) (R:=fun a=>.bool a.2) (G:=fun a=>[.blk (navC a.1)]) (p:=fun a=>MoveR ({ s with clean:=false }:W.Nav) f.speed a.1 a.2) [0] [] (RvJL.cons (RvJ.ownP rfl) (RvJL.pu rfl)) (Als.nil _) (by simp) (Giv.one rfl (by simp) (RcJ.pu rfl)) ((navMove ({ s with clean:=false }:W.Nav) f.speed hN2 (hsc.1 ▸ hsp1)).imp (fun v gs ⟨a,b,h1,h2,h3⟩=>⟨(a,b),h1,h2,h3⟩)) (ForA.mk (fun a ha=>?_)))
  obtain⟨n3,over⟩:=a
  dsimp only at ha
  have hN3:=hN2.moved (by show s.dist≤16777216*(s.cycle-1);rw [hsc.2.1,hsc.2.2.1];have:=hN.di;omega) (hsc.1 ▸ hsp1) ha
  have hw3:n3.place.on=true→W.I64 s.place.pos.lo∧W.I64 s.place.pos.hi:=fun ho=>by
   have:=hN2.pl (ha.on ho)
   have h1:=this.lo
   have h2:=this.hi
   dsimp only at h1 h2
   unfold W.I64;omega
  have hc3:n3.c=n.c:=by obtain⟨l,_,rfl,_⟩:=ha;exact hsc.1
  have hs3:SpeedB n3.c f.speed:=by rw [hc3];exact hsp1
  conv=>whnf
  refine CallS.call (CallN.updA (α:=W.Found) (R:=fun a=>foundV a) (G:=fun _=>[.blk (navC n3)]) (p:=fun a=>LookR n3 m s.place f.speed a) [0] [] (RvJL.cons (RvJ.ownP rfl) (RvJL.pu rfl)) (Als.nil _) (by simp) (Giv.one rfl (by simp) (RcJ.pu rfl)) (navLook n3 m s.place f.speed hN3 hs3 hw3 hfit) (ForA.mk (fun x hk=>?_)))
  have hat:=hk.at64 hN3
  have hN4:=hN3.accepted hk hs3
  cases hacc:x.accepted
  ·have e4:Y.accepted n3 x f=n3:=by unfold Y.accepted;rw [hacc];(try rfl)
   rw [e4] at hN4
   have hc4:n3.c=n3.c:=by first|rfl|(rw [← e4];exact(accepted_c n3 x f).1)
   have hs4:SpeedB n3.c f.speed:=by rw [hc4];exact hs3
   have hcf:=hN4.cf
   have hwa:=waNext n3.watch.silent n3.watch.strife n3.watch.failed n3.c f.fit f.conflict over x.accepted hN4.w0.1 hN4.w0.2 hN4.w1.1 hN4.w1.2 (by have:=hcf.timeout;omega) hcf.timeout.2
   have hN5:NavOk ({ n3 with watch:=n3.watch.next n3.c f.fit f.conflict over x.accepted }:W.Nav):=hN4.watchedB
   have htail:=stepTailC E hE n ({ n3 with watch:=n3.watch.next n3.c f.fit f.conflict over x.accepted }:W.Nav) m f s.place x cmd hN5 hs4 (fun v gs'=>∃ n' r,v=.agg (rpC r)∧gs'=[.blk (navC n')]∧StepR n m cmd n' r) (fun r' hr'=>⟨endN ({ n3 with watch:=n3.watch.next n3.c f.fit f.conflict over x.accepted }:W.Nav) f cmd,r',rfl,rfl,n3,over,x,by rw [hsd2];exact ha,by rw [hsd2];exact hk,by rw [hsd2,e4];rfl,by rw [hsd2];exact hr'⟩)
   conv=>whnf
   repeat' ((first|refine JoinLeaf (by repeat (first|exact trivial|refine And.intro rfl ?_)) (by repeat (first|exact trivial|refine And.intro rfl ?_)) ?_|(refine Drw.len 20 19 rfl rfl ?_;refine Drw.join tabOk [(0,AV.own 0 0),(2,AV.bool cmd),(6,AV.own 1 0),(7,AV.own 2 0),(8,AV.own 3 0),(9,AV.own 4 0),(12,AV.own 6 0)] [OB.blk (navC ({ n3 with watch:=n3.watch.next n3.c f.fit f.conflict over x.accepted }:W.Nav)),OB.blk (rpL { W.Report.empty 0 with mode:=0 } .emp),OB.blk (rpL { W.Report.empty n.cycle with bad:=m.bad,stale:=m.stale,twice:=m.twice,beyond:=m.beyond } .emp),OB.blk (mlC m),OB.blk (fusedC f),OB.blk (plC s.place),OB.blk [I x.group,isV x.at_,.bool x.ok,.bool x.accepted]] rfl rfl (by rw [hEg];simp) (Drw.lateP tabOk [0,1,2,3,4,5,6,7,8,9,10,11,12,13,14,15,16,17,18] [] [19] (by kernel_rfl) (by kernel_rfl) ?_) htail)|refine Br.of (by assumption) ?_|refine CallD.pu (hwa) rfl ?_);conv=>whnf)
   all_goals exact trivial
  ·have e4:Y.accepted n3 x f=(n3.accept x f.speed):=by unfold Y.accepted;rw [hacc];(try rfl)
   rw [e4] at hN4
   have hc4:(n3.accept x f.speed).c=n3.c:=by first|rfl|(rw [← e4];exact(accepted_c n3 x f).1)
   obtain⟨i,hxg,hi,_,_⟩:=hk.grp hacc
   have hAC:=navAccept n3 x f.speed i hN3 hs3 hxg hi hat
   obtain⟨n4,hn4⟩:∃ n4,n4=n3.accept x f.speed:=⟨_,rfl⟩
   rw [← hn4] at hN4 hc4 e4 hAC
   have hs4:SpeedB n4.c f.speed:=by rw [hc4];exact hs3
   have hcf:=hN4.cf
   have hwa:=waNext n4.watch.silent n4.watch.strife n4.watch.failed n4.c f.fit f.conflict over x.accepted hN4.w0.1 hN4.w0.2 hN4.w1.1 hN4.w1.2 (by have:=hcf.timeout;omega) hcf.timeout.2
   have hN5:NavOk ({ n4 with watch:=n4.watch.next n4.c f.fit f.conflict over x.accepted }:W.Nav):=hN4.watchedB
   have htail:=stepTailC E hE n ({ n4 with watch:=n4.watch.next n4.c f.fit f.conflict over x.accepted }:W.Nav) m f s.place x cmd hN5 hs4 (fun v gs'=>∃ n' r,v=.agg (rpC r)∧gs'=[.blk (navC n')]∧StepR n m cmd n' r) (fun r' hr'=>⟨endN ({ n4 with watch:=n4.watch.next n4.c f.fit f.conflict over x.accepted }:W.Nav) f cmd,r',rfl,rfl,n3,over,x,by rw [hsd2];exact ha,by rw [hsd2];exact hk,by rw [hsd2,e4];rfl,by rw [hsd2];exact hr'⟩)
   conv=>whnf
   repeat' ((first|refine CallS.call (CallN.updE [0] [] (RvJL.cons (RvJ.ownP rfl) (RvJL.pu rfl)) (Als.nil _) (by simp) (Giv.one rfl (by simp) (RcJ.pu rfl)) (hAC) ?_)|refine JoinLeaf (by repeat (first|exact trivial|refine And.intro rfl ?_)) (by repeat (first|exact trivial|refine And.intro rfl ?_)) ?_|(refine Drw.len 20 19 rfl rfl ?_;refine Drw.join tabOk [(0,AV.own 0 0),(2,AV.bool cmd),(6,AV.own 1 0),(7,AV.own 2 0),(8,AV.own 3 0),(9,AV.own 4 0),(12,AV.own 6 0)] [OB.blk (navC ({ n4 with watch:=n4.watch.next n4.c f.fit f.conflict over x.accepted }:W.Nav)),OB.blk (rpL { W.Report.empty 0 with mode:=0 } .emp),OB.blk (rpL { W.Report.empty n.cycle with bad:=m.bad,stale:=m.stale,twice:=m.twice,beyond:=m.beyond } .emp),OB.blk (mlC m),OB.blk (fusedC f),OB.blk (plC s.place),OB.blk [I x.group,isV x.at_,.bool x.ok,.bool x.accepted]] rfl rfl (by rw [hEg];simp) (Drw.lateP tabOk [0,1,2,3,4,5,6,7,8,9,10,11,12,13,14,15,16,17,18] [] [19] (by kernel_rfl) (by kernel_rfl) ?_) htail)|refine Br.ot (by assumption) ?_|refine CallD.pu (hwa) rfl ?_);conv=>whnf)
   all_goals exact trivial
 ·have hsd2:sensed n m=(({ s with clean:=f.clean }:W.Nav),f):=by rw [hsd,hcl];(try rfl)
  have hN2:NavOk ({ s with clean:=f.clean }:W.Nav):=by have:=(hN.sensed (m:=m) hcy).1;rw [hsd2] at this;exact this
  conv=>whnf
  repeat' ((first|(refine Drw.len 16 9 rfl rfl ?_;refine Drw.held tabOk 8 3 [0,1,2,3,4,5,6,7,8] (.go 9 (.go 10 (.go 11 (.go 12 (.go 13 (.go 14 (.go 15 .done))))))) 7 rfl rfl rfl rfl (by kernel_rfl) ?_)|refine And.intro rfl ?_|refine CallS.call (CallN.updE [0] [] (RvJL.cons (RvJ.ownP rfl) (RvJL.pu rfl)) (Als.nil _) (by simp) (Giv.one rfl (by simp) (RcJ.pu rfl)) (hsn) ?_)|refine Br.ot (by assumption) ?_|refine Br.of (by assumption) ?_|refine CallS.q (hS) rfl ?_|refine Ob.mk (by unfold W.I64 at *;omega) ?_);conv=>whnf)
  refine CallS.call (CallN.updA (α:=W.Nav×Bool) (R:=fun a=>.bool a.2) (G:=fun a=>[.blk (navC a.1)]) (p:=fun a=>MoveR ({ s with clean:=f.clean }:W.Nav) f.speed a.1 a.2) [0] [] (RvJL.cons (RvJ.ownP rfl) (RvJL.pu rfl)) (Als.nil _) (by simp) (Giv.one rfl (by simp) (RcJ.pu rfl)) ((navMove ({ s with clean:=f.clean }:W.Nav) f.speed hN2 (hsc.1 ▸ hsp1)).imp (fun v gs ⟨a,b,h1,h2,h3⟩=>⟨(a,b),h1,h2,h3⟩)) (ForA.mk (fun a ha=>?_)))
  obtain⟨n3,over⟩:=a
  dsimp only at ha
  have hN3:=hN2.moved (by show s.dist≤16777216*(s.cycle-1);rw [hsc.2.1,hsc.2.2.1];have:=hN.di;omega) (hsc.1 ▸ hsp1) ha
  have hw3:n3.place.on=true→W.I64 s.place.pos.lo∧W.I64 s.place.pos.hi:=fun ho=>by
   have:=hN2.pl (ha.on ho)
   have h1:=this.lo
   have h2:=this.hi
   dsimp only at h1 h2
   unfold W.I64;omega
  have hc3:n3.c=n.c:=by obtain⟨l,_,rfl,_⟩:=ha;exact hsc.1
  have hs3:SpeedB n3.c f.speed:=by rw [hc3];exact hsp1
  conv=>whnf
  refine CallS.call (CallN.updA (α:=W.Found) (R:=fun a=>foundV a) (G:=fun _=>[.blk (navC n3)]) (p:=fun a=>LookR n3 m s.place f.speed a) [0] [] (RvJL.cons (RvJ.ownP rfl) (RvJL.pu rfl)) (Als.nil _) (by simp) (Giv.one rfl (by simp) (RcJ.pu rfl)) (navLook n3 m s.place f.speed hN3 hs3 hw3 hfit) (ForA.mk (fun x hk=>?_)))
  have hat:=hk.at64 hN3
  have hN4:=hN3.accepted hk hs3
  cases hacc:x.accepted
  ·have e4:Y.accepted n3 x f=n3:=by unfold Y.accepted;rw [hacc];(try rfl)
   rw [e4] at hN4
   have hc4:n3.c=n3.c:=by first|rfl|(rw [← e4];exact(accepted_c n3 x f).1)
   have hs4:SpeedB n3.c f.speed:=by rw [hc4];exact hs3
   have hcf:=hN4.cf
   have hwa:=waNext n3.watch.silent n3.watch.strife n3.watch.failed n3.c f.fit f.conflict over x.accepted hN4.w0.1 hN4.w0.2 hN4.w1.1 hN4.w1.2 (by have:=hcf.timeout;omega) hcf.timeout.2
   have hN5:NavOk ({ n3 with watch:=n3.watch.next n3.c f.fit f.conflict over x.accepted }:W.Nav):=hN4.watchedB
   have htail:=stepTailC E hE n ({ n3 with watch:=n3.watch.next n3.c f.fit f.conflict over x.accepted }:W.Nav) m f s.place x cmd hN5 hs4 (fun v gs'=>∃ n' r,v=.agg (rpC r)∧gs'=[.blk (navC n')]∧StepR n m cmd n' r) (fun r' hr'=>⟨endN ({ n3 with watch:=n3.watch.next n3.c f.fit f.conflict over x.accepted }:W.Nav) f cmd,r',rfl,rfl,n3,over,x,by rw [hsd2];exact ha,by rw [hsd2];exact hk,by rw [hsd2,e4];rfl,by rw [hsd2];exact hr'⟩)
   conv=>whnf
   repeat' ((first|refine JoinLeaf (by repeat (first|exact trivial|refine And.intro rfl ?_)) (by repeat (first|exact trivial|refine And.intro rfl ?_)) ?_|(refine Drw.len 20 19 rfl rfl ?_;refine Drw.join tabOk [(0,AV.own 0 0),(2,AV.bool cmd),(6,AV.own 1 0),(7,AV.own 2 0),(8,AV.own 3 0),(9,AV.own 4 0),(12,AV.own 6 0)] [OB.blk (navC ({ n3 with watch:=n3.watch.next n3.c f.fit f.conflict over x.accepted }:W.Nav)),OB.blk (rpL { W.Report.empty 0 with mode:=0 } .emp),OB.blk (rpL { W.Report.empty n.cycle with bad:=m.bad,stale:=m.stale,twice:=m.twice,beyond:=m.beyond } .emp),OB.blk (mlC m),OB.blk (fusedC f),OB.blk (plC s.place),OB.blk [I x.group,isV x.at_,.bool x.ok,.bool x.accepted]] rfl rfl (by rw [hEg];simp) (Drw.lateP tabOk [0,1,2,3,4,5,6,7,8,9,10,11,12,13,14,15,16,17,18] [] [19] (by kernel_rfl) (by kernel_rfl) ?_) htail)|refine Br.of (by assumption) ?_|refine CallD.pu (hwa) rfl ?_);conv=>whnf)
   all_goals exact trivial
  ·have e4:Y.accepted n3 x f=(n3.accept x f.speed):=by unfold Y.accepted;rw [hacc];(try rfl)
   rw [e4] at hN4
   have hc4:(n3.accept x f.speed).c=n3.c:=by first|rfl|(rw [← e4];exact(accepted_c n3 x f).1)
   obtain⟨i,hxg,hi,_,_⟩:=hk.grp hacc
   have hAC:=navAccept n3 x f.speed i hN3 hs3 hxg hi hat
   obtain⟨n4,hn4⟩:∃ n4,n4=n3.accept x f.speed:=⟨_,rfl⟩
   rw [← hn4] at hN4 hc4 e4 hAC
   have hs4:SpeedB n4.c f.speed:=by rw [hc4];exact hs3
   have hcf:=hN4.cf
   have hwa:=waNext n4.watch.silent n4.watch.strife n4.watch.failed n4.c f.fit f.conflict over x.accepted hN4.w0.1 hN4.w0.2 hN4.w1.1 hN4.w1.2 (by have:=hcf.timeout;omega) hcf.timeout.2
   have hN5:NavOk ({ n4 with watch:=n4.watch.next n4.c f.fit f.conflict over x.accepted }:W.Nav):=hN4.watchedB
   have htail:=stepTailC E hE n ({ n4 with watch:=n4.watch.next n4.c f.fit f.conflict over x.accepted }:W.Nav) m f s.place x cmd hN5 hs4 (fun v gs'=>∃ n' r,v=.agg (rpC r)∧gs'=[.blk (navC n')]∧StepR n m cmd n' r) (fun r' hr'=>⟨endN ({ n4 with watch:=n4.watch.next n4.c f.fit f.conflict over x.accepted }:W.Nav) f cmd,r',rfl,rfl,n3,over,x,by rw [hsd2];exact ha,by rw [hsd2];exact hk,by rw [hsd2,e4];rfl,by rw [hsd2];exact hr'⟩)
   conv=>whnf
   repeat' ((first|refine CallS.call (CallN.updE [0] [] (RvJL.cons (RvJ.ownP rfl) (RvJL.pu rfl)) (Als.nil _) (by simp) (Giv.one rfl (by simp) (RcJ.pu rfl)) (hAC) ?_)|refine JoinLeaf (by repeat (first|exact trivial|refine And.intro rfl ?_)) (by repeat (first|exact trivial|refine And.intro rfl ?_)) ?_|(refine Drw.len 20 19 rfl rfl ?_;refine Drw.join tabOk [(0,AV.own 0 0),(2,AV.bool cmd),(6,AV.own 1 0),(7,AV.own 2 0),(8,AV.own 3 0),(9,AV.own 4 0),(12,AV.own 6 0)] [OB.blk (navC ({ n4 with watch:=n4.watch.next n4.c f.fit f.conflict over x.accepted }:W.Nav)),OB.blk (rpL { W.Report.empty 0 with mode:=0 } .emp),OB.blk (rpL { W.Report.empty n.cycle with bad:=m.bad,stale:=m.stale,twice:=m.twice,beyond:=m.beyond } .emp),OB.blk (mlC m),OB.blk (fusedC f),OB.blk (plC s.place),OB.blk [I x.group,isV x.at_,.bool x.ok,.bool x.accepted]] rfl rfl (by rw [hEg];simp) (Drw.lateP tabOk [0,1,2,3,4,5,6,7,8,9,10,11,12,13,14,15,16,17,18] [] [19] (by kernel_rfl) (by kernel_rfl) ?_) htail)|refine Br.ot (by assumption) ?_|refine CallD.pu (hwa) rfl ?_);conv=>whnf)
   all_goals exact trivial
structure EndW(S:Nat→Prop)(w:World)(post:List AV→Prop)(e:Ending)(w':World):Prop where
 out:∃ cs vs b S',e=.returned (.pointer (some ⟨b,0,none⟩))∧post cs∧PL S' w' cs vs∧Bx w' b vs∧¬ S' b∧w.heap.size≤b∧b<w'.heap.size∧(∀ b,S b→S' b)∧(∀ b,S' b→b<w.heap.size→S b)∧(∀ b,S' b→b<w'.heap.size)∧En.Fr ⟨w,[],S⟩ w'
def RetW(P:Program)(f:Nat)(args:List AV)(post:List AV→Prop):Prop :=
 ∀ S w Vs,(∀ b,S b→b<w.heap.size)→all2 (R S w []) args Vs→Calls P f ⟨Vs⟩ w (EndW S w post)
structure FinW(vs:List AV)(own:Ow)(post:List AV→Prop):Prop where
 out:∃ (i:Nat) (cs cs':List AV) (I:List Nat),vs=[.own i 0]∧nth own i=some (.blk cs)∧RvL own I cs cs'∧¬ i∈I∧Als own I∧post cs'
def endW(T:Tab)(rs:List ResultVar)(post:List AV→Prop)(e:Exit)(tm:Tm)(own:Ow):Prop :=
 match e with
 |.ret=>resK T tm own rs fun vs=>FinW vs own post
 |.normal=>resK T tm own rs fun vs=>FinW vs own post
 |_=>False
theorem FinW.endW{P:Program}{N:Nat}{w:World}{S0:Nat→Prop}{tm:Tm}{own:Ow}{S:Nat→Prop}{ids:List Loc}{a:Act}{n:World}(hs:Sim N ⟨w,[],S0⟩ tm own S ids a n){vs:List AV}{post:List AV→Prop}(h:FinW vs own post){Vs:List Value}(hv:all2 (R S n ids) vs Vs) :
  EndW S0 w post (.returned (oneV Vs)) n:=by
 obtain⟨i,cs,cs',I,rfl,h1,h2,h3,h4,h5⟩:=h.out
 match Vs,hv with
 |[V],⟨hr,_⟩ =>
  obtain⟨b,g1,rfl⟩:=hr.own
  obtain⟨vs,g2,g3⟩:=Rv.cells h1 hs.lv g1
  obtain⟨q1,q2,q3⟩:=hs.noS i _ _ b h1 rfl g1 rfl
  have hI:∀ j∈I,(0:Nat)≤j∧∃ o,nth own j=some o∧alive o=true:=fun j hj=>⟨Nat.zero_le _,h4 j hj⟩
  refine⟨cs',vs,b,SI S ids I,rfl,h5,h2 S n ids _ hs.lv vs (R1L_R g2),g3,fun hS=>?_,?_,q2,fun b hb=>.inl (hs.snew b hb),fun b hb hlt=>hs.sold b ((hs.siLt hI hb).2 hlt) hlt,fun b hb=>(hs.siLt hI hb).1,hs.fr⟩
  ·rcases hS with hS|⟨j,L',hj,hL',e'⟩
   ·exact q1 hS
   ·obtain⟨o,g5,g6⟩:=h4 j hj
    have:=hs.dist i j _ o _ L' b h1 g5 rfl g6 g1 hL' rfl e'
    subst this
    exact h3 hj
  ·rcases q3 with q3|⟨L0,q3,_⟩
   ·exact q3
   ·simp [nth] at q3
theorem enterW{P:Program}{T:Tab}(hT:TabOk P T){f:Nat}{fn:Func}{c:Code}{N:Nat}{rs:List ResultVar}(hf:P.funcs[f]?=some fn)(hb:fn.body=some c)(hN:fn.ntmps=N)(hrs:fn.results=⟨rs⟩)
  {args:List AV} {post:List AV→Prop} (hlen:args.length≤N) (h:∀ E:En,E.gs.length=0→WC T P N E c (endW T rs post) (tmOf args 0) []):RetW P f args post:=by
 intro S w Vs hlt hV
 refine calls_of_wp hf hb ?_
 have hs:Sim N ⟨w,[],S⟩ (tmOf args 0) [] S [] { tmps:=⟨Vs⟩++Array.replicate (fn.ntmps-(⟨Vs⟩:Array Value).size) undef,defers:=[] } w:={
  size:=by have:=hV.len;simp [hN];omega
  defers:=rfl
  sl:=fun t v hv=>by
   obtain⟨_,h1⟩:=look_tmOf hv
   obtain⟨V,h2,h3⟩:=hV.get h1
   refine⟨V,?_,h3⟩
   have h4:t<Vs.length:=by have:=(List.getElem?_eq_some_iff.1 h2).1;omega
   rw [Array.getElem?_append_left (by simpa using h4)]
   simpa using h2
  len:=rfl
  live:=fun i o L hi _=>by simp [nth] at hi
  dist:=fun i j o o' L L' b hi _ _ _ _ _ _ _=>by simp [nth] at hi
  noS:=fun i o L b hi _ _ _=>by simp [nth] at hi
  pre:=Ids.refl _
  slt:=hlt
  sold:=fun b hb _=>hb
  snew:=fun b hb=>hb
  fr:=⟨rfl,rfl,rfl,Nat.le_refl _,fun _ _ _=>rfl⟩ }
 have key:∀ tm own S' ids a n,resK T tm own rs (fun vs=>FinW vs own post)→Sim N ⟨w,[],S⟩ tm own S' ids a n→a.defers=[]∧∃ v,(results fn a.tmps).run P n=.ok v n∧EndW S w post (.returned v) n:=by
  intro tm own S' ids a n hK hs
  obtain⟨vs,h1,h2⟩:=resK_sound (P:=P) hT hK
  obtain⟨Us,h3,h4⟩:=h2 N _ S' ids a n hs
  refine⟨hs.defers,oneV Us,?_,FinW.endW (P:=P) hs h1 h3⟩
  have h5:(results fn a.tmps)=((do let vs ← fn.results.mapM (resOne a.tmps);pure (if h:vs.size=1 then vs[0] else .tuple vs)):Sem Value):=by
   unfold results
   rfl
  rw [h5,hrs,Sem.run_bind,Array.mapM_eq_mapM_toList,Sem.run_map,h4]
  simp only [Result.andThen_ok]
  match Us with
  |[]=>rfl
  |[v]=>rfl
  |v::u::r=>simp [oneV,Sem.run_pure]
 refine WC_sound hT c (h ⟨w,[],S⟩ rfl) ⟨fun e a n ⟨tm,own,S',ids,hK,hs⟩=>?_,fun c a d v w hq=>⟨hq.1,hq.2⟩⟩ hs
 cases e with
 |normal=>exact key tm own S' ids a n hK hs
 |ret=>exact key tm own S' ids a n hK hs
 |_=>exact hK.elim
theorem FinW.mk'{own:Ow}{post:List AV→Prop}(i:Nat){cs cs':List AV}(I:List Nat)(hb:nth own i=some (.blk cs))(hr:RvL own I cs cs')(hi:¬ i∈I)(hI:Als own I)(h:post cs'):FinW [.own i 0] own post :=
 ⟨i,cs,cs',I,rfl,hb,hr,hi,hI,h⟩
theorem CallN.newW{P:Program}{f:Nat}{vs:List AV}{tm:Tm}{own:Ow}{N:Nat}{E:En}{dst:Option Nat}{K:Tm→Ow→Prop}{post:List AV→Prop}(h:RetW P f vs post)(hp:puL vs=true)(hK:∀ cs,post cs→put N tm dst (.own own.length 0) fun tm=>K tm (own++[.blk cs])):CallN P N E f vs dst K tm own:=by
 refine⟨fun S ids a n hs Vs hV=>?_⟩
 refine(h S n Vs hs.slt ((PL_iff.1 ((RL_pu hp).1 hV)).imp fun _ _ h=>P1_R h)).mono fun e w' ⟨cs,vs',b,S',h1,h2,h3,h4,h5,h6,h7,h8,h9,h10,h11⟩=>?_
 obtain⟨tm',g1,g2⟩:=put_sound (hK cs h2)
 have hs1:=hs.grow (Fr.past h11) h8 h9 h10
 have hs2:=hs1.push (o:=.blk cs) (L:=Loc.at_ b) ⟨b,vs',rfl,(PL_iff.1 h3).imp fun _ _ h=>P1_R1 h,h4⟩ (fun b' hb=>by
  obtain rfl:b=b':=by simpa [Loc.at_] using hb
  exact⟨h5,h7,Nat.le_trans hs.fr.size h6⟩) (fun j o' L' b' q1 q2 q3 q4 e=>by
  obtain rfl:b=b':=by simpa [Loc.at_] using e
  have:=hs.lt q1 q2 q3 q4
  omega)
 exact⟨_,h1,tm',_,S',_,g1,g2 E _ S' _ a w' _ hs2 ⟨b,by rw [← hs.len,nth_append_new],rfl⟩⟩
theorem CallN.puA{P:Program}{N:Nat}{E:En}{f:Nat}{vs:List AV}{dst:Option Nat}{K:Tm→Ow→Prop}{tm:Tm}{own:Ow}{α:Type}{R:α→AV}{p:α→Prop}(h:Ret P f vs fun v=>∃ a,v=R a∧p a)(hp:puL vs=true)
  (hK:ForA p fun a=>put N tm dst (R a) fun tm=>K tm own):CallN P N E f vs dst K tm own :=
 CallN.puP h hp fun r ⟨a,h1,h2⟩=>by subst h1;exact hK.out a h2
def startN(c:W.Conf)(t:W.Trk)(l:List Int):W.Nav:=W.Nav.start c t false t.grades l c.circ c.speeds
theorem TrkOk.grades_i64{t:W.Trk}(ht:TrkOk t):SpI t.grades:=by
 unfold W.Trk.grades
 dsimp only
 have key:∀ n,SpI (W.it t.gradesStep ⟨((t.segs.getD 0 default).pieces.getD 0 default).grade,((t.segs.getD 0 default).pieces.getD 0 default).grade⟩ n):=fun n=>by
  induction n with
  |zero=>exact⟨grade_b ht 0 0,grade_b ht 0 0⟩
  |succ n ih=>exact ih.hull (bounds_i64 (grade_b ht n))
 exact key _
theorem startN_ok{c:W.Conf}{t:W.Trk}{l:List Int}(hc:ConfB c)(ht:TrkOk t)(hl:EOk t l):NavOk (startN c t l):=by
 have h1:=hc.circLo
 have h2:=hc.circHi
 have h3:=hc.maxSpeed
 have hci:SpI c.circ:=⟨by show W.I64 c.circLo;unfold W.I64;omega,by show W.I64 c.circHi;unfold W.I64;omega⟩
 exact { off:=rfl,cf:=hc,tk:=ht,en:=hl,gr:=ht.grades_i64,cy:=⟨Int.le_refl _,by show (0:Int)≤100000;omega⟩,k0:=⟨⟨Int.le_refl _,by show (0:Int)<65536;omega⟩,by show -(32768*(0:Int))≤0∧(0:Int)≤32768*0;omega⟩,k1:=⟨⟨Int.le_refl _,by show (0:Int)<65536;omega⟩,by show -(32768*(0:Int))≤0∧(0:Int)≤32768*0;omega⟩,c0:=hci,c1:=hci,sp:=⟨Int.le_refl _,Int.le_refl _,by show -c.maxSpeed≤c.maxSpeed;omega⟩,di:=by show (0:Int)≤0∧(0:Int)≤16777216*0;omega,pl:=(fun h=>by cases h),ori:=SpI.zero,s0:=by show -(32768*(0:Int))≤0∧(0:Int)≤32768*0;omega,s1:=by show -(32768*(0:Int))≤0∧(0:Int)≤32768*0;omega,st:=by show (0:Int)≤0∧(0:Int)≤1000;omega,ro:=SpI.zero,w0:=by show (0:Int)≤0∧(0:Int)≤1001;omega,w1:=by show (0:Int)≤0∧(0:Int)≤1001;omega }
theorem navL_rv{own:Ow}{I:List Nat}(n:W.Nav)(h:n.place.set.list=[]):RvL own I (navL n .emp) (navC n):=by
 have e:navC n=navL n (rtsV []):=by rw [← h]
 rw [e]
 unfold navL
 repeat (first|exact RvL.nil|refine RvL.cons (Rv.pu rfl) ?_|refine RvL.cons Rv.emp ?_)
theorem navNew(c:W.Conf)(t:W.Trk)(hf:(W.fits c t).1=0)(hck:t.check.1=0)(hcb:ConfB c)(hI:ImgOk t)(hc:ConfI c)(hTI:TrkI t):RetW Tryz.prog 30 [confV c,bytesV (packT t)] (fun cs=>∃ l,EOk t l∧cs=navC (startN c t l)):=by
 have ht:=TrkOk.of hck
 have hms:=hcb.maxSpeed
 have hft:=fits c t hc hTI
 rw [hf] at hft
 obtain⟨c2,hc2⟩:∃ c2,c2=(W.fits c t).2:=⟨_,rfl⟩
 rw [← hc2] at hft
 have hsg:=ht.n
 have hen:=(ends_ t ht.len ht.nok.1 ht.nok.2.1 (by omega)).imp (fun v _ ⟨l,h1,h2⟩=>(⟨l,h1,h2⟩:∃ l:List Int,v=isV l∧EOk t l))
 refine enterW tabOk (N:=39) (args:=[_,_]) Tryz.func30 rfl rfl rfl (nLe rfl) (fun E hE=>?_)
 conv=>whnf
 repeat' (first|((first|(refine Drw.len 16 14 rfl rfl ?_;refine Drw.held tabOk 2 0 [0,6,8,11] (.alt (.go 1 (.alt (.go 2 (.alt (.go 3 (.go 4 (.go 5 (.go 7 (.go 9 (.alt (.go 10 (.go 12 (.go 13 (.go 14 (.go 15 .done))))) (.go 12 (.go 10 (.go 13 (.go 14 (.go 15 .done))))))))))) (.go 4 (.go 3 (.go 5 (.go 7 (.go 9 (.alt (.go 10 (.go 12 (.go 13 (.go 14 (.go 15 .done))))) (.go 12 (.go 10 (.go 13 (.go 14 (.go 15 .done))))))))))))) (.go 4 (.go 2 (.go 3 (.go 5 (.go 7 (.go 9 (.alt (.go 10 (.go 12 (.go 13 (.go 14 (.go 15 .done))))) (.go 12 (.go 10 (.go 13 (.go 14 (.go 15 .done)))))))))))))) (.alt (.go 2 (.alt (.go 1 (.alt (.go 3 (.go 4 (.go 5 (.go 7 (.go 9 (.alt (.go 10 (.go 12 (.go 13 (.go 14 (.go 15 .done))))) (.go 12 (.go 10 (.go 13 (.go 14 (.go 15 .done))))))))))) (.go 4 (.go 3 (.go 5 (.go 7 (.go 9 (.alt (.go 10 (.go 12 (.go 13 (.go 14 (.go 15 .done))))) (.go 12 (.go 10 (.go 13 (.go 14 (.go 15 .done))))))))))))) (.alt (.go 3 (.alt (.go 1 (.go 4 (.go 5 (.go 7 (.go 9 (.alt (.go 10 (.go 12 (.go 13 (.go 14 (.go 15 .done))))) (.go 12 (.go 10 (.go 13 (.go 14 (.go 15 .done))))))))))) (.go 4 (.alt (.go 1 (.go 5 (.go 7 (.go 9 (.alt (.go 10 (.go 12 (.go 13 (.go 14 (.go 15 .done))))) (.go 12 (.go 10 (.go 13 (.go 14 (.go 15 .done)))))))))) (.go 5 (.alt (.go 1 (.go 7 (.go 9 (.alt (.go 10 (.go 12 (.go 13 (.go 14 (.go 15 .done))))) (.go 12 (.go 10 (.go 13 (.go 14 (.go 15 .done))))))))) (.go 7 (.alt (.go 1 (.go 9 (.alt (.go 10 (.go 12 (.go 13 (.go 14 (.go 15 .done))))) (.go 12 (.go 10 (.go 13 (.go 14 (.go 15 .done)))))))) (.go 9 (.alt (.go 1 (.alt (.go 10 (.go 12 (.go 13 (.go 14 (.go 15 .done))))) (.go 12 (.go 10 (.go 13 (.go 14 (.go 15 .done))))))) (.alt (.go 10 (.alt (.go 1 (.go 12 (.go 13 (.go 14 (.go 15 .done))))) (.go 12 (.go 1 (.go 13 (.go 14 (.go 15 .done))))))) (.go 12 (.alt (.go 1 (.go 10 (.go 13 (.go 14 (.go 15 .done))))) (.go 10 (.go 1 (.go 13 (.go 14 (.go 15 .done)))))))))))))))))) (.go 4 (.alt (.go 1 (.go 3 (.go 5 (.go 7 (.go 9 (.alt (.go 10 (.go 12 (.go 13 (.go 14 (.go 15 .done))))) (.go 12 (.go 10 (.go 13 (.go 14 (.go 15 .done))))))))))) (.go 3 (.alt (.go 1 (.go 5 (.go 7 (.go 9 (.alt (.go 10 (.go 12 (.go 13 (.go 14 (.go 15 .done))))) (.go 12 (.go 10 (.go 13 (.go 14 (.go 15 .done)))))))))) (.go 5 (.alt (.go 1 (.go 7 (.go 9 (.alt (.go 10 (.go 12 (.go 13 (.go 14 (.go 15 .done))))) (.go 12 (.go 10 (.go 13 (.go 14 (.go 15 .done))))))))) (.go 7 (.alt (.go 1 (.go 9 (.alt (.go 10 (.go 12 (.go 13 (.go 14 (.go 15 .done))))) (.go 12 (.go 10 (.go 13 (.go 14 (.go 15 .done)))))))) (.go 9 (.alt (.go 1 (.alt (.go 10 (.go 12 (.go 13 (.go 14 (.go 15 .done))))) (.go 12 (.go 10 (.go 13 (.go 14 (.go 15 .done))))))) (.alt (.go 10 (.alt (.go 1 (.go 12 (.go 13 (.go 14 (.go 15 .done))))) (.go 12 (.go 1 (.go 13 (.go 14 (.go 15 .done))))))) (.go 12 (.alt (.go 1 (.go 10 (.go 13 (.go 14 (.go 15 .done))))) (.go 10 (.go 1 (.go 13 (.go 14 (.go 15 .done))))))))))))))))))))) (.go 4 (.alt (.go 1 (.go 2 (.go 3 (.go 5 (.go 7 (.go 9 (.alt (.go 10 (.go 12 (.go 13 (.go 14 (.go 15 .done))))) (.go 12 (.go 10 (.go 13 (.go 14 (.go 15 .done)))))))))))) (.go 2 (.alt (.go 1 (.go 3 (.go 5 (.go 7 (.go 9 (.alt (.go 10 (.go 12 (.go 13 (.go 14 (.go 15 .done))))) (.go 12 (.go 10 (.go 13 (.go 14 (.go 15 .done))))))))))) (.go 3 (.alt (.go 1 (.go 5 (.go 7 (.go 9 (.alt (.go 10 (.go 12 (.go 13 (.go 14 (.go 15 .done))))) (.go 12 (.go 10 (.go 13 (.go 14 (.go 15 .done)))))))))) (.go 5 (.alt (.go 1 (.go 7 (.go 9 (.alt (.go 10 (.go 12 (.go 13 (.go 14 (.go 15 .done))))) (.go 12 (.go 10 (.go 13 (.go 14 (.go 15 .done))))))))) (.go 7 (.alt (.go 1 (.go 9 (.alt (.go 10 (.go 12 (.go 13 (.go 14 (.go 15 .done))))) (.go 12 (.go 10 (.go 13 (.go 14 (.go 15 .done)))))))) (.go 9 (.alt (.go 1 (.alt (.go 10 (.go 12 (.go 13 (.go 14 (.go 15 .done))))) (.go 12 (.go 10 (.go 13 (.go 14 (.go 15 .done))))))) (.alt (.go 10 (.alt (.go 1 (.go 12 (.go 13 (.go 14 (.go 15 .done))))) (.go 12 (.go 1 (.go 13 (.go 14 (.go 15 .done))))))) (.go 12 (.alt (.go 1 (.go 10 (.go 13 (.go 14 (.go 15 .done))))) (.go 10 (.go 1 (.go 13 (.go 14 (.go 15 .done)))))))))))))))))))))) 12 rfl rfl rfl rfl (by kernel_rfl) ?_)|refine And.intro rfl ?_|refine CallS.call (CallN.puA (R:=fun l=>isV l) (p:=fun l=>EOk t l) hen rfl ?_)|refine ForA.mk (fun l hl=>?_)|refine Br.pt (by omega) ?_|refine Br.nf (by omega) ?_|refine CallS.q (open_ t hI hTI hck) rfl ?_|refine CallS.q (hft) rfl ?_|refine CallS.q (trkGrades t ht) rfl ?_|refine CallS.q (cfCirc c) rfl ?_|refine CallS.q (cfSpeeds c (by omega) hms.2) rfl ?_);conv=>whnf)|((refine Both.mk ?_ ?_)<;>conv=>whnf))
 all_goals exact FinW.mk' _ [] rfl (navL_rv (startN c t l) rfl) (by simp) (Als.nil _) ⟨l,hl,rfl⟩
end Y
section
theorem W.mul_bd{a b A B:Int}(h1:-A≤a)(h2:a≤A)(h3:-B≤b)(h4:b≤B):-(A*B)≤a*b∧a*b≤A*B:=by
 have ha:a.natAbs≤A.toNat:=by omega
 have hb:b.natAbs≤B.toNat:=by omega
 have h:(a*b).natAbs≤A.toNat*B.toNat:=by rw [Int.natAbs_mul];exact Nat.mul_le_mul ha hb
 have e:((A.toNat*B.toNat:Nat):Int)=A*B:=by
  rw [Int.natCast_mul,Int.toNat_of_nonneg (by omega),Int.toNat_of_nonneg (by omega)]
 omega
theorem W.up_bd(a b:Int)(h0:0≤a)(h1:a≤1000000000000000000)(hb:1≤b):0≤W.up a b∧W.up a b≤1000000000000000000:=by
 unfold W.up
 refine⟨Int.ediv_nonneg (by omega) (by omega),?_⟩
 have h2:a+b-1<(a+1)*b:=by
  have:a*1≤a*b:=Int.mul_le_mul_of_nonneg_left hb h0
  rw [Int.add_mul];omega
 have:=Int.ediv_lt_of_lt_mul (by omega) h2
 omega
theorem W.ediv_bd(a b M:Int)(hb:1≤b)(h0:-M≤a)(h1:a≤M)(hM:0≤M):-M≤a/b∧a/b≤M:=by
 refine⟨?_,?_⟩
 ·refine(Int.le_ediv_iff_mul_le (by omega)).2 ?_
  have:M*1≤M*b:=Int.mul_le_mul_of_nonneg_left hb hM
  rw [Int.neg_mul];omega
 ·have:M*1≤M*b:=Int.mul_le_mul_of_nonneg_left hb hM
  have h3:a<(M+1)*b:=by rw [Int.add_mul];omega
  have:=Int.ediv_lt_of_lt_mul (by omega) h3
  omega
theorem W.tdiv_down(a b:Int)(hb:1≤b):W.down a b=if a.tmod b<0 then a.tdiv b-1 else a.tdiv b:=by
 have h1:=Int.mul_ediv_add_emod a b
 have h0:=Int.mul_tdiv_add_tmod a b
 have h2:=Int.emod_nonneg a (show b≠0 by omega)
 have h3:=Int.emod_lt_of_pos a (show 0<b by omega)
 have h4:=Int.tmod_lt_of_pos a (show 0<b by omega)
 have h5:-b<a.tmod b:=by
  have:=Int.lt_tmod_of_pos a (show 0<b by omega)
  exact this
 unfold W.down
 generalize a.tdiv b=q at *
 generalize a.tmod b=r at *
 generalize a/b=q2 at *
 generalize a%b=r2 at *
 have key:∀ x y:Int,b*x+y=a→0≤y→y<b→x=q2:=by
  intro x y e1 e2 e3
  have e4:b*(x-q2)=r2-y:=by rw [Int.mul_sub];omega
  rcases Int.lt_trichotomy x q2 with h|h|h
  ·have:b*(x-q2)≤b*(-1):=Int.mul_le_mul_of_nonneg_left (by omega) (by omega)
   omega
  ·exact h
  ·have:b*1≤b*(x-q2):=Int.mul_le_mul_of_nonneg_left (by omega) (by omega)
   omega
 split
 ·exact(key (q-1) (r+b) (by rw [Int.mul_sub];omega) (by omega) (by omega)).symm
 ·exact(key q r h0 (by omega) h4).symm
theorem W.errorR_bd(c:W.Conf)(r:Int)(h0:0≤c.radBase)(h1:c.radBase≤1048576)(h2:0≤c.radPart)(h3:c.radPart≤65536)(r0:-2147483648≤r)(r1:r≤2147483648):0≤c.errorR r∧c.errorR r≤2147483648:=by
 unfold W.Conf.errorR
 have ha:0≤(if r<0 then -r else r)∧(if r<0 then -r else r)≤2147483648:=by split<;>omega
 generalize (if r<0 then -r else r)=a at *
 have h5:0≤a*c.radPart:=Int.mul_nonneg ha.1 h2
 have h6:a*c.radPart≤2147483648*65536:=Int.mul_le_mul ha.2 h3 h2 (by omega)
 omega
theorem W.may_eq(l:List W.Piece)(n:Int)(h1:0<l.length)(h2:l.length≤64)(h0:(W.pieceAt l 0).from_=0):W.may l n=W.allB (W.mayAt l n) l.length:=by
 unfold W.may
 rw [decide_eq_true (by omega),Bool.true_and]
theorem W.may_no(l:List W.Piece)(n:Int)(h:l.length<1∨64<l.length∨(W.pieceAt l 0).from_≠0):W.may l n=false:=by
 unfold W.may
 rw [decide_eq_false (by omega),Bool.false_and]
theorem W.segMay_no{s:W.Seg}{m:Int}(h:s.length<1∨1099511627776<s.length∨W.may s.pieces s.length=false∨2<s.next.length∨(∃ k,k<s.next.length∧¬ (0≤s.next.getD k 0∧s.next.getD k 0<m))):W.segMay s m=false:=by
 unfold W.segMay
 rcases h with h|h|h|h|⟨k,hk,h⟩
 ·rw [decide_eq_false (by omega)];simp
 ·rw [decide_eq_false (by omega)];simp
 ·rw [h];simp
 ·simp;intros;omega
 ·rw [W.allB_no hk (decide_eq_false h)];simp
theorem W.segMay_yes{s:W.Seg}{m:Int}{b:Bool}(h1:1≤s.length∧s.length≤1099511627776)(h2:W.may s.pieces s.length=true)(h3:s.next.length≤2)(h4:∀ j,j<s.next.length→W.nextAt s m j=true)(h5:b=decide (s.next.length<2∨s.next.getD 0 0<s.next.getD 1 0)):W.segMay s m=b:=by
 unfold W.segMay
 rw [decide_eq_true h1,h2,decide_eq_true h3,W.allB_yes h4,h5]
 simp
theorem W.follows_out{t:W.Trk}{a b:Int}(h:a<0∨(t.segs.length:Int)≤a):W.follows t a b=false:=by
 unfold W.follows
 rcases h with h|h
 ·rw [decide_eq_false (by omega)];simp
 ·rw [decide_eq_false (show ¬ a<(t.segs.length:Int) by omega)];simp
theorem W.follows_in{t:W.Trk}{i:Nat}{b:Int}{X:List Int}(h:i<t.segs.length)(hX:(t.sg i).next=X):W.follows t i b=(List.range X.length).any fun k=>decide (X.getD k 0=b):=by
 unfold W.follows
 rw [decide_eq_true (by omega),decide_eq_true (show (i:Int)<(t.segs.length:Int) by omega)]
 simp only [Bool.true_and]
 rw [show t.seg (i:Int)=t.sg i by simp [W.Trk.seg,W.Trk.sg],hX]
theorem any_yes{n k:Nat}{p:Nat→Bool}(hk:k<n)(h:p k=true):(List.range n).any p=true:=List.any_eq_true.2 ⟨k,List.mem_range.2 hk,h⟩
theorem any_no{n:Nat}{p:Nat→Bool}(h:∀ k,k<n→p k=false):(List.range n).any p=false:=by
 rw [List.any_eq_false];exact fun k hk=>by simp [h k (List.mem_range.1 hk)]
theorem W.checkR_many{t:W.Trk}(h:t.segs.length<1∨200<t.segs.length∨400<t.grps.length):t.checkR=(13,0):=by
 unfold W.Trk.checkR;rw [if_pos h]
theorem W.checkR_seg{t:W.Trk}{k:Nat}(h:¬ (t.segs.length<1∨200<t.segs.length∨400<t.grps.length))(h1:∀ j,j<k→(!W.segMay (t.sg j) t.segs.length)=false)(hk:k<t.segs.length)(h2:W.segMay (t.sg k) t.segs.length=false):t.checkR=(11,(k:Int)):=by
 unfold W.Trk.checkR
 rw [if_neg h,W.firstI_hit (p:=fun i=>!W.segMay (t.sg i) t.segs.length) h1 hk (by simp [h2]),if_pos (by omega)]
theorem W.checkR_grp{t:W.Trk}{k:Nat}(h:¬ (t.segs.length<1∨200<t.segs.length∨400<t.grps.length))(h1:∀ j,j<t.segs.length→(!W.segMay (t.sg j) t.segs.length)=false)(h3:∀ j,j<k→(!W.grpMay t j)=false)(hk:k<t.grps.length)(h2:W.grpMay t k=false):t.checkR=(16,(k:Int)):=by
 unfold W.Trk.checkR
 rw [if_neg h,W.firstI_none (p:=fun i=>!W.segMay (t.sg i) t.segs.length) h1,if_neg (by omega),W.firstI_hit (p:=fun i=>!W.grpMay t i) h3 hk (by simp [h2]),if_pos (by omega)]
theorem W.checkR_ok{t:W.Trk}(h:¬ (t.segs.length<1∨200<t.segs.length∨400<t.grps.length))(h1:∀ j,j<t.segs.length→(!W.segMay (t.sg j) t.segs.length)=false)(h3:∀ j,j<t.grps.length→(!W.grpMay t j)=false):t.checkR=(0,0):=by
 unfold W.Trk.checkR
 rw [if_neg h,W.firstI_none (p:=fun i=>!W.segMay (t.sg i) t.segs.length) h1,if_neg (by omega),W.firstI_none (p:=fun i=>!W.grpMay t i) h3,if_neg (by omega)]
theorem W.len_sg(t:W.Trk)(k:Nat):t.len k=(t.sg k).length:=by simp [W.Trk.len,W.Trk.seg,W.Trk.sg]
def W.LensOk(t:W.Trk):Prop:=∀ k,k<t.segs.length→0≤(t.sg k).length∧(t.sg k).length≤1099511627776
def W.InOk(t:W.Trk)(l:List Int):Prop:=∀ k,k<l.length→0≤l.getD k 0∧l.getD k 0<t.segs.length
theorem W.startOf_bd{t:W.Trk}{l:List Int}(h:W.LensOk t)(hl:W.InOk t l):∀ k,k≤l.length→0≤W.startOf t l k∧W.startOf t l k≤1099511627776*k:=by
 intro k
 induction k with
 |zero=>intro _;simp [W.startOf]
 |succ k ih =>
  intro hk
  have h1:=ih (by omega)
  have h2:=hl k (by omega)
  obtain⟨m,hm⟩:∃ m:Nat,l.getD k 0=m:=⟨(l.getD k 0).toNat,by omega⟩
  have h3:=h m (by omega)
  unfold W.startOf
  rw [hm,W.len_sg]
  omega
def W.VOk(s:W.Script)(n:Nat):Prop:=(-1000000000000000≤s.start∧s.start≤1000000000000000)∧∀ k,k<n→-1000000000000000≤(s.tick k).v∧(s.tick k).v≤1000000000000000
theorem W.place_bd{s:W.Script}{n:Nat}(h:W.VOk s n):∀ k,k≤n→-(1000000000000000*((k:Int)+1))≤s.place k∧s.place k≤1000000000000000*(k+1):=by
 intro k
 induction k with
 |zero=>intro _;have:=h.1;simp [W.Script.place];omega
 |succ k ih =>
  intro hk
  have h1:=ih (by omega)
  have h2:=h.2 k (by omega)
  unfold W.Script.place
  omega
structure W.NumOk(s:W.Script)(n:Nat):Prop where
 v:∀ k,k<n→-16777216≤(s.tick k).v∧(s.tick k).v≤16777216
 slip0:∀ k,k<n→-1099511627776≤(s.tick k).slip0∧(s.tick k).slip0≤1099511627776
 slip1:∀ k,k<n→-1099511627776≤(s.tick k).slip1∧(s.tick k).slip1≤1099511627776
 phase0:0≤s.phase0∧s.phase0≤8388608
 phase1:0≤s.phase1∧s.phase1≤8388608
 circ0:131072≤s.circ0∧s.circ0≤8388608
 circ1:131072≤s.circ1∧s.circ1≤8388608
theorem W.turned_bd{s:W.Script}{n:Nat}(h:W.NumOk s n){p:Int}(p0:1≤p)(p1:p≤1024)(i:Nat):∀ k,k≤n→-(1200000000000*((k:Int)+1))≤s.turned p i k∧s.turned p i k≤1200000000000*(k+1):=by
 intro k
 induction k with
 |zero =>
  intro _
  have h1:=h.phase0
  have h2:=h.phase1
  simp only [W.Script.turned,W.Script.phase]
  split<;>omega
 |succ k ih =>
  intro hk
  have h1:=ih (by omega)
  have h2:=h.v k (by omega)
  have h3:=h.slip0 k (by omega)
  have h4:=h.slip1 k (by omega)
  have h5:=W.mul_bd (a:=p) (b:=(s.tick k).v) (A:=1024) (B:=16777216) (by omega) (by omega) (by omega) (by omega)
  simp only [W.Script.turned,W.Tick.slip]
  split<;>omega
def W.PcsOk(t:W.Trk):Prop:=∀ k,k<t.segs.length→0<(t.sg k).pieces.length∧(t.sg k).pieces.length≤1000
theorem W.gradeOn_hit{t:W.Trk}{l:List Int}{at_:Int}{k:Nat}{s:W.Seg}(h:∀ j,j<k→W.gradeHere t l at_ j=false)(hk:k<l.length)(h2:W.gradeHere t l at_ k=true)(hs:t.seg (l.getD k 0)=s):W.gradeOn t l at_=W.gradeAt s.pieces (at_-W.startOf t l k) s.pieces.length:=by
 unfold W.gradeOn
 rw [W.firstI_hit h hk h2]
 simp only [Int.toNat_natCast]
 rw [if_pos (by omega),hs]
theorem W.gradeOn_none{t:W.Trk}{l:List Int}{at_:Int}(h:∀ j,j<l.length→W.gradeHere t l at_ j=false):W.gradeOn t l at_=0:=by
 unfold W.gradeOn
 rw [W.firstI_none h]
 simp
theorem W.firstI_cases(p:Nat→Bool)(n:Nat):W.firstI p n=-1∨∃ m:Nat,W.firstI p n=m∧m<n∧p m=true∧∀ j,j<m→p j=false:=by
 unfold W.firstI
 cases h:(List.range n).find? p with
 |none=>exact .inl rfl
 |some i =>
  rw [List.find?_range_eq_some] at h
  exact .inr ⟨i,rfl,List.mem_range.1 h.2.1,h.1,fun j hj=>by simpa using h.2.2 j hj⟩
theorem W.nominal_no{t:W.Trk}{s:W.Script}{r:W.Read}(h:W.findId t r.group<0∨r.index<0∨(s.route.length:Int)≤r.index∨s.route.getD r.index.toNat 0≠(t.grp (W.findId t r.group)).seg):W.nominal t s r=(0,false):=by
 unfold W.nominal;rw [if_pos h]
theorem W.nominal_yes{t:W.Trk}{s:W.Script}{r:W.Read}(h:¬ (W.findId t r.group<0∨r.index<0∨(s.route.length:Int)≤r.index∨s.route.getD r.index.toNat 0≠(t.grp (W.findId t r.group)).seg)):W.nominal t s r=(W.startOf t s.route r.index.toNat+(t.grp (W.findId t r.group)).offset,true):=by
 unfold W.nominal;rw [if_neg h]
theorem W.routeMay_no{t:W.Trk}{l:List Int}(h:l.length<1∨400<l.length):W.routeMay t l=false:=by
 unfold W.routeMay;rw [decide_eq_false (by omega),Bool.false_and]
theorem W.routeMay_eq{t:W.Trk}{l:List Int}(h:1≤l.length∧l.length≤400):W.routeMay t l=W.allB (W.routeAt t l) l.length:=by
 unfold W.routeMay;rw [decide_eq_true h,Bool.true_and]
theorem W.routeAt_no{t:W.Trk}{l:List Int}{k:Nat}{x:Int}(hx:l.getD k 0=x)(h:x<0∨(t.segs.length:Int)≤x):W.routeAt t l k=false:=by
 unfold W.routeAt;rw [hx,decide_eq_false (by omega),Bool.false_and]
theorem W.routeAt_zero{t:W.Trk}{l:List Int}{k:Nat}{x:Int}(hx:l.getD k 0=x)(h:0≤x∧x<t.segs.length)(hk:k=0):W.routeAt t l k=true:=by
 unfold W.routeAt;rw [hx,decide_eq_true h,decide_eq_true hk];rfl
theorem W.routeAt_succ{t:W.Trk}{l:List Int}{k m:Nat}{x y:Int}{b:Bool}(hx:l.getD k 0=x)(h:0≤x∧x<t.segs.length)(hk:k=m+1)(hy:l.getD m 0=y)(hf:W.follows t y x=b):W.routeAt t l k=b:=by
 subst hk
 unfold W.routeAt;rw [hx,decide_eq_true h,decide_eq_false (by omega),Nat.add_sub_cancel,hy,hf];rfl
theorem W.speedsMay_v0{c:W.Conf}{s:W.Script}(h:W.far s.v0 c.maxSpeed=true):W.speedsMay c s=false:=by
 unfold W.speedsMay;rw [h];rfl
theorem W.speedsMay_eq{c:W.Conf}{s:W.Script}(h:W.far s.v0 c.maxSpeed=false):W.speedsMay c s=W.allB (W.speedAt c s) s.ticks.length:=by
 unfold W.speedsMay;rw [h];rfl
theorem W.far_iffn(x m:Int):W.far x m=false↔(-m≤x∧x≤m):=by unfold W.far;rw [decide_eq_false_iff_not];omega
theorem W.onMay_no{t:W.Trk}{s:W.Script}{e:Int}(he:e=W.startOf t s.route s.route.length)(h:¬ (s.ticks.length≤4096∧0≤s.start∧s.start≤e)):W.onMay t s=false:=by
 unfold W.onMay;subst he;simp only;rw [decide_eq_false h,Bool.false_and]
theorem W.onMay_eq{t:W.Trk}{s:W.Script}{e:Int}(he:e=W.startOf t s.route s.route.length)(h:s.ticks.length≤4096∧0≤s.start∧s.start≤e):W.onMay t s=W.allB (W.onAt s e) s.ticks.length:=by
 unfold W.onMay;subst he;simp only;rw [decide_eq_true h,Bool.true_and]
theorem W.onAt_far{s:W.Script}{e:Int}{k:Nat}{v:Int}(hv:(s.tick k).v=v)(h:W.far v e=true):W.onAt s e k=false:=by
 unfold W.onAt;rw [hv,h];rfl
theorem W.onAt_eq{s:W.Script}{e:Int}{k:Nat}{v a:Int}{b:Bool}(hv:(s.tick k).v=v)(h:W.far v e=false)(ha:a=s.place k)(hb:b=decide (0≤a+v∧a+v≤e)):W.onAt s e k=b:=by
 unfold W.onAt;rw [hv,h,hb,ha,W.Script.place,hv];rfl
theorem W.numbersMay_5{c:W.Conf}{s:W.Script}{k:Nat}(hk:k<2)(h:W.circMay c (s.circ k) (s.phase k)=false):W.numbersMay c s=5:=by
 unfold W.numbersMay
 rcases(by omega:k=0∨k=1) with rfl|rfl
 ·rw [if_pos (by simp [show W.circMay c s.circ0 s.phase0=false from h])]
 ·rw [if_pos (by simp [show W.circMay c s.circ1 s.phase1=false from h])]
theorem W.numbersMay_eq{c:W.Conf}{s:W.Script}(h:∀ j,j<2→W.circMay c (s.circ j) (s.phase j)=true):W.numbersMay c s=if W.allB (fun i=>W.tickMay c (s.tick i)) s.ticks.length then 0 else 6:=by
 unfold W.numbersMay
 rw [if_neg (by simp [show W.circMay c s.circ0 s.phase0=true from h 0 (by omega),show W.circMay c s.circ1 s.phase1=true from h 1 (by omega)])]
end
namespace Y
open Go Go.RowKit Go.Sort
theorem yUp13(a b:Int)(a0:0≤a)(a1:a≤1000000000000000000)(b0:1≤b)(b1:b≤1000000000000000000):Ret Tryz.prog 21 [I a,I b] (·=I (W.up a b)):=by
 refine enterO tabOk (N:=11) (gs:=[]) (args:=[_,_]) Tryz.func21 rfl rfl rfl (nLe rfl) (fun E hE=>?_)
 conv=>whnf
 repeat' ((first|refine Ob.mk (by unfold W.I64 at *;omega) ?_|refine FinAt.val rfl ?_);conv=>whnf)
 all_goals rfl
theorem yFar(x m:Int)(m0:-9223372036854775807≤m)(m1:m≤9223372036854775807):Ret Tryz.prog 39 [I x,I m] (·=.bool (W.far x m)):=by
 have h1:∀ b:Bool,(x < -m∨m<x→b=true)→(¬ (x < -m∨m<x)→b=false)→AV.bool b=AV.bool (W.far x m):=fun b p q=>by
  unfold W.far
  by_cases h:x < -m∨m<x
  ·rw [p h,decide_eq_true h]
  ·rw [q h,decide_eq_false h]
 refine enterO tabOk (N:=14) (gs:=[]) (args:=[_,_]) Tryz.func39 rfl rfl rfl (nLe rfl) (fun E hE=>?_)
 conv=>whnf
 repeat' (first|((first|refine Br.pt (by assumption) ?_|refine Br.pf (by assumption) ?_|refine Ob.mk (by unfold W.I64 at *;omega) ?_|refine FinAt.val rfl ?_);conv=>whnf)|((refine Br.d (fun h=>?_) (fun h=>?_))<;>conv=>whnf))
 all_goals exact h1 _ (fun h=>by first|rfl|omega|(simp;omega)) (fun h=>by first|rfl|omega|(simp;omega))
theorem yDelta(a b:Int)(a0:0≤a)(a1:a<65536)(b0:0≤b)(b1:b<65536):Ret Tryz.prog 71 [I a,I b] (·=I (W.deltaR a b)):=by
 have e:W.deltaR a b=if 32768≤(b-a+65536)%65536 then (b-a+65536)%65536-65536 else (b-a+65536)%65536:=rfl
 refine enterO tabOk (N:=16) (gs:=[]) (args:=[_,_]) Tryz.func71 rfl rfl rfl (nLe rfl) (fun E hE=>?_)
 conv=>whnf
 repeat' (first|((first|refine Ob.mk (by omega) ?_|refine Ob.mk (by unfold W.I64 at *;omega) ?_|refine FinAt.val rfl ?_);conv=>whnf)|((refine Br.d (fun h=>?_) (fun h=>?_))<;>conv=>whnf))
 all_goals first
  |(rw [e,if_pos (by omega)];rfl)
  |(rw [e,if_neg (by omega)];rfl)
theorem yError(c:W.Conf)(r:Int)(h0:0≤c.radBase)(h1:c.radBase≤1048576)(h2:0≤c.radPart)(h3:c.radPart≤65536)(r0:-2147483648≤r)(r1:r≤2147483648):Ret Tryz.prog 69 [confV c,I r] (·=I (c.errorR r)):=by
 have p1:0≤r→0≤r*c.radPart:=fun h=>Int.mul_nonneg h h2
 have p2:r<0→0≤-r*c.radPart:=fun h=>Int.mul_nonneg (by omega) h2
 have q1:=W.mul_bd (a:=r) (b:=c.radPart) (A:=2147483648) (B:=65536) (by omega) (by omega) (by omega) (by omega)
 have q2:=W.mul_bd (a:=-r) (b:=c.radPart) (A:=2147483648) (B:=65536) (by omega) (by omega) (by omega) (by omega)
 have e:c.errorR r=c.radBase+(if r<0 then -r else r)*c.radPart/1048576:=rfl
 refine enterO tabOk (N:=17) (gs:=[]) (args:=[_,_]) Tryz.func69 rfl rfl rfl (nLe rfl) (fun E hE=>?_)
 conv=>whnf
 repeat' (first|((first|refine Ob.mk (by unfold W.I64 at *;omega) ?_|refine FinAt.val rfl ?_);conv=>whnf)|((refine Br.d (fun h=>?_) (fun h=>?_))<;>conv=>whnf))
 all_goals first
  |(rw [e,if_pos (by omega)];rfl)
  |(rw [e,if_neg (by omega)];rfl)
theorem yRadar(c:W.Conf)(r:Int)(h0:0≤c.radBase)(h1:c.radBase≤1048576)(h2:0≤c.radPart)(h3:c.radPart≤65536)(r0:-2147483648≤r)(r1:r≤2147483648):Ret Tryz.prog 70 [confV c,I r] (·=.tup [I (W.radarR c r).1,I (W.radarR c r).2]):=by
 have e:=W.errorR_bd c r h0 h1 h2 h3 r0 r1
 have eE:=yError c r h0 h1 h2 h3 r0 r1
 refine enterO tabOk (N:=16) (gs:=[]) (args:=[_,_]) Tryz.func70 rfl rfl rfl (nLe rfl) (fun E hE=>?_)
 conv=>whnf
 repeat' ((first|refine CallS.q (eE) rfl ?_|refine Ob.mk (by unfold W.I64 at *;omega) ?_|refine FinAt.val rfl ?_);conv=>whnf)
 all_goals rfl
theorem Ret.raw1{P:Program}{f:Nat}{a:Int}{l:List AV}{post:AV→Prop}(h:Ret P f (.raw (.int .i64 a)::l) post):Ret P f (I a::l) post:=fun S w bs Vs hG hlt hV=>h S w bs Vs hG hlt (by
 cases Vs with
 |nil=>exact hV
 |cons v r=>exact hV)
theorem QAt.remD{P:Program}{o:Oper}{tm:Tm}{own:Ow}{K:AV→Prop}{t t':TypeId}{x y:Operand}{p b:Int}(hb:1≤b)(ho:o.op=.binOp .rem t x y t')(hx:ev tm x fun v=>v=.raw (.int .i64 p))(hy:ev tm y fun v=>v=I b)(hK:K (I (p.tmod b))):QAt P o tm own K :=
 QAt.bin ho hx hy rfl rfl (r:=I (p.tmod b)) rfl (fun w=>by
  simp only [val]
  rw [Sem.run_bind,guard_int]
  have h0:¬ b=0:=by omega
  simp [binOp,Op.intDiv,h0]) hK
theorem QAt.quoD{P:Program}{o:Oper}{tm:Tm}{own:Ow}{K:AV→Prop}{t t':TypeId}{x y:Operand}{p b:Int}(hb:1≤b)(hp:-1000000000000000000≤p∧p≤1000000000000000000)(ho:o.op=.binOp .quo t x y t')(hx:ev tm x fun v=>v=.raw (.int .i64 p))(hy:ev tm y fun v=>v=I b)(hK:K (I (p.tdiv b))):QAt P o tm own K :=
 QAt.bin ho hx hy rfl rfl (r:=I (p.tdiv b)) rfl (fun w=>by
  simp only [val]
  rw [Sem.run_bind,guard_int]
  have h0:¬ b=0:=by omega
  have hi:W.I64 (p.tdiv b):=by
   have e:=W.tdiv_down p b hb
   have h1:=W.ediv_bd p b 1000000000000000000 hb hp.1 hp.2 (by omega)
   unfold W.down at e
   unfold W.I64
   split at e<;>omega
  simp [binOp,Op.intDiv,h0,wrap_i64 hi]) hK
theorem yDown(a b:Int)(a0:-1000000000000000000≤a)(a1:a≤1000000000000000000)(b0:1≤b)(b1:b≤1000000000000000000):Ret Tryz.prog 110 [I a,I b] (·=I (W.down a b)):=by
 have e:=W.tdiv_down a b b0
 have h1:=W.ediv_bd a b 1000000000000000000 b0 a0 a1 (by omega)
 unfold W.down at e
 have hi:-1000000000000000000≤a.tdiv b∧a.tdiv b≤1000000000000000001:=by split at e<;>omega
 refine Ret.raw1 ?_
 refine enterO tabOk (N:=16) (gs:=[]) (args:=[_,_]) Tryz.func110 rfl rfl rfl (nLe rfl) (fun E hE=>?_)
 conv=>whnf
 repeat' (first|((first|refine QAt.remD b0 rfl rfl rfl ?_|refine QAt.quoD b0 ⟨a0,a1⟩ rfl rfl rfl ?_|refine Ob.mk (by unfold W.I64 at *;omega) ?_|refine FinAt.val rfl ?_);conv=>whnf)|((refine Br.d (fun h=>?_) (fun h=>?_))<;>conv=>whnf))
 all_goals first
  |(rw [if_pos (by omega)] at e;exact eqI e.symm)
  |(rw [if_neg (by omega)] at e;exact eqI e.symm)
theorem yUp15(a b:Int)(a0:-1000000000000000000≤a)(a1:a≤1000000000000000000)(b0:1≤b)(b1:b≤1000000000000000000):Ret Tryz.prog 113 [I a,I b] (·=I (W.upR a b)):=by
 have eD:=yDown (-a) b (by omega) (by omega) b0 b1
 have h1:=W.ediv_bd (-a) b 1000000000000000000 b0 (by omega) (by omega) (by omega)
 have h2:W.down (-a) b=-a/b:=rfl
 refine enterO tabOk (N:=10) (gs:=[]) (args:=[_,_]) Tryz.func113 rfl rfl rfl (nLe rfl) (fun E hE=>?_)
 conv=>whnf
 repeat' ((first|refine CallS.q (eD) rfl ?_|refine Ob.mk (by unfold W.I64 at *;omega) ?_|refine FinAt.val rfl ?_);conv=>whnf)
 all_goals rfl
theorem yTacho(d lo hi p:Int)(d0:-32768≤d)(d1:d≤32767)(l0:0≤lo)(l1:lo≤8388608)(h0:0≤hi)(h1:hi≤8388608)(p0:1≤p)(p1:p≤1024):Ret Tryz.prog 72 [I d,I lo,I hi,I p] (·=.tup [I (W.tachoR d lo hi p).1,I (W.tachoR d lo hi p).2]):=by
 have m1:=W.mul_bd (a:=d-1) (b:=lo) (A:=32769) (B:=8388608) (by omega) (by omega) (by omega) (by omega)
 have m2:=W.mul_bd (a:=d-1) (b:=hi) (A:=32769) (B:=8388608) (by omega) (by omega) (by omega) (by omega)
 have m3:=W.mul_bd (a:=d+1) (b:=lo) (A:=32769) (B:=8388608) (by omega) (by omega) (by omega) (by omega)
 have m4:=W.mul_bd (a:=d+1) (b:=hi) (A:=32769) (B:=8388608) (by omega) (by omega) (by omega) (by omega)
 have e1:=yDown ((d-1)*lo) p (by omega) (by omega) p0 (by omega)
 have e2:=yDown ((d-1)*hi) p (by omega) (by omega) p0 (by omega)
 have e3:=yUp15 ((d+1)*hi) p (by omega) (by omega) p0 (by omega)
 have e4:=yUp15 ((d+1)*lo) p (by omega) (by omega) p0 (by omega)
 refine enterO tabOk (N:=42) (gs:=[]) (args:=[_,_,_,_]) Tryz.func72 rfl rfl rfl (nLe rfl) (fun E hE=>?_)
 conv=>whnf
 repeat' (first|((first|refine Br.pf (by omega) ?_|refine CallS.q (e1) rfl ?_|refine CallS.q (e2) rfl ?_|refine CallS.q (e3) rfl ?_|refine CallS.q (e4) rfl ?_|refine Ob.mk (by unfold W.I64 at *;omega) ?_|refine FinAt.val rfl ?_);conv=>whnf)|((refine Br.d (fun h=>?_) (fun h=>?_))<;>conv=>whnf))
 all_goals
  unfold W.tachoR
  dsimp only
  first
   |(rw [if_pos (by omega),if_pos (by omega)]<;>rfl)
   |(rw [if_pos (by omega),if_neg (by omega)]<;>rfl)
   |(rw [if_neg (by omega),if_neg (by omega)]<;>rfl)
theorem yWrong13(c:W.Conf):Ret Tryz.prog 35 [confV c] (·=I c.wrongR):=by
 have hm:1≤c.maxSpeed∧c.maxSpeed≤16777216∧1≤c.pulses∧c.pulses≤1024→0≤c.maxSpeed*c.pulses∧c.maxSpeed*c.pulses≤17179869184:=fun h=>by
  have:=W.mul_bd (a:=c.maxSpeed) (b:=c.pulses) (A:=16777216) (B:=1024) (by omega) (by omega) (by omega) (by omega)
  have:=Int.mul_nonneg (show 0≤c.maxSpeed by omega) (show 0≤c.pulses by omega)
  omega
 have eU:=fun h1 h2 h3 h4=>yUp13 c.circHi c.pulses h1 h2 h3 h4
 refine enterO tabOk (N:=156) (gs:=[]) (args:=[_]) Tryz.func35 rfl rfl rfl (nLe rfl) (fun E hE=>?_)
 conv=>whnf
 repeat' (first|((first|refine Br.pt (by assumption) ?_|refine Br.pf (by assumption) ?_|refine Br.ot rfl ?_|refine CallX.pu (eU (by omega) (by omega) (by omega) (by omega)) rfl rfl ?_|refine Ob.mk (by unfold W.I64 at *;omega) ?_|refine Drw.loose (by kernel_rfl) ?_|refine FinAt.val rfl ?_);conv=>whnf)|((refine Br.d (fun h=>?_) (fun h=>?_))<;>conv=>whnf))
 all_goals
  refine eqI ?_
  unfold W.Conf.wrongR
  repeat (first|rw [if_pos (by omega)]|rw [if_neg (by omega)])
end Y
end Go.Proofs.YtllemifiammnnaaGreat
