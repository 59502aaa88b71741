/- Part 12 of the proof. No condition. -/
import Derived.Deep.DeepCutAuto
import Derived.Deep.MidRow
import Derived.StillTail
import Derived.Test.YtllemifiammnnaaGreatG11
import Derived.Test.YtllemifiammnnaaGreatG09
import Derived.Test.YtllemifiammnnaaGreatG08
import Derived.Test.YtllemifiammnnaaGreatG03
import Derived.Test.YtllemifiammnnaaGreatG00
import Derived.Test.YtllemifiammnnaaGreatG06
set_option linter.unusedVariables false
set_option linter.unusedSimpArgs false
set_option maxRecDepth 100000
set_option maxHeartbeats 4000000
namespace Go.Proofs.YtllemifiammnnaaGreat
namespace Y
open Go Go.RowKit Go.Sort
structure ForL(p:List W.Rt)(A:List W.Rt→Prop):Prop where
 mk::out:∀ l,l.Perm p→A l
theorem CallN.move{N:Nat}{E:En}{f:Nat}{xs:List AV}{dst:Option Nat}{K:Tm→Ow→Prop}{tm:Tm}{own:Ow}{t:W.Trk}{p:W.Place}{s:W.Sp}(h:Ret Tryz.prog f xs (MoveIs t p s))(hp:puL xs=true)
  (hK:Br (decide ((p.move t s).2=0)) (ForL (p.move t s).1.set.list fun l=>put N tm dst (.tup [plV { (p.move t s).1 with set:=⟨(p.move t s).1.set.from_,l⟩ },I 0]) fun tm=>K tm own) (put N tm dst (.tup [plZ,I (p.move t s).2]) fun tm=>K tm own)):CallN Tryz.prog N E f xs dst K tm own:=by
 refine CallN.puP h hp fun v hv=>?_
 rcases hv with ⟨h1,rfl⟩|⟨h1,u,⟨l,hl,rfl⟩,rfl⟩
 ·exact hK.el.elim (fun q=>absurd (of_decide_eq_true q.1) h1) (fun q=>q.2)
 ·exact hK.el.elim (fun q=>q.2.out l hl) (fun q=>absurd h1 (of_decide_eq_false q.1))
theorem move_none{t:W.Trk}{p:W.Place}{s:W.Sp}(h:(p.move t s).2≠0):(p.move t s).1=W.Place.none:=by
 unfold W.Place.move at h ⊢
 split
 ·rfl
 ·next h1 =>
  rw [if_neg h1] at h
  dsimp only at h ⊢
  split
  ·rfl
  ·next h2 =>
   rw [if_neg h2] at h
   split
   ·rfl
   ·next h3=>rw [if_neg h3] at h;exact absurd rfl h
theorem navMove(n:W.Nav)(s:W.Sp)(hN:NavOk n)(hs:SpeedB n.c s):RetO Tryz.prog 56 [.blk (navC n)] [.own 0 0,.agg [I s.lo,I s.hi]] (fun r gs'=>∃ n' over,r=.bool over∧gs'=[.blk (navC n')]∧MoveR n s n' over):=by
 have hms:=hN.cf.maxSpeed
 have hmb:=mid_b hs
 have hdi:=hN.di
 have hcy:=hN.cy
 have hs1:=hs.lo
 have hs2:=hs.hi
 have hs3:=hs.right
 have hab:0≤W.abs s.mid∧W.abs s.mid≤16777216:=by unfold W.abs;split<;>omega
 have hA:Ret Tryz.prog 94 [I s.mid] (·=.tup [I (W.abs s.mid),.bool true]):=by
  have:=nAbs (a:=s.mid) (by unfold W.I64;omega)
  rw [W.fit_ok (by unfold W.I64;omega),W.fitB_ok (by unfold W.I64;omega)] at this
  exact this
 have hD:Ret Tryz.prog 96 [I n.dist,I (W.abs s.mid)] (·=.tup [I (n.dist+W.abs s.mid),.bool true]):=by
  have:=nAdd (a:=n.dist) (b:=W.abs s.mid) (by unfold W.I64;omega) (by unfold W.I64;omega)
  rw [W.fit_ok (by unfold W.I64;omega),W.fitB_ok (by unfold W.I64;omega)] at this
  exact this
 have hok:(W.fitB (W.abs s.mid)&&W.fitB (n.dist+W.fit (W.abs s.mid)))=true:=by
  rw [W.fit_ok (by unfold W.I64;omega),W.fitB_ok (by unfold W.I64;omega),W.fitB_ok (by unfold W.I64;omega)];rfl
 have hmv:n.move s=({ n with speed:=s,dist:=n.dist+W.abs s.mid,place:=if n.place.on then (n.place.move n.t s).1 else n.place },(n.place.on&&decide ((n.place.move n.t s).2=20))):=by
  unfold W.Nav.move
  dsimp only
  rw [hok];rfl
 refine enterO tabOk (N:=67) (gs:=[_]) (args:=[_,_]) Tryz.func56 rfl rfl rfl (nLe rfl) (fun E hE=>?_)
 cases hon:n.place.on
 ·conv=>whnf
  repeat' ((first|refine Br.of (by assumption) ?_|refine Br.ot rfl ?_|refine CallS.q (spMid s.lo s.hi (by unfold W.I64;omega) (by unfold W.I64;omega)) rfl ?_|refine CallS.q (hA) rfl ?_|refine CallS.q (hD) rfl ?_);conv=>whnf)
  have hmv2:n.move s=({ n with speed:=s,dist:=n.dist+W.abs s.mid },false):=by rw [hmv,if_neg (by rw [hon];simp),hon];rfl
  refine FinAt.asis [] (RvL.pu rfl) (by simp) (by show 1≤_;simp) rfl ⟨(n.move s).1,_,rfl,?_,⟨n.place.set.list,?_,?_,?_⟩⟩
  all_goals rw [hmv2]
  ·rfl
  ·rfl
 ·have hp:=hN.pl hon
  have hlo:=hp.lo
  have hhi:=hp.hi
  have hM:=move_ n.t n.place s hN.tk.len hN.tk.nok.1 (fun _=>hp.set) (by unfold W.I64;omega) (by unfold W.I64;omega) hp.est (by unfold W.I64;omega) (by unfold W.I64;omega)
  conv=>whnf
  repeat' (first|((first|(refine Drw.len 16 14 rfl rfl ?_;refine Drw.allocR tabOk [0,1,2,3,4,5,6,7,8,13] [0,1,2,3,4,5,6,7,8] 13 (.go 9 (.go 10 (.alt (.go 11 (.alt (.go 12 (.go 14 (.go 15 .done))) (.go 14 (.go 12 (.go 15 .done))))) (.go 12 (.go 11 (.go 14 (.go 15 .done))))))) (.alt (.go 9 (.alt (.go 10 (.alt (.go 11 (.alt (.go 12 (.go 13 (.go 14 (.go 15 .done)))) (.go 13 (.alt (.go 12 (.go 14 (.go 15 .done))) (.go 14 (.go 12 (.go 15 .done))))))) (.alt (.go 12 (.alt (.go 11 (.go 13 (.go 14 (.go 15 .done)))) (.go 13 (.go 11 (.go 14 (.go 15 .done)))))) (.go 13 (.alt (.go 11 (.alt (.go 12 (.go 14 (.go 15 .done))) (.go 14 (.go 12 (.go 15 .done))))) (.go 12 (.go 11 (.go 14 (.go 15 .done))))))))) (.go 13 (.go 10 (.alt (.go 11 (.alt (.go 12 (.go 14 (.go 15 .done))) (.go 14 (.go 12 (.go 15 .done))))) (.go 12 (.go 11 (.go 14 (.go 15 .done))))))))) (.go 13 (.go 9 (.go 10 (.alt (.go 11 (.alt (.go 12 (.go 14 (.go 15 .done))) (.go 14 (.go 12 (.go 15 .done))))) (.go 12 (.go 11 (.go 14 (.go 15 .done))))))))) 6 rfl (by kernel_rfl) (by kernel_rfl) rfl (by simp [hE]) ?_)|refine CallS.call (CallN.move hM rfl ?_)|refine ForL.mk (fun l hl=>?_)|refine Br.ot (by assumption) ?_|refine Br.ot rfl ?_|refine Br.of rfl ?_|refine CallS.q (spMid s.lo s.hi (by unfold W.I64;omega) (by unfold W.I64;omega)) rfl ?_|refine CallS.q (hA) rfl ?_|refine CallS.q (hD) rfl ?_);conv=>whnf)|((first|refine Br.d (fun h=>?_) (fun h=>?_)|refine Both.mk ?_ ?_)<;>conv=>whnf))
  all_goals
   have hmv2:n.move s=({ n with speed:=s,dist:=n.dist+W.abs s.mid,place:=(n.place.move n.t s).1 },decide ((n.place.move n.t s).2=20)):=by rw [hmv,if_pos hon,hon];rfl
   first
    |(
      refine FinAt.asis [] (RvL.pu rfl) (by simp) (by show 1≤_;simp) rfl ⟨withL (n.move s).1 l,_,rfl,?_,⟨l,?_,rfl,?_⟩⟩
      ·rw [hmv2];rfl
      ·rw [hmv2];exact hl
      ·rw [hmv2];show _=decide ((n.place.move n.t s).2=20);rw [h])
    |(
      refine FinAt.one (ars:=[.bool (decide ((n.place.move n.t s).2=20))]) (cs':=navC { n with speed:=s,dist:=n.dist+W.abs s.mid,place:=W.Place.none }) [] (RvL.pu rfl) (by simp) rfl ?_ ⟨withL (n.move s).1 [],_,rfl,?_,⟨[],?_,rfl,?_⟩⟩
      ·repeat (first|exact RvL.nil|refine RvL.cons (Rv.pu rfl) ?_|refine RvL.cons Rv.emp ?_)
      ·rw [hmv2,move_none h];rfl
      ·rw [hmv2,move_none h];exact .refl _
      ·rw [hmv2])
theorem visits_b{t:W.Trk}{s:W.RSet}(ht:TLen t)(hs:SOk t s){v:Int×Int}(hv:v∈s.visits t):0≤v.1∧v.1<t.segs.length∧-s.from_≤v.2∧v.2≤-s.from_+13194139533312:=by
 unfold W.RSet.visits at hv
 obtain⟨r,hr,hv⟩:=List.mem_flatMap.1 hv
 obtain⟨i,hi,e⟩:=List.getElem_of_mem hr
 have hro:ROk t r:=by
  have:=hs.r i hi
  simpa [List.getD,hi,e] using this
 obtain⟨k,hk,e2⟩:=List.getElem_of_mem hv
 rw [along_len] at hk
 have h1:=along_get t s.from_ r.path k hk
 rw [List.getElem?_eq_getElem (by rw [along_len];exact hk),e2] at h1
 have h1:=Option.some.inj h1
 subst h1
 have h2:=pre_le (f:=s.from_) ht hro.p k (by omega)
 have h3:=hro.p k hk
 have h4:=path_len hro.len hro.lo hro.hi
 have h5:=hro.hi
 exact⟨h3.1,h3.2,h2.1,by dsimp only;omega⟩
theorem raw_b{t:W.Trk}{s:W.RSet}{g:W.Grp}(ht:TLen t)(hs:SOk t s)(h4:0≤g.offset)(h5:g.offset≤1099511627776){x:Int}(hx:x∈s.placesRaw t g):-1099511627776≤x∧x≤17592186044416:=by
 unfold W.RSet.placesRaw at hx
 obtain⟨v,hv,rfl⟩:=List.mem_map.1 hx
 have:=visits_b ht hs (List.mem_filter.1 hv).1
 have:=hs.f
 omega
def FitIs(t:W.Trk)(s:W.RSet)(g:W.Grp)(far:Int)(p:W.Sp)(v:AV):Prop:=∃ l:List Int,v=isV l∧l.length≤192∧∀ x,x∈l↔x∈s.placesRaw t g∧W.fitsAt far p x=true
def fitN(far:Int)(p:W.Sp)(l:List Int)(k:Nat):List Int:=(l.take k).filter (W.fitsAt far p)
theorem fitN_succ{far:Int}{p:W.Sp}{l:List Int}{k:Nat}(h:k<l.length):fitN far p l (k+1)=fitN far p l k++if W.fitsAt far p (l.getD k 0)=true then [l.getD k 0] else []:=by
 unfold fitN
 rw [List.take_succ_eq_append_getElem h,List.filter_append]
 congr 1
 have e:l.getD k 0=l[k]:=by simp [List.getD,h]
 rw [e]
 by_cases hf:W.fitsAt far p l[k]=true<;>simp [hf]
theorem fitN_len(far:Int)(p:W.Sp)(l:List Int)(k:Nat):(fitN far p l k).length≤k:=by
 unfold fitN
 have:=List.length_filter_le (W.fitsAt far p) (l.take k)
 rw [List.length_take] at this
 omega
theorem fitting_(c:W.Conf)(t:W.Trk)(s:W.RSet)(p:W.Sp)(i:Nat)(hc:ConfB c)(ht:TLen t)(hs:SOk t s)(hi:i<t.grps.length)(hg:t.grps.length≤400)(hgr:GrpOk t (t.grps.getD i default)) :
  Ret Tryz.prog 147 [confV c,trkV t,setV s,.agg [I p.lo,I p.hi],I i] (FitIs t s (t.grps.getD i default) (W.window c (t.grps.getD i default)) p):=by
 obtain⟨g1,g2,g3,g4,g5⟩:=hgr
 have hoff:(t.grps.getD i default).offset≤1099511627776:=by
  have:=ht (t.grps.getD i default).seg.toNat (by omega)
  have e:t.len (t.grps.getD i default).seg=(t.segs.getD (t.grps.getD i default).seg.toNat default).length:=rfl
  omega
 have hant:=hc.antenna
 have hw:0≤W.window c (t.grps.getD i default)∧W.window c (t.grps.getD i default)≤20000000:=by unfold W.window;omega
 refine enterO tabOk (N:=55) (gs:=[]) (args:=[_,_,_,_,_]) Tryz.func147 rfl rfl rfl (nLe rfl) (fun E hE=>?_)
 conv=>whnf
 refine CallS.call (CallN.puP (places_ t s i ht hs hi hg g3.1 hoff) rfl (fun v hv=>?_))
 obtain⟨l,rfl,hl,hm⟩:=hv
 conv=>whnf
 refine LoopAt.emp 11 2 1 rfl ?_
 have hwn:=window c (t.grps.getD i default) (by unfold W.I64;omega) (by unfold W.I64;omega)
 obtain⟨far,hfar⟩:∃ far,far=W.window c (t.grps.getD i default):=⟨_,rfl⟩
 rw [← hfar] at hwn hw ⊢
 refine LoopAt.rule tabOk [(4,_),(5,_),(6,_),(8,_),(21,_),(22,_)] (fun (q:Nat×Nat×List (List AV))=>[(23,.int .i64 q.1),(11,.gro 4 q.2.1)]) (fun (q:Nat×Nat×List (List AV))=>[.blk (confC c),.blk [sgsV t.segs,gpsV t.grps],.blk [I s.from_,rtsV s.list],.blk [I p.lo,I p.hi],.buf 2 1 q.2.2]) (fun (q:Nat×Nat×List (List AV))=>q.1≤l.length∧q.2.1=(fitN far p l q.1).length∧q.2.2=(fitN far p l q.1).map i1) (fun (q:Nat×Nat×List (List AV))=>l.length-q.1) (0,0,[]) (by trivial) ⟨by omega,rfl,rfl⟩ (by trivial) (by trivial) (fun _=>⟨rfl,rfl,rfl,by simp [hE]⟩) (fun q hk=>?_)
 obtain⟨k,n,cs⟩:=q
 obtain⟨hk,hn,hcs⟩:=hk
 dsimp only at hk hn hcs ⊢
 have hn2:n≤k:=by rw [hn];exact fitN_len _ _ _ _
 have hcl:cs.length=n:=by rw [hcs,hn,List.length_map]
 by_cases hlt:k<l.length
 ·have hb:=raw_b ht hs g3.1 hoff ((hm (l.getD k 0)).1 (by simp [List.getD,hlt]))
  have hsucc:=fitN_succ (far:=far) (p:=p) hlt
  have hfa:W.fitsAt far p (l.getD k 0)=((W.Sp.grow ⟨l.getD k 0,l.getD k 0⟩ far).2&&((W.Sp.grow ⟨l.getD k 0,l.getD k 0⟩ far).1.meet p).2):=rfl
  obtain⟨w,hw'⟩:∃ w,w=W.Sp.grow ⟨l.getD k 0,l.getD k 0⟩ far:=⟨_,rfl⟩
  rw [← hw'] at hfa
  obtain⟨⟨wl,wh⟩,wb⟩:=w
  have har:Ret Tryz.prog 176 [I (l.getD k 0),I far] (·=.tup [.agg [I wl,I wh],.bool wb]):=by
   have:=spAround (l.getD k 0) far (by unfold W.I64;omega) (by unfold W.I64;omega)
   rw [← hw'] at this
   exact this
  have ended:∀ b,W.fitsAt far p (l.getD k 0)=b→(fitN far p l (k+1))=fitN far p l k++if b=true then [l.getD k 0] else []:=fun b h=>by rw [hsucc,h]
  cases wb
  ·have hf:W.fitsAt far p (l.getD k 0)=false:=hfa
   conv=>whnf
   repeat' (first|((first|(refine Drw.len 15 13 rfl rfl ?_;refine Drw.allocM tabOk [0,1,2,3,4,5,6,7,8,9,10,12,11] [0,1,2,3,4,5,6,7,8,9,10,12] [[],[11]] [13,14] 12 (by kernel_rfl) (by kernel_rfl) (by kernel_rfl) (by kernel_rfl) rfl (by simp [hE]) ?_)|refine Br.pt (by omega) ?_|refine Br.of rfl ?_|refine CallS.q (spMeet _ _ _ _) rfl ?_|refine CallD.pu (hwn) rfl ?_|refine CallD.pu (har) rfl ?_|refine Ob.mk (by omega) ?_|refine Ob.mk (by unfold W.I64 at *;omega) ?_|refine Ix.nat _ ?_);conv=>whnf)|((refine Both.mk ?_ ?_)<;>conv=>whnf))
   all_goals
    refine⟨(k+1,n,cs),⟨by dsimp only;omega,?_,?_⟩,by dsimp only;omega,(by trivial),(by trivial),(by trivial)⟩
    ·dsimp only;rw [ended _ hf];simpa using hn
    ·dsimp only;rw [ended _ hf];simpa using hcs
  ·have hf:W.fitsAt far p (l.getD k 0)=(W.Sp.meet ⟨wl,wh⟩ p).2:=by rw [hfa];rfl
   conv=>whnf
   repeat' (first|((first|(refine Drw.len 15 13 rfl rfl ?_;refine Drw.allocM tabOk [0,1,2,3,4,5,6,7,8,9,10,12,11] [0,1,2,3,4,5,6,7,8,9,10,12] [[],[11]] [13,14] 12 (by kernel_rfl) (by kernel_rfl) (by kernel_rfl) (by kernel_rfl) rfl (by simp [hE]) ?_)|refine OpAt.appG apI64 rfl [7] rfl rfl rfl hcl (by simp) (by repeat (first|exact Als.nil _|refine Als.cons rfl rfl ?_)) (by simp [hE]) (Xs.one rfl rfl rfl (RvL.pu rfl) rfl) (by decide) (by omega) ?_|refine Br.pt (by omega) ?_|refine Br.ot rfl ?_|refine CallS.q (spMeet _ _ _ _) rfl ?_|refine CallD.pu (hwn) rfl ?_|refine CallD.pu (har) rfl ?_|refine Ob.mk (by omega) ?_|refine Ob.mk (by unfold W.I64 at *;omega) ?_|refine Ix.nat _ ?_|refine BsN.mark ?_);conv=>whnf)|((first|refine Br.mk (fun h=>?_) (fun h=>?_)|refine Both.mk ?_ ?_)<;>conv=>whnf))
   all_goals
    have hf2:=hf.trans h
    first
     |(
       refine Exists.intro (k+1,n+1,_) ⟨⟨by dsimp only;omega,?_,?_⟩,by dsimp only;omega,(by trivial),(by trivial),(by trivial)⟩
       ·dsimp only;rw [ended _ hf2];simp [hn]
       ·dsimp only;rw [ended _ hf2,hcs];simp)
     |(
       refine Exists.intro (k+1,n,_) ⟨⟨by dsimp only;omega,?_,?_⟩,by dsimp only;omega,(by trivial),(by trivial),(by trivial)⟩
       ·dsimp only;rw [ended _ hf2];simp [hn]
       ·dsimp only;rw [ended _ hf2,hcs];simp)
 ·conv=>whnf
  repeat' ((refine Br.pf (by omega) ?_);conv=>whnf)
  obtain rfl:k=l.length:=by omega
  have hall:fitN far p l l.length=l.filter (W.fitsAt far p):=by unfold fitN;rw [List.take_length]
  refine FinAt.gen (ars:=[isV (l.filter (W.fitsAt far p))]) [4] (RvL.cons ?_ RvL.nil) (by repeat (first|exact Als.nil _|refine Als.cons rfl rfl ?_)) ⟨_,rfl,Nat.le_trans (List.length_filter_le _ _) hl,fun x=>by rw [List.mem_filter,hm]⟩
  rw [hall] at hn hcs
  subst hn
  exact Rv.gro (by simp) rfl (by rw [hcs,List.length_map]) (fun j hj=>PLe.of (by rw [hcs];simp [List.getD,hj]))
abbrev foundV(x:W.Found):AV:=.agg [I x.group,isV x.at_,.bool x.ok,.bool x.accepted]
theorem navFitting(n:W.Nav)(was:W.Place)(s:W.Sp)(i:Nat)(hN:NavOk n)(hs:SpeedB n.c s)(hp:SGood n.t n.place.set)(h1:W.I64 was.pos.lo)(h2:W.I64 was.pos.hi)(hi:i<n.t.grps.length) :
  RetO Tryz.prog 100 [.blk (navC n)] [.own 0 0,plV was,.agg [I s.lo,I s.hi],I i] (fun v gs'=>∃ l,v=isV l∧gs'=[.blk (navC n)]∧FitL n was s i l):=by
 have hms:=hN.cf.maxSpeed
 have hs1:=hs.lo
 have hs2:=hs.hi
 have hs3:=hs.right
 have hpa:=passage was.pos.lo was.pos.hi s.lo s.hi h1 h2 (by unfold W.I64;omega) (by unfold W.I64;omega)
 refine enterO tabOk (N:=36) (gs:=[_]) (args:=[_,_,_,_]) Tryz.func100 rfl rfl rfl (nLe rfl) (fun E hE=>?_)
 cases hok:(W.passage was.pos s).2
 ·have hn:(!(W.passage ⟨was.pos.lo,was.pos.hi⟩ ⟨s.lo,s.hi⟩).2)=true:=by rw [show (W.passage ⟨was.pos.lo,was.pos.hi⟩ ⟨s.lo,s.hi⟩).2=false from hok];rfl
  conv=>whnf
  repeat' ((first|refine FinAt.asis (ars:=[isV []]) [] (RvL.cons Rv.emp RvL.nil) (by simp) (by show 1≤_;simp) rfl ?_|refine Br.ot (by assumption) ?_|refine CallS.q (hpa) rfl ?_);conv=>whnf)
  exact⟨[],rfl,rfl,.inr ⟨hok,rfl⟩⟩
 ·have hn:(!(W.passage ⟨was.pos.lo,was.pos.hi⟩ ⟨s.lo,s.hi⟩).2)=false:=by rw [show (W.passage ⟨was.pos.lo,was.pos.hi⟩ ⟨s.lo,s.hi⟩).2=true from hok];rfl
  conv=>whnf
  repeat' ((first|refine Drw.lateP tabOk [0,1,2,3,4,5,6,7,8,9,10,11,12,13,14] [] [15,16] (by kernel_rfl) (by kernel_rfl) ?_|refine Br.of (by assumption) ?_|refine CallS.q (hpa) rfl ?_);conv=>whnf)
  refine CallS.call (CallN.puP (fitting_ n.c n.t n.place.set (W.passage was.pos s).1 i hN.cf hN.tk.len hp.ok hi hN.tk.g (hN.tk.gr hi).1) rfl (fun v hv=>?_))
  obtain⟨l,rfl,hl,hm⟩:=hv
  conv=>whnf
  exact FinAt.asis [] (RvL.pu rfl) (by simp) (by show 1≤_;simp) rfl ⟨l,rfl,rfl,.inl ⟨hok,hl,hm⟩⟩
theorem navLook(n:W.Nav)(m:Ml.M)(was:W.Place)(s:W.Sp)(hN:NavOk n)(hs:SpeedB n.c s)(hw:n.place.on=true→W.I64 was.pos.lo∧W.I64 was.pos.hi)(hm:Ml.fit m) :
  RetO Tryz.prog 57 [.blk (navC n)] [.own 0 0,.agg (mlC m),plV was,.agg [I s.lo,I s.hi]] (fun v gs'=>∃ x,v=foundV x∧gs'=[.blk (navC n)]∧LookR n m was s x):=by
 have hv:=hm 5
 refine enterO tabOk (N:=56) (gs:=[_]) (args:=[_,_,_,_]) Tryz.func57 rfl rfl rfl (nLe rfl) (fun E hE=>?_)
 cases h5:m.has 5
 ·have hn:(!(m.has 5))=true:=by rw [h5];rfl
  conv=>whnf
  repeat' ((first|refine FinAt.asis (ars:=[foundV ⟨0,[],true,false⟩]) [] (RvL.cons (Rv.agg (RvL.cons (Rv.pu rfl) (RvL.cons Rv.emp (RvL.pu rfl)))) RvL.nil) (by simp) (by show 1≤_;simp) rfl ?_|refine Br.ot (by assumption) ?_|refine CallS.q (of_ m 5 (by omega) (by omega)) rfl ?_);conv=>whnf)
  exact⟨_,rfl,rfl,.inl ⟨h5,rfl⟩⟩
 ·have hn:(!(m.has 5))=false:=by rw [h5];rfl
  conv=>whnf
  repeat' ((first|refine Br.of (by assumption) ?_|refine CallS.q (of_ m 5 (by omega) (by omega)) rfl ?_);conv=>whnf)
  refine CallS.call (CallN.puP (find n.t hN.tk (m.val 5)) rfl (fun v hv=>?_))
  obtain⟨i,b,rfl,hi,hf⟩:=hv
  cases hfi:n.t.find (m.val 5) with
  |none =>
   rw [hfi] at hf
   obtain rfl:b=false:=hf
   conv=>whnf
   repeat' ((first|refine FinAt.asis (ars:=[foundV ⟨0,[],false,false⟩]) [] (RvL.cons (Rv.agg (RvL.cons (Rv.pu rfl) (RvL.cons Rv.emp (RvL.pu rfl)))) RvL.nil) (by simp) (by show 1≤_;simp) rfl ?_|refine Br.ot rfl ?_);conv=>whnf)
   exact⟨_,rfl,rfl,.inr (.inl ⟨h5,hfi,rfl⟩)⟩
  |some k =>
   rw [hfi] at hf
   obtain⟨rfl,rfl⟩:b=true∧i=k:=hf
   have hlt:=(find_lt hfi).1
   cases hon:n.place.on
   ·conv=>whnf
    repeat' ((first|refine FinAt.asis (ars:=[foundV ⟨i,[],true,true⟩]) [] (RvL.cons (Rv.agg (RvL.cons (Rv.pu rfl) (RvL.cons Rv.emp (RvL.pu rfl)))) RvL.nil) (by simp) (by show 1≤_;simp) rfl ?_|refine Br.of (by assumption) ?_|refine Br.of rfl ?_);conv=>whnf)
    exact⟨_,rfl,rfl,.inr (.inr ⟨h5,i,hfi,.inr ⟨hon,rfl⟩⟩)⟩
   ·obtain⟨w1,w2⟩:=hw hon
    conv=>whnf
    repeat' ((first|refine Br.ot (by assumption) ?_|refine Br.of rfl ?_);conv=>whnf)
    refine CallS.call (CallN.upd [0] [] (RvJL.cons (RvJ.ownP rfl) (RvJL.pu rfl)) (Als.nil _) (by simp) (Giv.one rfl (by simp) (RcJ.pu rfl)) (navFitting n was s i hN hs (hN.pl hon).set w1 w2 hlt) (fun v gs' hv _=>?_))
    obtain⟨l,rfl,rfl,hl⟩:=hv
    conv=>whnf
    have e:decide ((0:Int)<l.length)=decide (0<l.length):=by
     by_cases h0:0<l.length
     ·rw [decide_eq_true h0,decide_eq_true (by omega)]
     ·rw [decide_eq_false h0,decide_eq_false (by omega)]
    rw [e]
    exact FinAt.asis [] (RvL.pu rfl) (by simp) (by show 1≤_;simp) rfl ⟨_,rfl,rfl,.inr (.inr ⟨h5,i,hfi,.inl ⟨hon,l,hl,rfl⟩⟩)⟩
theorem learnE(c w:W.Sp)(p n:Int)(h0:SpI c)(h2:SpI w)(h4:W.I64 p)(h5:-4611686018427387904<n)(h6:n≤4611686018427387904):Ret Tryz.prog 150 [.agg [I c.lo,I c.hi],.agg [I w.lo,I w.hi],I p,I n] (·=.tup [spV (W.learn c w p n),.bool (W.learnB c w p n).2]):=by
 have:=learn c.lo c.hi w.lo w.hi p n h0.1 h0.2 h2.1 h2.2 h4 h5 h6
 rw [W.learnB_fst] at this
 exact this
theorem navLearn(n:W.Nav)(a:Int)(hN:NavOk n)(hp:SpI n.place.pos)(ha:W.I64 a):RetO Tryz.prog 102 [.blk (navC n)] [.own 0 0,I a] (fun r gs'=>r=.tup []∧gs'=[.blk (navC (n.learn a))]):=by
 have hpl:=hN.cf.pulses
 have ho:=hN.ori
 have hcy:=hN.cy
 have hk0:=hN.k0.sum
 have hk1:=hN.k1.sum
 have hs0:=hN.s0
 have hs1:=hN.s1
 have hadd:=spAdd n.place.pos.lo n.place.pos.hi a a hp.1 hp.2 ha ha
 refine enterO tabOk (N:=72) (gs:=[_]) (args:=[_,_]) Tryz.func102 rfl rfl rfl (nLe rfl) (fun E hE=>?_)
 obtain⟨w,hw⟩:∃ w,w=n.place.pos.add ⟨a,a⟩:=⟨_,rfl⟩
 have hwi:SpI w.1:=by rw [hw];exact SpI.add
 rw [show W.Sp.add ⟨n.place.pos.lo,n.place.pos.hi⟩ ⟨a,a⟩=w from hw.symm] at hadd
 have hL:n.learn a=if !w.2 then n else if !(w.1.sub n.origin).2 then n else { n with circ0:=W.learn n.circ0 (w.1.sub n.origin).1 n.c.pulses (n.k0.sum-n.sum0),circ1:=W.learn n.circ1 (w.1.sub n.origin).1 n.c.pulses (n.k1.sum-n.sum1) }:=by rw [hw];rfl
 obtain⟨w1,w2⟩:=w
 cases w2
 ·conv=>whnf
  repeat' (first|((first|(refine Drw.len 14 12 rfl rfl ?_;refine Drw.allocM tabOk [0,1,2,3,4,5,6,7,8,9,11,10] [0,1,2,3,4,5,6,7,8,9,11] [[],[10]] [12,13] 11 (by kernel_rfl) (by kernel_rfl) (by kernel_rfl) (by kernel_rfl) rfl (by simp [hE]) ?_)|refine Br.ot rfl ?_|refine CallD.pu (spAt a) rfl ?_|refine CallD.pu (hadd) rfl ?_);conv=>whnf)|((refine Both.mk ?_ ?_)<;>conv=>whnf))
  all_goals
   refine FinAt.asis [] RvL.nil (by simp) (by show 1≤_;simp) rfl ⟨rfl,?_⟩
   rw [hL];rfl
 ·have hsub:=spSub w1.lo w1.hi n.origin.lo n.origin.hi hwi.1 hwi.2 ho.1 ho.2
  obtain⟨u,hu⟩:∃ u,u=w1.sub n.origin:=⟨_,rfl⟩
  have hui:SpI u.1:=by rw [hu];exact SpI.sub
  rw [show W.Sp.sub ⟨w1.lo,w1.hi⟩ ⟨n.origin.lo,n.origin.hi⟩=u from hu.symm] at hsub
  dsimp only at hL
  rw [← hu] at hL
  obtain⟨u1,u2⟩:=u
  cases u2
  ·conv=>whnf
   repeat' (first|((first|(refine Drw.len 14 12 rfl rfl ?_;refine Drw.allocM tabOk [0,1,2,3,4,5,6,7,8,9,11,10] [0,1,2,3,4,5,6,7,8,9,11] [[],[10]] [12,13] 11 (by kernel_rfl) (by kernel_rfl) (by kernel_rfl) (by kernel_rfl) rfl (by simp [hE]) ?_)|(refine Drw.len 12 10 rfl rfl ?_;refine Drw.lateM tabOk [0,1,2,3,4,5,6,7,8,9] [0,1,2,3,4,5,6,7,8] [[],[9]] [10,11] (by kernel_rfl) (by kernel_rfl) (by kernel_rfl) ?_)|refine Br.ot rfl ?_|refine Br.of rfl ?_|refine CallD.pu (spAt a) rfl ?_|refine CallD.pu (hadd) rfl ?_|refine CallD.pu (hsub) rfl ?_);conv=>whnf)|((refine Both.mk ?_ ?_)<;>conv=>whnf))
   all_goals
    refine FinAt.asis [] RvL.nil (by simp) (by show 1≤_;simp) rfl ⟨rfl,?_⟩
    rw [hL];rfl
  ·have l0:=learnE n.circ0 u1 n.c.pulses (n.k0.sum-n.sum0) hN.c0 hui (by unfold W.I64;omega) (by omega) (by omega)
   have l1:=learnE n.circ1 u1 n.c.pulses (n.k1.sum-n.sum1) hN.c1 hui (by unfold W.I64;omega) (by omega) (by omega)
   conv=>whnf
   repeat' (first|((first|(refine Drw.len 14 12 rfl rfl ?_;refine Drw.allocM tabOk [0,1,2,3,4,5,6,7,8,9,11,10] [0,1,2,3,4,5,6,7,8,9,11] [[],[10]] [12,13] 11 (by kernel_rfl) (by kernel_rfl) (by kernel_rfl) (by kernel_rfl) rfl (by simp [hE]) ?_)|(refine Drw.len 12 10 rfl rfl ?_;refine Drw.lateM tabOk [0,1,2,3,4,5,6,7,8,9] [0,1,2,3,4,5,6,7,8] [[],[9]] [10,11] (by kernel_rfl) (by kernel_rfl) (by kernel_rfl) ?_)|refine LoopAt.few tabOk 3 ?_|(refine Drw.len 37 36 rfl rfl ?_;refine Drw.lateM tabOk [0,1,2,3,4,5,6,7,8,9,10,11,12,13,14,15,16,17,18,19,20,21,22,23,24,25,26,27,28,29,30,31,32,33,34,35] [0,1,2,3,4,5,6,7,8,9,10,11,12,13,14,15,16,17,18,19,20,21,22,23,24,25,26,27,28,29,30,31,33,34,35] [[],[32]] [36] (by kernel_rfl) (by kernel_rfl) (by kernel_rfl) ?_)|refine Br.pt (by omega) ?_|refine Br.pf (by omega) ?_|refine Br.of rfl ?_|refine CallD.pu (spAt a) rfl ?_|refine CallD.pu (hadd) rfl ?_|refine CallD.pu (hsub) rfl ?_|refine CallD.pu (l0) rfl ?_|refine CallD.pu (l1) rfl ?_|refine Ob.mk (by omega) ?_|refine Ob.mk (by unfold W.I64 at *;omega) ?_|refine Ix.of 0 rfl ?_|refine Ix.of 1 rfl ?_|refine Pc.lit ?_);conv=>whnf)|((refine Both.mk ?_ ?_)<;>conv=>whnf))
   all_goals
    refine FinAt.asis [] RvL.nil (by simp) (by show 1≤_;simp) rfl ⟨rfl,?_⟩
    rw [hL];rfl
theorem navAccept(n:W.Nav)(x:W.Found)(s:W.Sp)(i:Nat)(hN:NavOk n)(hs:SpeedB n.c s)(hx:x.group=i)(hi:i<n.t.grps.length)(ha:∀ y∈x.at_,W.I64 y):RetO Tryz.prog 58 [.blk (navC n)] [.own 0 0,foundV x,.agg [I s.lo,I s.hi]] (fun r gs'=>r=.tup []∧gs'=[.blk (navC (n.accept x s))]):=by
 obtain⟨g,at_,ok,acc⟩:=x
 dsimp only at hx ha
 subst hx
 have hms:=hN.cf.maxSpeed
 have hant:=hN.cf.antenna
 have hs1:=hs.lo
 have hs2:=hs.hi
 have hs3:=hs.right
 have hg:=(hN.tk.gr hi).1
 have hr:=reset n.c n.t i s.lo s.hi hi hg.acc hant (by omega) (by omega)
 obtain⟨p,hp⟩:∃ p,p=W.resetAt n.c (n.t.grps.getD i default) i s:=⟨_,rfl⟩
 rw [show W.resetAt n.c (n.t.grps.getD i default) i ⟨s.lo,s.hi⟩=p from hp.symm] at hr
 have hpB:PlB n.t p:=by rw [hp];exact reset_b hN.cf hN.tk hi hs
 have hN1:NavOk { n with place:=p }:={ off:=hN.off,cf:=hN.cf,tk:=hN.tk,en:=hN.en,gr:=hN.gr,cy:=hN.cy,k0:=hN.k0,k1:=hN.k1,c0:=hN.c0,c1:=hN.c1,sp:=hN.sp,di:=hN.di,pl:=fun _=>hpB,ori:=hN.ori,s0:=hN.s0,s1:=hN.s1,st:=hN.st,ro:=hN.ro,w0:=hN.w0,w1:=hN.w1 }
 have hpi:SpI p.pos:=⟨by have:=hpB.lo;unfold W.I64;omega,by have:=hpB.hi;unfold W.I64;omega⟩
 have hA:∀ b:Bool,(n.place.on&&n.clean&&decide (at_.length=1))=b→n.accept ⟨i,at_,ok,acc⟩ s={ (if b then ({ n with place:=p }:W.Nav).learn (at_.getD 0 0) else { n with place:=p }) with clean:=true,origin:=(if b then ({ n with place:=p }:W.Nav).learn (at_.getD 0 0) else { n with place:=p }).place.pos,sum0:=(if b then ({ n with place:=p }:W.Nav).learn (at_.getD 0 0) else { n with place:=p }).k0.sum,sum1:=(if b then ({ n with place:=p }:W.Nav).learn (at_.getD 0 0) else { n with place:=p }).k1.sum }:=fun b hb=>by
  subst hb
  subst hp
  rfl
 by_cases hb:(n.place.on&&n.clean&&decide (at_.length=1))=true
 ·have hA:=hA true hb
  simp only [Bool.and_eq_true,decide_eq_true_eq] at hb
  obtain⟨⟨hon,hcl⟩,hl⟩:=hb
  have hl1:((at_.length:Nat):Int)=1:=by omega
  have hl0:0<at_.length:=by omega
  have hL:=navLearn { n with place:=p } (at_.getD 0 0) hN1 hpi (ha _ (by simp [List.getD,hl0]))
  rw [if_pos rfl] at hA
  obtain⟨q,hq⟩:∃ q,q=({ n with place:=p }:W.Nav).learn (at_.getD 0 0):=⟨_,rfl⟩
  rw [← hq] at hA hL
  refine enterO tabOk (N:=79) (gs:=[_]) (args:=[_,_,_]) Tryz.func58 rfl rfl rfl (nLe rfl) (fun E hE=>?_)
  conv=>whnf
  repeat' ((first|(refine Drw.len 16 15 rfl rfl ?_;refine Drw.lateP tabOk [0,1,2,3,4,5,6,7,8,9,10,11,12,13,14] [] [15] (by kernel_rfl) (by kernel_rfl) ?_)|refine CallS.call (CallN.updE [0] [] (RvJL.cons (RvJ.ownP rfl) (RvJL.pu rfl)) (Als.nil _) (by simp) (Giv.one rfl (by simp) (RcJ.pu rfl)) hL ?_)|refine LoopAt.few tabOk 3 ?_|(refine Drw.len 9 8 rfl rfl ?_;refine Drw.lateP tabOk [0,1,2,3,4,5,6,7] [] [8] (by kernel_rfl) (by kernel_rfl) ?_)|refine Br.ot (by assumption) ?_|refine Br.pt (by assumption) ?_|refine Br.pt (by omega) ?_|refine Br.pf (by omega) ?_|refine CallD.pu (hr) rfl ?_|refine Ob.mk (by omega) ?_|refine Ob.mk (by unfold W.I64 at *;omega) ?_|refine Ix.of 0 rfl ?_|refine Ix.of 1 rfl ?_|refine Pc.lit ?_);conv=>whnf)
  refine FinAt.asis [] RvL.nil (by simp) (by show 1≤_;simp) rfl ⟨rfl,?_⟩
  rw [hA];rfl
 ·have hA:=hA false (by simpa using hb)
  rw [if_neg (by simp)] at hA
  cases hon:n.place.on
  ·refine enterO tabOk (N:=79) (gs:=[_]) (args:=[_,_,_]) Tryz.func58 rfl rfl rfl (nLe rfl) (fun E hE=>?_)
   conv=>whnf
   repeat' ((first|(refine Drw.len 16 15 rfl rfl ?_;refine Drw.lateP tabOk [0,1,2,3,4,5,6,7,8,9,10,11,12,13,14] [] [15] (by kernel_rfl) (by kernel_rfl) ?_)|refine LoopAt.few tabOk 3 ?_|(refine Drw.len 9 8 rfl rfl ?_;refine Drw.lateP tabOk [0,1,2,3,4,5,6,7] [] [8] (by kernel_rfl) (by kernel_rfl) ?_)|refine Br.of (by assumption) ?_|refine Br.pt (by omega) ?_|refine Br.pf (by omega) ?_|refine Br.of rfl ?_|refine CallD.pu (hr) rfl ?_|refine Ob.mk (by omega) ?_|refine Ob.mk (by unfold W.I64 at *;omega) ?_|refine Ix.of 0 rfl ?_|refine Ix.of 1 rfl ?_|refine Pc.lit ?_);conv=>whnf)
   refine FinAt.asis [] RvL.nil (by simp) (by show 1≤_;simp) rfl ⟨rfl,?_⟩
   rw [hA];rfl
  ·cases hcl:n.clean
   ·refine enterO tabOk (N:=79) (gs:=[_]) (args:=[_,_,_]) Tryz.func58 rfl rfl rfl (nLe rfl) (fun E hE=>?_)
    conv=>whnf
    repeat' ((first|(refine Drw.len 16 15 rfl rfl ?_;refine Drw.lateP tabOk [0,1,2,3,4,5,6,7,8,9,10,11,12,13,14] [] [15] (by kernel_rfl) (by kernel_rfl) ?_)|refine LoopAt.few tabOk 3 ?_|(refine Drw.len 9 8 rfl rfl ?_;refine Drw.lateP tabOk [0,1,2,3,4,5,6,7] [] [8] (by kernel_rfl) (by kernel_rfl) ?_)|refine Br.ot (by assumption) ?_|refine Br.of (by assumption) ?_|refine Br.pt (by omega) ?_|refine Br.pf (by omega) ?_|refine Br.of rfl ?_|refine CallD.pu (hr) rfl ?_|refine Ob.mk (by omega) ?_|refine Ob.mk (by unfold W.I64 at *;omega) ?_|refine Ix.of 0 rfl ?_|refine Ix.of 1 rfl ?_|refine Pc.lit ?_);conv=>whnf)
    refine FinAt.asis [] RvL.nil (by simp) (by show 1≤_;simp) rfl ⟨rfl,?_⟩
    rw [hA];rfl
   ·have hl:¬ ((at_.length:Nat):Int)=1:=fun e=>hb (by rw [hon,hcl,decide_eq_true (by omega)];rfl)
    refine enterO tabOk (N:=79) (gs:=[_]) (args:=[_,_,_]) Tryz.func58 rfl rfl rfl (nLe rfl) (fun E hE=>?_)
    conv=>whnf
    repeat' ((first|(refine Drw.len 16 15 rfl rfl ?_;refine Drw.lateP tabOk [0,1,2,3,4,5,6,7,8,9,10,11,12,13,14] [] [15] (by kernel_rfl) (by kernel_rfl) ?_)|refine LoopAt.few tabOk 3 ?_|(refine Drw.len 9 8 rfl rfl ?_;refine Drw.lateP tabOk [0,1,2,3,4,5,6,7] [] [8] (by kernel_rfl) (by kernel_rfl) ?_)|refine Br.ot (by assumption) ?_|refine Br.pf (by assumption) ?_|refine Br.pt (by omega) ?_|refine Br.pf (by omega) ?_|refine CallD.pu (hr) rfl ?_|refine Ob.mk (by omega) ?_|refine Ob.mk (by unfold W.I64 at *;omega) ?_|refine Ix.of 0 rfl ?_|refine Ix.of 1 rfl ?_|refine Pc.lit ?_);conv=>whnf)
    refine FinAt.asis [] RvL.nil (by simp) (by show 1≤_;simp) rfl ⟨rfl,?_⟩
    rw [hA];rfl
abbrev routesV(l:List (List Int)):AV:=.lst 1 l.length fun i=>[isV (l.getD i [])]
abbrev rpL(r:W.Report)(x:AV):List AV:=[I r.cycle,I r.mode,I r.group,I r.pos.lo,I r.pos.hi,I r.est,I r.speed.lo,I r.speed.hi,I r.nominal,I r.dist,x,I r.fit,.bool r.clean,.bool r.conflict,I r.slip0,I r.slip1,.bool r.accepted,.bool r.fault,.bool r.still,.bool r.roll,.bool r.over,I r.moved.lo,I r.moved.hi,I r.permitted,I r.circ0.lo,I r.circ0.hi,I r.circ1.lo,I r.circ1.hi,I r.bad,I r.stale,I r.twice,I r.beyond]
abbrev rpC(r:W.Report):List AV:=rpL r (routesV r.routes)
theorem FinAt.two{vs ars cs0 cs cs':List AV}{own:Ow}{post:AV→List OB→Prop}(I:List Nat)(hr:RvL own I vs ars)(hI:∀ i∈I,2≤i∧∃ o,nth own i=some o∧alive o=true)(h0:nth own 0=some (.blk cs0))(hok:okO 2 [.blk cs0]=true)(hb:nth own 1=some (.blk cs))(hc:RvL own I cs cs')(h:post (oneOr ars) [.blk cs0,.blk cs']):FinAt 2 vs own post :=
 ⟨I,ars,[.blk cs0,.blk cs'],h,hr,hI,rfl,fun j x hj=>by
  match j with
  |0=>simp only [nth,Option.some.injEq] at hj;subst hj;exact⟨_,h0,.inr ⟨rfl,hok⟩⟩
  |1=>simp only [nth,Option.some.injEq] at hj;subst hj;exact⟨_,hb,.inl ⟨cs,cs',rfl,rfl,hc⟩⟩
  |j+2=>simp [nth] at hj⟩
theorem apRows:Ap Tryz.prog 40 28 1:=⟨.slice none 0 0,24,by kernel_rfl,by kernel_rfl,rfl,by decide,by decide⟩
def told(n:W.Nav)(r:W.Report)(f:W.Fused):W.Report:={ r with fit:=f.fit,clean:=f.clean,conflict:=f.conflict,slip0:=f.slip0,slip1:=f.slip1,speed:=f.speed,nominal:=f.speed.mid,dist:=n.dist,still:=n.still.on,roll:=n.roll.on,moved:=n.roll.moved,circ0:=n.circ0,circ1:=n.circ1,mode:=n.watch.mode n.place.on f.fit f.conflict,permitted:=n.c.maxSpeed }
def told2(n:W.Nav)(r:W.Report)(f:W.Fused):W.Report:={ told n r f with group:=(n.t.grp n.place.group).id,pos:=n.place.pos,est:=n.place.est }
theorem tell_off{n:W.Nav}{r:W.Report}{f:W.Fused}(h:n.place.on=false):n.tell r f=told n r f:=by
 have e:∃ x,n.tell r f=if !n.place.on then told n r f else x:=⟨_,rfl⟩
 obtain⟨x,e⟩:=e
 rw [e,if_pos (by rw [h];rfl)]
theorem tell_yes{n:W.Nav}{r:W.Report}{f:W.Fused}(h:n.place.on=true)(pm:Int)(ov:Bool):({ n.tell r f with permitted:=pm,over:=ov }:W.Report)={ told2 n r f with routes:=n.place.set.list.map W.Rt.path,permitted:=pm,over:=ov }:=by
 have e:∃ q o,n.tell r f=if !n.place.on then told n r f else { told2 n r f with routes:=n.place.set.list.map W.Rt.path,permitted:=q,over:=o }:=⟨_,_,rfl⟩
 obtain⟨q,o,e⟩:=e
 rw [e,if_neg (by rw [h];simp)]
theorem routesV_map(l:List W.Rt):routesV (l.map W.Rt.path)=.lst 1 l.length fun i=>[isV (l.getD i ⟨0,[]⟩).path]:=by
 unfold routesV
 rw [List.length_map]
 congr 1
 funext i
 have:(l.map W.Rt.path).getD i []=(l.getD i ⟨0,[]⟩).path:=by
  by_cases h:i<l.length
  ·simp [List.getD,h]
  ·rw [List.getD_eq_getElem?_getD,List.getElem?_eq_none (by simpa using h),List.getD_eq_getElem?_getD,List.getElem?_eq_none (by omega)];rfl
 rw [this]
theorem navTell(n:W.Nav)(r:W.Report)(f:W.Fused)(hN:NavOk n)(hs:SpeedB n.c f.speed)(hr:r.routes=[]):RetO Tryz.prog 62 [.blk (navC n),.blk (rpL r .emp)] [.own 0 0,.own 1 0,.agg (fusedC f)] (fun v gs'=>v=.tup []∧∃ r',gs'=[.blk (navC n),.blk (rpC r')]∧TellR n r f r'):=by
 have hms:=hN.cf.maxSpeed
 have hbr:=hN.cf.brake
 have hs1:=hs.lo
 have hs2:=hs.hi
 have hs3:=hs.right
 have hmid:=spMid f.speed.lo f.speed.hi (by unfold W.I64;omega) (by unfold W.I64;omega)
 have hmo:=waMode n.watch.silent n.watch.strife n.watch.failed n.place.on f.fit f.conflict
 refine enterO tabOk (N:=209) (gs:=[_,_]) (args:=[_,_,_]) Tryz.func62 rfl rfl rfl (nLe rfl) (fun E hE=>?_)
 cases hon:n.place.on
 ·have hnot:(!n.place.on)=true:=by rw [hon];rfl
  conv=>whnf
  repeat' ((first|(refine Drw.len 24 14 rfl rfl ?_;refine Drw.held tabOk 5 2 [0,1,2,3,4,5,6,7,8,9,10,11,12,13] (.go 14 (.go 15 (.go 16 (.go 17 (.go 18 (.go 19 (.go 20 (.go 21 (.go 22 (.go 23 .done)))))))))) 10 rfl rfl rfl rfl (by kernel_rfl) ?_)|refine And.intro rfl ?_|(refine Drw.len 21 14 rfl rfl ?_;refine Drw.lateP tabOk [0,3,4,5,6,7,8,9,10,11,12,13] [1,2] [14,15,16,17,18,19,20] (by kernel_rfl) (by kernel_rfl) ?_)|(refine Drw.len 35 25 rfl rfl ?_;refine Drw.lateP tabOk [0,4,5,6,7,8,9,10,11,12,13,14,15,16,17,18,19,20,21,22,23,24] [1,2,3] [25,26,27,28,29,30,31,32,33,34] (by kernel_rfl) (by kernel_rfl) ?_)|(refine Drw.len 27 23 rfl rfl ?_;refine Drw.lateP tabOk [0,2,3,4,5,6,7,8,9,10,11,12,13,14,15,16,17,18,19,20,21,22] [1] [23,24,25,26] (by kernel_rfl) (by kernel_rfl) ?_)|refine Br.ot (by assumption) ?_|refine CallD.pu (hmid) rfl ?_|refine CallD.pu (hmo) rfl ?_);conv=>whnf)
  refine FinAt.two (ars:=[]) (cs':=rpC (told n r f)) [] RvL.nil (by simp) rfl rfl rfl ?_ ⟨rfl,told n r f,rfl,n.c.maxSpeed,r.over,?_⟩
  ·unfold rpC
   have e:(told n r f).routes=[]:=hr
   rw [e]
   repeat (first|exact RvL.nil|refine RvL.cons (Rv.pu rfl) ?_|refine RvL.cons Rv.emp ?_)
  ·rw [tell_off hon];rfl
 ·have hnot:(!n.place.on)=false:=by rw [hon];rfl
  have hp:=hN.pl hon
  have hg:=hp.grp
  have hsn:=hp.set.n
  have hplo:=hp.hi
  have hfr:=free_ n.t n.ends n.place.set n.place.pos.hi hN.tk.len hN.tk.nok.1 hp.set hN.en (by unfold W.I64;omega)
  conv=>whnf
  repeat' ((first|(refine Drw.len 24 14 rfl rfl ?_;refine Drw.held tabOk 5 2 [0,1,2,3,4,5,6,7,8,9,10,11,12,13] (.go 14 (.go 15 (.go 16 (.go 17 (.go 18 (.go 19 (.go 20 (.go 21 (.go 22 (.go 23 .done)))))))))) 10 rfl rfl rfl rfl (by kernel_rfl) ?_)|refine And.intro rfl ?_|(refine Drw.len 21 14 rfl rfl ?_;refine Drw.lateP tabOk [0,3,4,5,6,7,8,9,10,11,12,13] [1,2] [14,15,16,17,18,19,20] (by kernel_rfl) (by kernel_rfl) ?_)|(refine Drw.len 35 25 rfl rfl ?_;refine Drw.lateP tabOk [0,4,5,6,7,8,9,10,11,12,13,14,15,16,17,18,19,20,21,22,23,24] [1,2,3] [25,26,27,28,29,30,31,32,33,34] (by kernel_rfl) (by kernel_rfl) ?_)|(refine Drw.len 27 23 rfl rfl ?_;refine Drw.lateP tabOk [0,2,3,4,5,6,7,8,9,10,11,12,13,14,15,16,17,18,19,20,21,22] [1] [23,24,25,26] (by kernel_rfl) (by kernel_rfl) ?_)|(refine Drw.len 35 28 rfl rfl ?_;refine Drw.lateP tabOk [0,3,4,5,6,7,8,9,10,11,12,13,14,15,16,17,18,19,20,21,22,23,24,25,26,27] [1,2] [28,29,30,31,32,33,34] (by kernel_rfl) (by kernel_rfl) ?_)|refine Br.of (by assumption) ?_|refine CallD.pu (hmid) rfl ?_|refine CallD.pu (hmo) rfl ?_|refine Ob.mk (by omega) ?_|refine Ix.tn (by omega) ?_);conv=>whnf)
  refine LoopAt.empC 1 10 28 1 rfl rfl ?_
  refine LoopAt.rule tabOk [(0,_),(1,_),(5,_),(147,_),(148,_)] (fun (i:Nat×List (List AV))=>[(149,.int .i64 i.1)]) (fun (i:Nat×List (List AV))=>[.blk (navC n),.blk (rpL (told2 n r f) (.gro 3 i.1)),.blk (fusedC f),.buf 28 1 i.2]) (fun (i:Nat×List (List AV))=>i.1≤n.place.set.list.length∧i.2=(List.range i.1).map (fun j=>[isV (n.place.set.list.getD j ⟨0,[]⟩).path])) (fun (i:Nat×List (List AV))=>n.place.set.list.length-i.1) (0,[]) (by trivial) ⟨Nat.zero_le _,rfl⟩ (by trivial) (by trivial) (fun _=>⟨rfl,rfl,rfl,by simp [hE]⟩) (fun i hk=>?_)
  obtain⟨k,cs⟩:=i
  obtain⟨hk,hcs⟩:=hk
  dsimp only at hk hcs ⊢
  have hcl:cs.length=k:=by rw [hcs,List.length_map,List.length_range]
  by_cases hlt:k<n.place.set.list.length
  ·have hro:=hp.set.end_b hN.tk.len hlt
   conv=>whnf
   repeat' (first|((first|(refine Drw.len 12 11 rfl rfl ?_;refine Drw.held tabOk 7 4 [0,1,2,3,5] (.alt (.go 4 (.go 6 (.go 7 (.go 8 (.go 9 (.go 10 (.go 11 .done))))))) (.go 6 (.alt (.go 4 (.go 7 (.go 8 (.go 9 (.go 10 (.go 11 .done)))))) (.go 7 (.go 4 (.go 8 (.go 9 (.go 10 (.go 11 .done))))))))) 7 rfl rfl rfl rfl (by kernel_rfl) ?_)|refine And.intro rfl ?_|refine OpAt.appG apRows rfl [] rfl rfl rfl hcl (by simp) (Als.nil _) (by simp) (Xs.one rfl rfl rfl (RvL.pu rfl) rfl) (by decide) (by omega) ?_|refine Br.pt (by omega) ?_|refine CallS.q (path _ hro.len hro.lo hro.hi) rfl ?_|refine Ob.mk (by omega) ?_|refine Ob.mk (by unfold W.I64 at *;omega) ?_|refine Ix.nat _ ?_|refine BsN.mark ?_);conv=>whnf)|((refine Both.mk ?_ ?_)<;>conv=>whnf))
   all_goals
    refine⟨(k+1,cs++[[isV (n.place.set.list.getD k ⟨0,[]⟩).path]]),⟨by dsimp only;omega,?_⟩,by dsimp only;omega,(by trivial),(by trivial),(by trivial)⟩
    rw [List.range_succ,List.map_append,hcs]
    rfl
  ·obtain rfl:k=n.place.set.list.length:=by omega
   conv=>whnf
   repeat' ((first|refine Drw.lateP tabOk [0,1,2,3,4,5,6,7,8,9,10,11,12,13,14,15,16,17,18] [] [19,20,21,22,23,24] (by kernel_rfl) (by kernel_rfl) ?_|refine Br.pf (by omega) ?_);conv=>whnf)
   refine CallS.call (CallN.puP hfr rfl (fun v hv=>?_))
   obtain⟨q,b,rfl,hq⟩:=hv
   cases b
   ·conv=>whnf
    repeat' ((first|(refine Drw.len 12 11 rfl rfl ?_;refine Drw.lateP tabOk [0,1,2,3,4,5,6,7,8,9,10] [] [11] (by kernel_rfl) (by kernel_rfl) ?_)|refine Br.of rfl ?_);conv=>whnf)
    refine FinAt.two (ars:=[]) (cs':=rpC { told2 n r f with routes:=n.place.set.list.map W.Rt.path,permitted:=n.c.maxSpeed,over:=decide (n.c.maxSpeed<f.speed.hi) }) [3] RvL.nil (fun i hi=>by simp at hi;subst hi;exact⟨by omega,_,rfl,rfl⟩) rfl rfl rfl ?_ ⟨rfl,_,rfl,n.c.maxSpeed,decide (n.c.maxSpeed<f.speed.hi),(tell_yes hon _ _).symm⟩
    unfold rpC rpL
    rw [routesV_map]
    repeat (first|exact RvL.nil|refine RvL.cons (Rv.pu rfl) ?_|refine RvL.cons (Rv.gro (by simp) rfl hcl (fun j hj=>PLe.of (by rw [hcs];simp [List.getD,hj]))) ?_)
   ·conv=>whnf
    repeat' ((refine Br.ot rfl ?_);conv=>whnf)
    refine CallS.call (CallN.puP (permitted_ n.c q hq (by unfold W.I64;omega) (by unfold W.I64;omega)) rfl (fun v hv=>?_))
    obtain⟨pm,rfl,hpm⟩:=hv
    conv=>whnf
    repeat' (((refine Drw.len 12 11 rfl rfl ?_;refine Drw.lateP tabOk [0,1,2,3,4,5,6,7,8,9,10] [] [11] (by kernel_rfl) (by kernel_rfl) ?_));conv=>whnf)
    refine FinAt.two (ars:=[]) (cs':=rpC { told2 n r f with routes:=n.place.set.list.map W.Rt.path,permitted:=pm,over:=decide (pm<f.speed.hi) }) [3] RvL.nil (fun i hi=>by simp at hi;subst hi;exact⟨by omega,_,rfl,rfl⟩) rfl rfl rfl ?_ ⟨rfl,_,rfl,pm,decide (pm<f.speed.hi),(tell_yes hon _ _).symm⟩
    unfold rpC rpL
    rw [routesV_map]
    repeat (first|exact RvL.nil|refine RvL.cons (Rv.pu rfl) ?_|refine RvL.cons (Rv.gro (by simp) rfl hcl (fun j hj=>PLe.of (by rw [hcs];simp [List.getD,hj]))) ?_)
end Y
section
open Go.ChangeShapes Go.WideShapes Go.RowKit Go.Sort
def mv(H:Nat→Bool)(V:Nat→Int)(bad stale twice beyond:Int):Value :=
 .agg #[.bool (H 0),.bool (H 1),.bool (H 2),.bool (H 3),.bool (H 4),.bool (H 5),.int .i64 (V 0),.int .i64 (V 1),.int .i64 (V 2),.int .i64 (V 3),.int .i64 (V 4),.int .i64 (V 5),.int .i64 bad,.int .i64 stale,.int .i64 twice,.int .i64 beyond]
end
section
open Go.ChangeShapes Go.WideShapes Go.RowKit Go.Sort
def mcell(m:Ml.M)(i:Nat):Value :=
 if i<6 then .bool (m.has i) else if i<12 then .int .i64 (m.val (i-6)) else if i=12 then .int .i64 m.bad else if i=13 then .int .i64 m.stale else if i=14 then .int .i64 m.twice else .int .i64 m.beyond
structure MailAt(w:World)(g:Nat)(m:Ml.M):Prop where
 cell:∀ i,i<16→w.cell? ⟨g,i,none⟩=some (mcell m i)
 free:∀ i,i<16→w.frozen? ⟨g,i,none⟩=false
theorem MailAt.set{w:World}{g:Nat}{m m':Ml.M}(h:MailAt w g m)(k:Nat)(v:Value)(hv:mcell m' k=v)(ho:∀ i,i<16→i≠k→mcell m' i=mcell m i):MailAt (w.setCell ⟨g,k,none⟩ v) g m':=by
 refine⟨fun i hi=>?_,fun i hi=>?_⟩
 ·by_cases e:i=k
  ·subst e
   rw [hv]
   exact World.cell?_setCell_same' w _ v (by rw [h.cell i hi];rfl)
  ·rw [ho i hi e,← h.cell i hi]
   exact World.cell?_setCell_other _ _ _ _ (by simp [Ne.symm e])
 ·rw [← h.free i hi]
  simp
theorem MailAt.val{w:World}{g:Nat}{m:Ml.M}(h:MailAt w g m)(k:Nat)(hk:k<6)(n:Int):MailAt (w.setCell ⟨g,6+k,none⟩ (.int .i64 n)) g { m with val:=Ml.upd m.val k n }:=by
 refine h.set (6+k) _ ?_ (fun i hi hne=>?_)
 ·simp only [mcell];rw [if_neg (by omega),if_pos (by omega),show 6+k-6=k by omega];simp [Ml.upd]
 ·simp only [mcell,Ml.upd]
  repeat' split
  all_goals first|rfl|omega
end
section
open Go Go.RowKit
section
variable{P:Program}
end
end
section
open Go.ChangeShapes Go.WideShapes Go.RowKit Go.Sort
structure Rw where
 a:Option Addr
 l:List Nat
 c:Nat
def Rw.v(r:Rw):Value:=.slice r.a r.l.length r.c
def Rw.z:Rw:=⟨none,[],0⟩
structure RwOk(w:World)(r:Rw):Prop where
 rd:RdB w r.a r.l
 nil:r.a=none→r.c=0
 cap:r.l.length≤r.c
 top:r.c≤maxLen
structure RdR(w:World)(A:Option Addr)(rs:List Rw):Prop where
 ok:∀ r∈rs,RwOk w r
 at_:0<rs.length→∃ b off,A=some ⟨b,off,none⟩∧b<w.heap.size∧∀ i,i<rs.length→w.cell? ⟨b,off+i,none⟩=some (rs.getD i Rw.z).v
theorem RdR.get{w:World}{A:Option Addr}{rs:List Rw}(h:RdR w A rs)(i:Nat)(hi:i<rs.length):RwOk w (rs.getD i Rw.z):=by
 have e:rs.getD i Rw.z=rs[i]:=by simp [List.getD,hi]
 rw [e];exact h.ok _ (List.getElem_mem hi)
def Ml.M.v(m:Ml.M):Value:=mv m.has m.val m.bad m.stale m.twice m.beyond
def Ml.M.cells(m:Ml.M):List Value:=[.bool (m.has 0),.bool (m.has 1),.bool (m.has 2),.bool (m.has 3),.bool (m.has 4),.bool (m.has 5),.int .i64 (m.val 0),.int .i64 (m.val 1),.int .i64 (m.val 2),.int .i64 (m.val 3),.int .i64 (m.val 4),.int .i64 (m.val 5),.int .i64 m.bad,.int .i64 m.stale,.int .i64 m.twice,.int .i64 m.beyond]
theorem and_255(c:Int):bits .and .i64 c 255=c%256:=by
 show IntKind.i64.wrap ((BitVec.ofInt 64 c &&& BitVec.ofInt 64 255).toNat:Int)=_
 have e:(BitVec.ofInt 64 c &&& BitVec.ofInt 64 255).toNat=(c%256).toNat:=by
  rw [BitVec.toNat_and,BitVec.toNat_ofInt,show (BitVec.ofInt 64 255).toNat=2 ^ 8-1 from rfl,Nat.and_two_pow_sub_one_eq_mod]
  have h1:(0:Int)≤c%((2 ^ 64:Nat):Int):=Int.emod_nonneg _ (by decide)
  generalize h:c%((2 ^ 64:Nat):Int)=x at h1
  have h2:((2 ^ 64:Nat):Int)=18446744073709551616:=by decide
  rw [h2] at h
  omega
 rw [e]
 have h0:0≤c%256:=by omega
 have h1:c%256<256:=by omega
 rw [Int.toNat_of_nonneg h0]
 generalize c%256=y at h0 h1
 rw [IntKind.wrap_i64]
 omega
end
namespace Y
open Go Go.RowKit Go.Sort
theorem mailTake(m:Ml.M)(seq:Int)(l:List Nat)(hl:∀ x∈l,x<256)(hn:l.length≤1000000)(hb:m.bad≤1000∧m.stale≤1000∧m.twice≤1000):RetO Tryz.prog 88 [.blk (mlC m)] [.own 0 0,I seq,bytesV l] (fun v gs'=>v=.tup []∧gs'=[.blk (mlC (Ml.take seq m (Fr.get l)))]):=by
 have hg:=frGet l hl hn
 have hkr:=Ml.kind_range l hl
 obtain⟨g,hge⟩:∃ g,g=Fr.get l:=⟨_,rfl⟩
 rw [← hge] at hg hkr ⊢
 obtain⟨gk,gs,gv,ge⟩:=g
 dsimp only [gvA] at hkr hg
 have hb1:=hb.1
 have hb2:=hb.2.1
 have hb3:=hb.2.2
 unfold Ml.take
 dsimp only
 refine enterO tabOk (N:=64) (gs:=[_]) (args:=[_,_,_]) Tryz.func88 rfl rfl rfl (nLe rfl) (fun E hE=>?_)
 by_cases he:ge=0
 ·obtain⟨k1,k2⟩:=hkr he
  rw [if_neg (by simpa using he)]
  by_cases hs:gs=seq
  ·rw [if_neg (by simpa using hs)]
   obtain rfl|rfl|rfl|rfl|rfl:gk=1∨gk=2∨gk=3∨gk=4∨gk=5:=by omega
   ·cases hh:m.has 1
    ·rw [if_neg (by rw [show m.has (Int.toNat 1)=false from hh];simp)]
     conv=>whnf
     repeat' ((first|(refine Drw.len 16 11 rfl rfl ?_;refine Drw.held tabOk 6 1 [0,1,2,3,4,5,6,7,8,9,12,13] (.go 10 (.go 11 (.go 14 (.go 15 .done)))) 4 rfl rfl rfl rfl (by kernel_rfl) ?_)|refine And.intro rfl ?_|refine Br.of (by assumption) ?_|refine Br.nf (by assumption) ?_|refine CallS.q (hg) rfl ?_|refine Ob.mk (by omega) ?_|refine Drw.loose (by kernel_rfl) ?_|refine Ix.of 1 rfl ?_|refine Pc.lit ?_);conv=>whnf)
     refine FinAt.asis [] RvL.nil (by simp) (by show 1≤_;simp) rfl ⟨rfl,rfl⟩
    ·rw [if_pos (show m.has (Int.toNat 1)=true from hh)]
     conv=>whnf
     repeat' ((first|refine Br.ot (by assumption) ?_|refine Br.nf (by assumption) ?_|refine CallS.q (hg) rfl ?_|refine Ob.mk (by omega) ?_|refine Ob.mk (by unfold W.I64 at *;omega) ?_|refine Drw.loose (by kernel_rfl) ?_|refine Ix.of 1 rfl ?_|refine Pc.lit ?_);conv=>whnf)
     refine FinAt.asis [] RvL.nil (by simp) (by show 1≤_;simp) rfl ⟨rfl,rfl⟩
   ·cases hh:m.has 2
    ·rw [if_neg (by rw [show m.has (Int.toNat 2)=false from hh];simp)]
     conv=>whnf
     repeat' ((first|(refine Drw.len 16 11 rfl rfl ?_;refine Drw.held tabOk 6 1 [0,1,2,3,4,5,6,7,8,9,12,13] (.go 10 (.go 11 (.go 14 (.go 15 .done)))) 4 rfl rfl rfl rfl (by kernel_rfl) ?_)|refine And.intro rfl ?_|refine Br.of (by assumption) ?_|refine Br.nf (by assumption) ?_|refine CallS.q (hg) rfl ?_|refine Ob.mk (by simp only [Option.getD_some,Option.getD_none];omega) ?_|refine Drw.loose (by kernel_rfl) ?_|refine Ix.nat _ ?_|refine Pc.lit ?_);conv=>whnf)
     refine FinAt.asis [] RvL.nil (by simp) (by show 1≤_;simp) rfl ⟨rfl,rfl⟩
    ·rw [if_pos (show m.has (Int.toNat 2)=true from hh)]
     conv=>whnf
     repeat' ((first|refine Br.ot (by assumption) ?_|refine Br.nf (by assumption) ?_|refine CallS.q (hg) rfl ?_|refine Ob.mk (by unfold W.I64 at *;omega) ?_|refine Ob.mk (by simp only [Option.getD_some,Option.getD_none];omega) ?_|refine Drw.loose (by kernel_rfl) ?_|refine Ix.nat _ ?_|refine Pc.lit ?_);conv=>whnf)
     refine FinAt.asis [] RvL.nil (by simp) (by show 1≤_;simp) rfl ⟨rfl,rfl⟩
   ·cases hh:m.has 3
    ·rw [if_neg (by rw [show m.has (Int.toNat 3)=false from hh];simp)]
     conv=>whnf
     repeat' ((first|(refine Drw.len 16 11 rfl rfl ?_;refine Drw.held tabOk 6 1 [0,1,2,3,4,5,6,7,8,9,12,13] (.go 10 (.go 11 (.go 14 (.go 15 .done)))) 4 rfl rfl rfl rfl (by kernel_rfl) ?_)|refine And.intro rfl ?_|refine Br.of (by assumption) ?_|refine Br.nf (by assumption) ?_|refine CallS.q (hg) rfl ?_|refine Ob.mk (by simp only [Option.getD_some,Option.getD_none];omega) ?_|refine Drw.loose (by kernel_rfl) ?_|refine Ix.nat _ ?_|refine Pc.lit ?_);conv=>whnf)
     refine FinAt.asis [] RvL.nil (by simp) (by show 1≤_;simp) rfl ⟨rfl,rfl⟩
    ·rw [if_pos (show m.has (Int.toNat 3)=true from hh)]
     conv=>whnf
     repeat' ((first|refine Br.ot (by assumption) ?_|refine Br.nf (by assumption) ?_|refine CallS.q (hg) rfl ?_|refine Ob.mk (by unfold W.I64 at *;omega) ?_|refine Ob.mk (by simp only [Option.getD_some,Option.getD_none];omega) ?_|refine Drw.loose (by kernel_rfl) ?_|refine Ix.nat _ ?_|refine Pc.lit ?_);conv=>whnf)
     refine FinAt.asis [] RvL.nil (by simp) (by show 1≤_;simp) rfl ⟨rfl,rfl⟩
   ·cases hh:m.has 4
    ·rw [if_neg (by rw [show m.has (Int.toNat 4)=false from hh];simp)]
     conv=>whnf
     repeat' ((first|(refine Drw.len 16 11 rfl rfl ?_;refine Drw.held tabOk 6 1 [0,1,2,3,4,5,6,7,8,9,12,13] (.go 10 (.go 11 (.go 14 (.go 15 .done)))) 4 rfl rfl rfl rfl (by kernel_rfl) ?_)|refine And.intro rfl ?_|refine Br.of (by assumption) ?_|refine Br.nf (by assumption) ?_|refine CallS.q (hg) rfl ?_|refine Ob.mk (by simp only [Option.getD_some,Option.getD_none];omega) ?_|refine Drw.loose (by kernel_rfl) ?_|refine Ix.nat _ ?_|refine Pc.lit ?_);conv=>whnf)
     refine FinAt.asis [] RvL.nil (by simp) (by show 1≤_;simp) rfl ⟨rfl,rfl⟩
    ·rw [if_pos (show m.has (Int.toNat 4)=true from hh)]
     conv=>whnf
     repeat' ((first|refine Br.ot (by assumption) ?_|refine Br.nf (by assumption) ?_|refine CallS.q (hg) rfl ?_|refine Ob.mk (by unfold W.I64 at *;omega) ?_|refine Ob.mk (by simp only [Option.getD_some,Option.getD_none];omega) ?_|refine Drw.loose (by kernel_rfl) ?_|refine Ix.nat _ ?_|refine Pc.lit ?_);conv=>whnf)
     refine FinAt.asis [] RvL.nil (by simp) (by show 1≤_;simp) rfl ⟨rfl,rfl⟩
   ·cases hh:m.has 5
    ·rw [if_neg (by rw [show m.has (Int.toNat 5)=false from hh];simp)]
     conv=>whnf
     repeat' ((first|(refine Drw.len 16 11 rfl rfl ?_;refine Drw.held tabOk 6 1 [0,1,2,3,4,5,6,7,8,9,12,13] (.go 10 (.go 11 (.go 14 (.go 15 .done)))) 4 rfl rfl rfl rfl (by kernel_rfl) ?_)|refine And.intro rfl ?_|refine Br.of (by assumption) ?_|refine Br.nf (by assumption) ?_|refine CallS.q (hg) rfl ?_|refine Ob.mk (by simp only [Option.getD_some,Option.getD_none];omega) ?_|refine Drw.loose (by kernel_rfl) ?_|refine Ix.nat _ ?_|refine Pc.lit ?_);conv=>whnf)
     refine FinAt.asis [] RvL.nil (by simp) (by show 1≤_;simp) rfl ⟨rfl,rfl⟩
    ·rw [if_pos (show m.has (Int.toNat 5)=true from hh)]
     conv=>whnf
     repeat' ((first|refine Br.ot (by assumption) ?_|refine Br.nf (by assumption) ?_|refine CallS.q (hg) rfl ?_|refine Ob.mk (by unfold W.I64 at *;omega) ?_|refine Ob.mk (by simp only [Option.getD_some,Option.getD_none];omega) ?_|refine Drw.loose (by kernel_rfl) ?_|refine Ix.nat _ ?_|refine Pc.lit ?_);conv=>whnf)
     refine FinAt.asis [] RvL.nil (by simp) (by show 1≤_;simp) rfl ⟨rfl,rfl⟩
  ·rw [if_pos hs]
   conv=>whnf
   repeat' ((first|refine Br.nt (by assumption) ?_|refine Br.nf (by assumption) ?_|refine CallS.q (hg) rfl ?_|refine Ob.mk (by unfold W.I64 at *;omega) ?_);conv=>whnf)
   refine FinAt.asis [] RvL.nil (by simp) (by show 1≤_;simp) rfl ⟨rfl,rfl⟩
 ·rw [if_pos he]
  conv=>whnf
  repeat' ((first|refine Br.nt (by assumption) ?_|refine CallS.q (hg) rfl ?_|refine Ob.mk (by unfold W.I64 at *;omega) ?_);conv=>whnf)
  refine FinAt.asis [] RvL.nil (by simp) (by show 1≤_;simp) rfl ⟨rfl,rfl⟩
abbrev textsV(ls:List (List Nat)):AV:=.lst 1 ls.length fun i=>[bytesV (ls.getD i [])]
theorem QAt.and255{P:Program}{o:Oper}{tm:Tm}{own:Ow}{K:AV→Prop}{t t':TypeId}{x y:Operand}{p:Int}(hp:0≤p∧p≤9223372036854775807)(ho:o.op=.binOp .and t x y t')(hx:ev tm x fun v=>v=I p)(hy:ev tm y fun v=>v=I 255)(hK:K (I (p%256))):QAt P o tm own K:=by
 have e:bits .and .i64 p 255=p%256:=and_255 p
 rw [← e] at hK
 exact QAt.bin ho hx hy rfl rfl (r:=I (bits .and .i64 p 255)) rfl (fun w=>by
  simp only [val]
  rw [Sem.run_bind,guard_int]
  rfl) hK
theorem mailSort(cycle:Int)(ls:List (List Nat))(hc:0≤cycle∧cycle≤1000000)(hls:∀ l∈ls,(∀ x∈l,x<256)∧l.length≤1000000)(hn:ls.length≤1000000):Ret Tryz.prog 54 [I cycle,textsV ls] (·=.agg (mlC (Ml.sort cycle ls))):=by
 refine enterO tabOk (N:=31) (gs:=[]) (args:=[_,_]) Tryz.func54 rfl rfl rfl (nLe rfl) (fun E hE=>?_)
 have e1:(min (ls.length:Int) 32).toNat=min ls.length 32:=by omega
 have e2:((ls.length:Int)-min (ls.length:Int) 32)=((ls.length-32:Nat):Int):=by omega
 conv=>whnf
 repeat' ((first|refine Ob.mk (by unfold W.I64 at *;omega) ?_|refine Ob.mk (by simp only [Option.getD_some,Option.getD_none];omega) ?_|refine Ix.tn (by omega) ?_);conv=>whnf)
 rw [e2]
 refine LoopAt.rule tabOk [(0,_),(4,_),(6,_),(19,_),(20,_)] (fun (i:Nat)=>[(21,.int .i64 (i:Int))]) (fun (i:Nat)=>[.blk [.bool false,.bool false,.bool false,.bool false,.bool false,.bool false,I 0,I 0,I 0,I 0,I 0,I 0,I 0,I 0,I 0,I 0],.blk (mlC (Ml.takes (cycle%256) (Ml.none_ (ls.length-32)) (ls.take i)))]) (fun (i:Nat)=>i≤min ls.length 32) (fun (i:Nat)=>min ls.length 32-i) 0 (by trivial) (Nat.zero_le _) (by trivial) (by trivial) (fun _=>⟨rfl,rfl,rfl,by simp [hE]⟩) (fun i hk=>?_)
 have hk':i≤min ls.length 32:=hk
 have hlen:(List.take i ls).length=i:=by rw [List.length_take];omega
 have hle:=Ml.none_le (cycle%256) (ls.length-32) (ls.take i)
 rw [hlen] at hle
 by_cases hlt:i<min ls.length 32
 ·have hi:i<ls.length:=by omega
  have hx:=hls (ls.getD i []) (by simp [List.getD,hi])
  have hT:=mailTake (Ml.takes (cycle%256) (Ml.none_ (ls.length-32)) (ls.take i)) (cycle%256) (ls.getD i []) hx.1 hx.2 (by omega)
  have hs:Ml.take (cycle%256) (Ml.takes (cycle%256) (Ml.none_ (ls.length-32)) (ls.take i)) (Fr.get (ls.getD i []))=Ml.takes (cycle%256) (Ml.none_ (ls.length-32)) (ls.take (i+1)):=by
   rw [List.take_succ_eq_append_getElem hi,Ml.takes_snoc]
   simp [List.getD,hi]
  rw [hs] at hT
  have hb:(i:Int)<(((some (min (ls.length:Int) 32).toNat).getD ls.length-(none:Option Nat).getD 0:Nat):Int):=by show (i:Int)<(((min (ls.length:Int) 32).toNat-0:Nat):Int);omega
  conv=>whnf
  repeat' ((first|refine QAt.and255 (by omega) rfl rfl rfl ?_|refine CallS.call (CallN.updE [1] [] (RvJL.cons (RvJ.ownP rfl) (RvJL.pu rfl)) (Als.nil _) (by simp) (Giv.one rfl (by simp) (RcJ.pu rfl)) hT ?_)|refine Br.pt (by assumption) ?_|refine Ob.mk (by omega) ?_|refine Ob.mk (by unfold W.I64 at *;omega) ?_|refine Ix.nat _ ?_);conv=>whnf)
  exact⟨i+1,by omega,by omega,(by trivial),(by trivial),(by trivial)⟩
 ·obtain rfl:i=min ls.length 32:=by omega
  have hb:¬ ((min ls.length 32:Nat):Int)<(((some (min (ls.length:Int) 32).toNat).getD ls.length-(none:Option Nat).getD 0:Nat):Int):=by show ¬ ((min ls.length 32:Nat):Int)<(((min (ls.length:Int) 32).toNat-0:Nat):Int);omega
  conv=>whnf
  repeat' ((first|refine Br.pf (by assumption) ?_|refine FinAt.val rfl ?_);conv=>whnf)
  have e3:ls.take (min ls.length 32)=ls.take 32:=by
   by_cases h:ls.length≤32
   ·rw [Nat.min_eq_left h,List.take_length,List.take_of_length_le h]
   ·rw [Nat.min_eq_right (by omega)]
  rw [e3]
  rfl
abbrev navL(n:W.Nav)(x:AV):List AV:=[I n.c.pulses,I n.c.circLo,I n.c.circHi,I n.c.radBase,I n.c.radPart,I n.c.accErr,I n.c.maxSpeed,I n.c.maxAccel,I n.c.antenna,I n.c.still,I n.c.stillSpeed,I n.c.roll,I n.c.timeout,I n.c.brake,
 sgsV n.t.segs,gpsV n.t.grps,.bool n.broken,I n.cycle,I n.grades.lo,I n.grades.hi,isV n.ends,.bool n.k0.known,.int .u16 n.k0.last,I n.k0.sum,.bool n.k1.known,.int .u16 n.k1.last,I n.k1.sum,I n.circ0.lo,I n.circ0.hi,I n.circ1.lo,I n.circ1.hi,I n.speed.lo,I n.speed.hi,I n.dist,
 .bool n.place.on,I n.place.group,I n.place.pos.lo,I n.place.pos.hi,I n.place.est,I n.place.set.from_,x,.bool n.clean,I n.origin.lo,I n.origin.hi,I n.sum0,I n.sum1,I n.still.count,.bool n.still.on,.bool n.roll.anchored,.bool n.roll.on,I n.roll.moved.lo,I n.roll.moved.hi,I n.watch.silent,I n.watch.strife,.bool n.watch.failed]
structure ForA{α:Type}(p:α→Prop)(A:α→Prop):Prop where
 mk::out:∀ a,p a→A a
theorem CallN.updA{P:Program}{N:Nat}{E:En}{f:Nat}{vs xs:List AV}{dst:Option Nat}{K:Tm→Ow→Prop}{tm:Tm}{own:Ow}{α:Type}{R:α→AV}{G:α→List OB}{p:α→Prop}(J I:List Nat){gs:List OB}(hv:RvJL own J I vs xs)(hI:Als own I)(hg:∀ i∈I,E.gs.length≤i)(hJ:Giv own J I gs)(h:RetO P f gs xs fun v gs'=>∃ a,v=R a∧gs'=G a∧p a)
  (hK:ForA p fun a=>put N tm dst (R a) fun tm=>K tm (putJ J ((G a).map (rnO J)) (killI I own))):CallN P N E f vs dst K tm own :=
 CallN.upd J I hv hI hg hJ h fun r gs' ⟨a,h1,h2,h3⟩ _=>by subst h1;subst h2;exact hK.out a h3
theorem navL_rc{own:Ow}{J I:List Nat}(n:W.Nav)(h:n.place.set.list=[]):RcJ own J I (navL n .emp) (navC n):=by
 refine RcJ.of ?_
 have e:navC n=navL n (rtsV []):=by rw [← h]
 rw [e]
 unfold navL
 repeat (first|exact RvL.nil|refine RvL.cons (Rv.pu rfl) ?_|refine RvL.cons Rv.emp ?_)
theorem JoinLeaf{tmJ tm:Tm}{ownJ own:Ow}(h1:Sub tmJ tm)(h2:Pre ownJ own)(t:True):Exit.normal=.normal∧Sub tmJ tm∧Pre ownJ own:=⟨rfl,h1,h2⟩
theorem sensed_of{n:W.Nav}{m:Ml.M}{s:W.Nav}{f:W.Fused}(h:({ n with cycle:=n.cycle+1 }:W.Nav).sense m=(s,f)):sensed n m=({ s with clean:=s.clean&&f.clean },f):=by
 unfold sensed
 dsimp only
 rw [h]
theorem NavOk.sense1{n:W.Nav}{m:Ml.M}(h:NavOk n)(hc:n.cycle<100000):NavOk (({ n with cycle:=n.cycle+1 }:W.Nav).sense m).1:=by
 have h1:=(h.sensed (m:=m) hc).1
 exact { off:=h1.off,cf:=h1.cf,tk:=h1.tk,en:=h1.en,gr:=h1.gr,cy:=h1.cy,k0:=h1.k0,k1:=h1.k1,c0:=h1.c0,c1:=h1.c1,sp:=h1.sp,di:=h1.di,pl:=h1.pl,ori:=h1.ori,s0:=h1.s0,s1:=h1.s1,st:=h1.st,ro:=h1.ro,w0:=h1.w0,w1:=h1.w1 }
theorem MoveR.on{n n':W.Nav}{s:W.Sp}{over:Bool}(h:MoveR n s n' over)(ho:n'.place.on=true):n.place.on=true:=by
 obtain⟨l,_,rfl,_⟩:=h
 cases hon:n.place.on with
 |true=>rfl
 |false =>
  have:(if n.place.on then (n.place.move n.t s).1 else n.place).on=true:=ho
  rw [if_neg (by rw [hon];simp)] at this
  rw [hon] at this
  exact this
theorem LookR.at64{n:W.Nav}{m:Ml.M}{was:W.Place}{s:W.Sp}{x:W.Found}(h:LookR n m was s x)(hN:NavOk n):∀ y∈x.at_,W.I64 y:=by
 rcases h with ⟨_,rfl⟩|⟨_,_,rfl⟩|⟨h5,i,hf,h⟩
 ·intro y hy;cases hy
 ·intro y hy;cases hy
 ·rcases h with ⟨hon,l,hl,rfl⟩|⟨_,rfl⟩
  ·intro y hy
   rcases hl with ⟨_,_,hm⟩|⟨_,rfl⟩
   ·have hi:=(find_lt hf).1
    have hg:=(hN.tk.gr hi).1
    have hl2:=hN.tk.len (n.t.grps.getD i default).seg.toNat (by have:=hg.seg;omega)
    have e:n.t.len (n.t.grps.getD i default).seg=(n.t.segs.getD (n.t.grps.getD i default).seg.toNat default).length:=rfl
    have:=raw_b hN.tk.len (hN.pl hon).set.ok hg.offset.1 (by have:=hg.offset;omega) ((hm y).1 hy).1
    unfold W.I64;omega
   ·cases hy
  ·intro y hy;cases hy
theorem NavOk.watchedB{n:W.Nav}{f:W.Fused}{over acc:Bool}(h:NavOk n):NavOk { n with watch:=n.watch.next n.c f.fit f.conflict over acc }:=by
 have h1:=h.w0
 have h2:=h.w1
 have h3:=h.cf.timeout
 have hc:∀ (k:Int) (b:Bool),0≤k→0≤W.wcount k (n.c.timeout+1) b∧W.wcount k (n.c.timeout+1) b≤1001:=fun k b hk=>by unfold W.wcount;split<;>omega
 exact { off:=h.off,cf:=h.cf,tk:=h.tk,en:=h.en,gr:=h.gr,cy:=h.cy,k0:=h.k0,k1:=h.k1,c0:=h.c0,c1:=h.c1,sp:=h.sp,di:=h.di,pl:=h.pl,ori:=h.ori,s0:=h.s0,s1:=h.s1,st:=h.st,ro:=h.ro,w0:=hc _ _ h1.1,w1:=hc _ _ h2.1 }
def seqDrop:Nat→Code→Code
 |0,c=>c
 |k+1,.seq a b=>seqDrop k b
 |_+1,c=>c
noncomputable def stepCode:Code:=(Tryz.f32).body.getD .skip
def endN(n5:W.Nav)(f:W.Fused)(cmd:Bool):W.Nav:=rolled (if n5.watch.failed then { n5 with place:=W.Place.none } else n5) f cmd
theorem stepTailC(E:En)(hEg:E.gs.length=1)(n:W.Nav)(n5:W.Nav)(m:Ml.M)(f:W.Fused)(was:W.Place)(x:W.Found)(cmd:Bool)(hN:NavOk n5)(hs:SpeedB n5.c f.speed)(post:AV→List OB→Prop)(hpost:∀ r',TellR (endN n5 f cmd) (opened n m x) f r'→post (.agg (rpC r')) [.blk (navC (endN n5 f cmd))]) :
  WC tab Tryz.prog 158 E (seqDrop 13 stepCode) (endG tab [.cell 6 44] 1 post) [(0,AV.own 0 0),(2,AV.bool cmd),(6,AV.own 1 0),(7,AV.own 2 0),(8,AV.own 3 0),(9,AV.own 4 0),(12,AV.own 6 0)] [OB.blk (navC n5),OB.blk (rpL { W.Report.empty 0 with mode:=0 } .emp),OB.blk (rpL { W.Report.empty n.cycle with bad:=m.bad,stale:=m.stale,twice:=m.twice,beyond:=m.beyond } .emp),OB.blk (mlC m),OB.blk (fusedC f),OB.blk (plC was),OB.blk [I x.group,isV x.at_,.bool x.ok,.bool x.accepted]]:=by
 conv in seqDrop 13 stepCode=>whnf
 have hcf:=hN.cf
 have hms:=hcf.maxSpeed
 have h1:=hs.lo
 have h2:=hs.hi
 have h3:=hs.right
 have hstl:=stNext n5.still.count n5.still.on n5.c f.speed.lo f.speed.hi f.fit (by have:=hcf.stillSpeed;have:=hcf.radBase;omega) hcf.stillSpeed.2 hN.st.1 (by have:=hN.st;omega) (by have:=hcf.still;omega) (by have:=hcf.still;omega)
 have hrol:=roNext n5.roll.anchored n5.roll.on n5.roll.moved.lo n5.roll.moved.hi n5.c (n5.still.next n5.c f.speed f.fit).on cmd f.speed.lo f.speed.hi hcf.roll.1 hcf.roll.2 hN.ro.1 hN.ro.2 (by unfold W.I64;omega) (by unfold W.I64;omega)
 cases hfl:n5.watch.failed
 ·have hE:endN n5 f cmd=({ n5 with still:=n5.still.next n5.c f.speed f.fit,roll:=n5.roll.next n5.c (n5.still.next n5.c f.speed f.fit).on cmd f.speed }:W.Nav):=by
   unfold endN
   rw [hfl];(try rfl)
  have hNE:NavOk ({ n5 with still:=n5.still.next n5.c f.speed f.fit,roll:=n5.roll.next n5.c (n5.still.next n5.c f.speed f.fit).on cmd f.speed }:W.Nav):=by
   rw [← hE]
   unfold endN
   rw [hfl]
   exact NavOk.rolled (n:=n5) (f:=f) (cmd:=cmd) (hN)
  rw [hE] at hpost
  have htl:=(navTell ({ n5 with still:=n5.still.next n5.c f.speed f.fit,roll:=n5.roll.next n5.c (n5.still.next n5.c f.speed f.fit).on cmd f.speed }:W.Nav) (opened n m x) f hNE hs rfl).imp (fun v gs ⟨h1,a,h2,h3⟩=>(⟨a,h1,h2,h3⟩:∃ a:W.Report,v=AV.tup []∧gs=[OB.blk (navC ({ n5 with still:=n5.still.next n5.c f.speed f.fit,roll:=n5.roll.next n5.c (n5.still.next n5.c f.speed f.fit).on cmd f.speed }:W.Nav)),OB.blk (rpC a)]∧TellR ({ n5 with still:=n5.still.next n5.c f.speed f.fit,roll:=n5.roll.next n5.c (n5.still.next n5.c f.speed f.fit).on cmd f.speed }:W.Nav) (opened n m x) f a))
  conv=>whnf
  repeat' (first|((first|(refine Drw.len 17 16 rfl rfl ?_;refine Drw.lateP tabOk [0,1,2,3,4,5,6,7,8,9,10,11,12,13,14,15] [] [16] (by kernel_rfl) (by kernel_rfl) ?_)|(refine Drw.len 21 20 rfl rfl ?_;refine Drw.lateP tabOk [0,1,2,3,4,5,6,7,8,9,10,11,12,13,14,15,16,17,18,19] [] [20] (by kernel_rfl) (by kernel_rfl) ?_)|(refine Drw.len 9 6 rfl rfl ?_;refine Drw.join tabOk [(0,.own 0 0),(6,.own 1 0),(7,.own 2 0),(9,.own 4 0)] [OB.blk (navC ({ n5 with still:=n5.still.next n5.c f.speed f.fit,roll:=n5.roll.next n5.c (n5.still.next n5.c f.speed f.fit).on cmd f.speed }:W.Nav)),OB.blk (rpL { W.Report.empty 0 with mode:=0 } .emp),OB.blk (rpL (opened n m x) .emp),OB.blk (mlC m),OB.blk (fusedC f)] rfl rfl (by rw [hEg];simp) (Drw.held tabOk 8 3 [0,2] (.alt (.go 1 (.alt (.go 3 (.alt (.go 4 (.go 5 (.go 6 (.go 7 (.go 8 .done))))) (.go 5 (.alt (.go 4 (.go 6 (.go 7 (.go 8 .done)))) (.go 6 (.go 4 (.go 7 (.go 8 .done)))))))) (.go 5 (.alt (.go 3 (.alt (.go 4 (.go 6 (.go 7 (.go 8 .done)))) (.go 6 (.go 4 (.go 7 (.go 8 .done)))))) (.go 6 (.go 3 (.go 4 (.go 7 (.go 8 .done))))))))) (.go 3 (.alt (.go 1 (.alt (.go 4 (.go 5 (.go 6 (.go 7 (.go 8 .done))))) (.go 5 (.alt (.go 4 (.go 6 (.go 7 (.go 8 .done)))) (.go 6 (.go 4 (.go 7 (.go 8 .done)))))))) (.go 4 (.go 1 (.go 5 (.go 6 (.go 7 (.go 8 .done))))))))) 7 rfl rfl rfl rfl (by kernel_rfl) ?_) ?_)|refine JoinLeaf (by repeat (first|exact trivial|refine And.intro rfl ?_)) (by repeat (first|exact trivial|refine And.intro rfl ?_)) ?_|refine And.intro rfl ?_|refine CallS.call (CallN.updA (α:=W.Report) (R:=fun _=>AV.tup []) (G:=fun a=>[OB.blk (navC ({ n5 with still:=n5.still.next n5.c f.speed f.fit,roll:=n5.roll.next n5.c (n5.still.next n5.c f.speed f.fit).on cmd f.speed }:W.Nav)),OB.blk (rpC a)]) (p:=fun a=>TellR ({ n5 with still:=n5.still.next n5.c f.speed f.fit,roll:=n5.roll.next n5.c (n5.still.next n5.c f.speed f.fit).on cmd f.speed }:W.Nav) (opened n m x) f a) [0,2] [] (RvJL.cons (RvJ.ownP rfl) (RvJL.cons (RvJ.ownP rfl) (RvJL.pu rfl))) (Als.nil _) (by simp) ⟨rfl,by decide,by simp,Giv.consB rfl (RcJ.pu rfl) (Giv.consB rfl (RcJ.pu rfl) Giv.done)⟩ htl ?_)|refine ForA.mk (fun r' hr'=>?_)|refine Br.of (by assumption) ?_|refine CallD.pu (hstl) rfl ?_|refine CallD.pu (hrol) rfl ?_);conv=>whnf)|((refine Both.mk ?_ ?_)<;>conv=>whnf))
  all_goals (try exact trivial)
  all_goals
   exact FinAt.asis [] (RvL.pu rfl) (by simp) (by show 1≤_;simp) rfl (hpost r' hr')
 ·have hE:endN n5 f cmd=({ n5 with place:=W.Place.none,still:=n5.still.next n5.c f.speed f.fit,roll:=n5.roll.next n5.c (n5.still.next n5.c f.speed f.fit).on cmd f.speed }:W.Nav):=by
   unfold endN
   rw [hfl];(try rfl)
  have hNE:NavOk ({ n5 with place:=W.Place.none,still:=n5.still.next n5.c f.speed f.fit,roll:=n5.roll.next n5.c (n5.still.next n5.c f.speed f.fit).on cmd f.speed }:W.Nav):=by
   rw [← hE]
   unfold endN
   rw [hfl]
   exact NavOk.rolled (n:={ n5 with place:=W.Place.none }) (f:=f) (cmd:=cmd) ({ off:=hN.off,cf:=hN.cf,tk:=hN.tk,en:=hN.en,gr:=hN.gr,cy:=hN.cy,k0:=hN.k0,k1:=hN.k1,c0:=hN.c0,c1:=hN.c1,sp:=hN.sp,di:=hN.di,pl:=(fun h=>by cases h),ori:=hN.ori,s0:=hN.s0,s1:=hN.s1,st:=hN.st,ro:=hN.ro,w0:=hN.w0,w1:=hN.w1 })
  rw [hE] at hpost
  have htl:=(navTell ({ n5 with place:=W.Place.none,still:=n5.still.next n5.c f.speed f.fit,roll:=n5.roll.next n5.c (n5.still.next n5.c f.speed f.fit).on cmd f.speed }:W.Nav) (opened n m x) f hNE hs rfl).imp (fun v gs ⟨h1,a,h2,h3⟩=>(⟨a,h1,h2,h3⟩:∃ a:W.Report,v=AV.tup []∧gs=[OB.blk (navC ({ n5 with place:=W.Place.none,still:=n5.still.next n5.c f.speed f.fit,roll:=n5.roll.next n5.c (n5.still.next n5.c f.speed f.fit).on cmd f.speed }:W.Nav)),OB.blk (rpC a)]∧TellR ({ n5 with place:=W.Place.none,still:=n5.still.next n5.c f.speed f.fit,roll:=n5.roll.next n5.c (n5.still.next n5.c f.speed f.fit).on cmd f.speed }:W.Nav) (opened n m x) f a))
  conv=>whnf
  repeat' (first|((first|(refine Drw.len 17 16 rfl rfl ?_;refine Drw.lateP tabOk [0,1,2,3,4,5,6,7,8,9,10,11,12,13,14,15] [] [16] (by kernel_rfl) (by kernel_rfl) ?_)|(refine Drw.len 21 20 rfl rfl ?_;refine Drw.lateP tabOk [0,1,2,3,4,5,6,7,8,9,10,11,12,13,14,15,16,17,18,19] [] [20] (by kernel_rfl) (by kernel_rfl) ?_)|(refine Drw.len 9 6 rfl rfl ?_;refine Drw.join tabOk [(0,.own 0 0),(6,.own 1 0),(7,.own 2 0),(9,.own 4 0)] [OB.blk (navL ({ n5 with place:=W.Place.none,still:=n5.still.next n5.c f.speed f.fit,roll:=n5.roll.next n5.c (n5.still.next n5.c f.speed f.fit).on cmd f.speed }:W.Nav) .emp),OB.blk (rpL { W.Report.empty 0 with mode:=0 } .emp),OB.blk (rpL (opened n m x) .emp),OB.blk (mlC m),OB.blk (fusedC f)] rfl rfl (by rw [hEg];simp) (Drw.held tabOk 8 3 [0,2] (.alt (.go 1 (.alt (.go 3 (.alt (.go 4 (.go 5 (.go 6 (.go 7 (.go 8 .done))))) (.go 5 (.alt (.go 4 (.go 6 (.go 7 (.go 8 .done)))) (.go 6 (.go 4 (.go 7 (.go 8 .done)))))))) (.go 5 (.alt (.go 3 (.alt (.go 4 (.go 6 (.go 7 (.go 8 .done)))) (.go 6 (.go 4 (.go 7 (.go 8 .done)))))) (.go 6 (.go 3 (.go 4 (.go 7 (.go 8 .done))))))))) (.go 3 (.alt (.go 1 (.alt (.go 4 (.go 5 (.go 6 (.go 7 (.go 8 .done))))) (.go 5 (.alt (.go 4 (.go 6 (.go 7 (.go 8 .done)))) (.go 6 (.go 4 (.go 7 (.go 8 .done)))))))) (.go 4 (.go 1 (.go 5 (.go 6 (.go 7 (.go 8 .done))))))))) 7 rfl rfl rfl rfl (by kernel_rfl) ?_) ?_)|refine JoinLeaf (by repeat (first|exact trivial|refine And.intro rfl ?_)) (by repeat (first|exact trivial|refine And.intro rfl ?_)) ?_|refine And.intro rfl ?_|refine CallS.call (CallN.updA (α:=W.Report) (R:=fun _=>AV.tup []) (G:=fun a=>[OB.blk (navC ({ n5 with place:=W.Place.none,still:=n5.still.next n5.c f.speed f.fit,roll:=n5.roll.next n5.c (n5.still.next n5.c f.speed f.fit).on cmd f.speed }:W.Nav)),OB.blk (rpC a)]) (p:=fun a=>TellR ({ n5 with place:=W.Place.none,still:=n5.still.next n5.c f.speed f.fit,roll:=n5.roll.next n5.c (n5.still.next n5.c f.speed f.fit).on cmd f.speed }:W.Nav) (opened n m x) f a) [0,2] [] (RvJL.cons (RvJ.ownP rfl) (RvJL.cons (RvJ.ownP rfl) (RvJL.pu rfl))) (Als.nil _) (by simp) ⟨rfl,by decide,by simp,Giv.consB rfl (navL_rc ({ n5 with place:=W.Place.none,still:=n5.still.next n5.c f.speed f.fit,roll:=n5.roll.next n5.c (n5.still.next n5.c f.speed f.fit).on cmd f.speed }:W.Nav) rfl) (Giv.consB rfl (RcJ.pu rfl) Giv.done)⟩ htl ?_)|refine ForA.mk (fun r' hr'=>?_)|refine Br.ot (by assumption) ?_|refine CallD.pu (hstl) rfl ?_|refine CallD.pu (hrol) rfl ?_);conv=>whnf)|((refine Both.mk ?_ ?_)<;>conv=>whnf))
  all_goals (try exact trivial)
  all_goals
   exact FinAt.asis [] (RvL.pu rfl) (by simp) (by show 1≤_;simp) rfl (hpost r' hr')
theorem navStep(n:W.Nav)(ls:List (List Nat))(cmd:Bool)(hN:NavOk n)(hcy:n.cycle<100000)(hls:∀ l∈ls,(∀ x∈l,x<256)∧l.length≤1000000)(hn:ls.length≤1000000) :
  RetO Tryz.prog 32 [.blk (navC n)] [.own 0 0,textsV ls,.bool cmd] (fun v gs'=>∃ n' r,v=.agg (rpC r)∧gs'=[.blk (navC n')]∧StepR n (Ml.sort n.cycle ls) cmd n' r):=by
 have hc0:=hN.cy
 have hoff:=hN.off
 have hS:=mailSort n.cycle ls ⟨hc0.1,by omega⟩ hls hn
 have hfit:=Ml.sort_fit n.cycle ls (fun l hl=>(hls l hl).1)
 obtain⟨m,hm⟩:∃ m,m=Ml.sort n.cycle ls:=⟨_,rfl⟩
 rw [← hm] at hS hfit ⊢
 have hN1:=hN.sense1 (m:=m) hcy
 have hsp1:SpeedB n.c (({ n with cycle:=n.cycle+1 }:W.Nav).sense m).2.speed:=(hN.sensed (m:=m) hcy).2
 have hsn:=sense_ { n with cycle:=n.cycle+1 } m (hN.k0.ok hc0) (hN.k1.ok hc0) hN1 hfit
 obtain⟨s,f,hsf⟩:∃ s f,({ n with cycle:=n.cycle+1 }:W.Nav).sense m=(s,f):=⟨_,_,rfl⟩
 rw [hsf] at hN1 hsp1 hsn
 have hsd:=sensed_of hsf
 have hsc:s.c=n.c∧s.dist=n.dist∧s.cycle=n.cycle+1∧s.place=n.place:=by
  have:s=(({ n with cycle:=n.cycle+1 }:W.Nav).sense m).1:=by rw [hsf]
  rw [this]
  exact⟨rfl,rfl,rfl,rfl⟩
 dsimp only at hN1 hsp1 hsn
 refine enterO tabOk (N:=158) (gs:=[_]) (args:=[_,_,_]) Tryz.func32 rfl rfl rfl (nLe rfl) (fun E hE=>?_)
 have hr0:(W.Report.empty n.cycle).routes=[]:=rfl
 have hEg:=hE
 cases hcl:s.clean
 ·have hsd2:sensed n m=(({ s with clean:=false }:W.Nav),f):=by rw [hsd,hcl];(try rfl)
  have hN2:NavOk ({ s with clean:=false }:W.Nav):=by have:=(hN.sensed (m:=m) hcy).1;rw [hsd2] at this;exact this
  conv=>whnf
  repeat' ((first|(refine Drw.len 16 9 rfl rfl ?_;refine Drw.held tabOk 8 3 [0,1,2,3,4,5,6,7,8] (.go 9 (.go 10 (.go 11 (.go 12 (.go 13 (.go 14 (.go 15 .done))))))) 7 rfl rfl rfl rfl (by kernel_rfl) ?_)|refine And.intro rfl ?_|refine CallS.call (CallN.updE [0] [] (RvJL.cons (RvJ.ownP rfl) (RvJL.pu rfl)) (Als.nil _) (by simp) (Giv.one rfl (by simp) (RcJ.pu rfl)) (hsn) ?_)|refine Br.of (by assumption) ?_|refine CallS.q (hS) rfl ?_|refine Ob.mk (by unfold W.I64 at *;omega) ?_);conv=>whnf)
  refine CallS.call (CallN.updA (α:=W.Nav×Bool) (R:=fun a=>.bool a.2) (G:=fun a=>[.blk (navC a.1)]) (p:=fun a=>MoveR ({ s with clean:=false }:W.Nav) f.speed a.1 a.2) [0] [] (RvJL.cons (RvJ.ownP rfl) (RvJL.pu rfl)) (Als.nil _) (by simp) (Giv.one rfl (by simp) (RcJ.pu rfl)) ((navMove ({ s with clean:=false }:W.Nav) f.speed hN2 (hsc.1 ▸ hsp1)).imp (fun v gs ⟨a,b,h1,h2,h3⟩=>⟨(a,b),h1,h2,h3⟩)) (ForA.mk (fun a ha=>?_)))
  obtain⟨n3,over⟩:=a
  dsimp only at ha
  have hN3:=hN2.moved (by show s.dist≤16777216*(s.cycle-1);rw [hsc.2.1,hsc.2.2.1];have:=hN.di;omega) (hsc.1 ▸ hsp1) ha
  have hw3:n3.place.on=true→W.I64 s.place.pos.lo∧W.I64 s.place.pos.hi:=fun ho=>by
   have:=hN2.pl (ha.on ho)
   have h1:=this.lo
   have h2:=this.hi
   dsimp only at h1 h2
   unfold W.I64;omega
  have hc3:n3.c=n.c:=by obtain⟨l,_,rfl,_⟩:=ha;exact hsc.1
  have hs3:SpeedB n3.c f.speed:=by rw [hc3];exact hsp1
  conv=>whnf
  refine CallS.call (CallN.updA (α:=W.Found) (R:=fun a=>foundV a) (G:=fun _=>[.blk (navC n3)]) (p:=fun a=>LookR n3 m s.place f.speed a) [0] [] (RvJL.cons (RvJ.ownP rfl) (RvJL.pu rfl)) (Als.nil _) (by simp) (Giv.one rfl (by simp) (RcJ.pu rfl)) (navLook n3 m s.place f.speed hN3 hs3 hw3 hfit) (ForA.mk (fun x hk=>?_)))
  have hat:=hk.at64 hN3
  have hN4:=hN3.accepted hk hs3
  cases hacc:x.accepted
  ·have e4:Y.accepted n3 x f=n3:=by unfold Y.accepted;rw [hacc];(try rfl)
   rw [e4] at hN4
   have hc4:n3.c=n3.c:=by first|rfl|(rw [← e4];exact(accepted_c n3 x f).1)
   have hs4:SpeedB n3.c f.speed:=by rw [hc4];exact hs3
   have hcf:=hN4.cf
   have hwa:=waNext n3.watch.silent n3.watch.strife n3.watch.failed n3.c f.fit f.conflict over x.accepted hN4.w0.1 hN4.w0.2 hN4.w1.1 hN4.w1.2 (by have:=hcf.timeout;omega) hcf.timeout.2
   have hN5:NavOk ({ n3 with watch:=n3.watch.next n3.c f.fit f.conflict over x.accepted }:W.Nav):=hN4.watchedB
   have htail:=stepTailC E hE n ({ n3 with watch:=n3.watch.next n3.c f.fit f.conflict over x.accepted }:W.Nav) m f s.place x cmd hN5 hs4 (fun v gs'=>∃ n' r,v=.agg (rpC r)∧gs'=[.blk (navC n')]∧StepR n m cmd n' r) (fun r' hr'=>⟨endN ({ n3 with watch:=n3.watch.next n3.c f.fit f.conflict over x.accepted }:W.Nav) f cmd,r',rfl,rfl,n3,over,x,by rw [hsd2];exact ha,by rw [hsd2];exact hk,by rw [hsd2,e4];rfl,by rw [hsd2];exact hr'⟩)
   conv=>whnf
   repeat' ((first|refine JoinLeaf (by repeat (first|exact trivial|refine And.intro rfl ?_)) (by repeat (first|exact trivial|refine And.intro rfl ?_)) ?_|(refine Drw.len 20 19 rfl rfl ?_;refine Drw.join tabOk [(0,AV.own 0 0),(2,AV.bool cmd),(6,AV.own 1 0),(7,AV.own 2 0),(8,AV.own 3 0),(9,AV.own 4 0),(12,AV.own 6 0)] [OB.blk (navC ({ n3 with watch:=n3.watch.next n3.c f.fit f.conflict over x.accepted }:W.Nav)),OB.blk (rpL { W.Report.empty 0 with mode:=0 } .emp),OB.blk (rpL { W.Report.empty n.cycle with bad:=m.bad,stale:=m.stale,twice:=m.twice,beyond:=m.beyond } .emp),OB.blk (mlC m),OB.blk (fusedC f),OB.blk (plC s.place),OB.blk [I x.group,isV x.at_,.bool x.ok,.bool x.accepted]] rfl rfl (by rw [hEg];simp) (Drw.lateP tabOk [0,1,2,3,4,5,6,7,8,9,10,11,12,13,14,15,16,17,18] [] [19] (by kernel_rfl) (by kernel_rfl) ?_) htail)|refine Br.of (by assumption) ?_|refine CallD.pu (hwa) rfl ?_);conv=>whnf)
   all_goals exact trivial
  ·have e4:Y.accepted n3 x f=(n3.accept x f.speed):=by unfold Y.accepted;rw [hacc];(try rfl)
   rw [e4] at hN4
   have hc4:(n3.accept x f.speed).c=n3.c:=by first|rfl|(rw [← e4];exact(accepted_c n3 x f).1)
   obtain⟨i,hxg,hi,_,_⟩:=hk.grp hacc
   have hAC:=navAccept n3 x f.speed i hN3 hs3 hxg hi hat
   obtain⟨n4,hn4⟩:∃ n4,n4=n3.accept x f.speed:=⟨_,rfl⟩
   rw [← hn4] at hN4 hc4 e4 hAC
   have hs4:SpeedB n4.c f.speed:=by rw [hc4];exact hs3
   have hcf:=hN4.cf
   have hwa:=waNext n4.watch.silent n4.watch.strife n4.watch.failed n4.c f.fit f.conflict over x.accepted hN4.w0.1 hN4.w0.2 hN4.w1.1 hN4.w1.2 (by have:=hcf.timeout;omega) hcf.timeout.2
   have hN5:NavOk ({ n4 with watch:=n4.watch.next n4.c f.fit f.conflict over x.accepted }:W.Nav):=hN4.watchedB
   have htail:=stepTailC E hE n ({ n4 with watch:=n4.watch.next n4.c f.fit f.conflict over x.accepted }:W.Nav) m f s.place x cmd hN5 hs4 (fun v gs'=>∃ n' r,v=.agg (rpC r)∧gs'=[.blk (navC n')]∧StepR n m cmd n' r) (fun r' hr'=>⟨endN ({ n4 with watch:=n4.watch.next n4.c f.fit f.conflict over x.accepted }:W.Nav) f cmd,r',rfl,rfl,n3,over,x,by rw [hsd2];exact ha,by rw [hsd2];exact hk,by rw [hsd2,e4];rfl,by rw [hsd2];exact hr'⟩)
   conv=>whnf
   repeat' ((first|refine CallS.call (CallN.updE [0] [] (RvJL.cons (RvJ.ownP rfl) (RvJL.pu rfl)) (Als.nil _) (by simp) (Giv.one rfl (by simp) (RcJ.pu rfl)) (hAC) ?_)|refine JoinLeaf (by repeat (first|exact trivial|refine And.intro rfl ?_)) (by repeat (first|exact trivial|refine And.intro rfl ?_)) ?_|(refine Drw.len 20 19 rfl rfl ?_;refine Drw.join tabOk [(0,AV.own 0 0),(2,AV.bool cmd),(6,AV.own 1 0),(7,AV.own 2 0),(8,AV.own 3 0),(9,AV.own 4 0),(12,AV.own 6 0)] [OB.blk (navC ({ n4 with watch:=n4.watch.next n4.c f.fit f.conflict over x.accepted }:W.Nav)),OB.blk (rpL { W.Report.empty 0 with mode:=0 } .emp),OB.blk (rpL { W.Report.empty n.cycle with bad:=m.bad,stale:=m.stale,twice:=m.twice,beyond:=m.beyond } .emp),OB.blk (mlC m),OB.blk (fusedC f),OB.blk (plC s.place),OB.blk [I x.group,isV x.at_,.bool x.ok,.bool x.accepted]] rfl rfl (by rw [hEg];simp) (Drw.lateP tabOk [0,1,2,3,4,5,6,7,8,9,10,11,12,13,14,15,16,17,18] [] [19] (by kernel_rfl) (by kernel_rfl) ?_) htail)|refine Br.ot (by assumption) ?_|refine CallD.pu (hwa) rfl ?_);conv=>whnf)
   all_goals exact trivial
 ·have hsd2:sensed n m=(({ s with clean:=f.clean }:W.Nav),f):=by rw [hsd,hcl];(try rfl)
  have hN2:NavOk ({ s with clean:=f.clean }:W.Nav):=by have:=(hN.sensed (m:=m) hcy).1;rw [hsd2] at this;exact this
  conv=>whnf
  repeat' ((first|(refine Drw.len 16 9 rfl rfl ?_;refine Drw.held tabOk 8 3 [0,1,2,3,4,5,6,7,8] (.go 9 (.go 10 (.go 11 (.go 12 (.go 13 (.go 14 (.go 15 .done))))))) 7 rfl rfl rfl rfl (by kernel_rfl) ?_)|refine And.intro rfl ?_|refine CallS.call (CallN.updE [0] [] (RvJL.cons (RvJ.ownP rfl) (RvJL.pu rfl)) (Als.nil _) (by simp) (Giv.one rfl (by simp) (RcJ.pu rfl)) (hsn) ?_)|refine Br.ot (by assumption) ?_|refine Br.of (by assumption) ?_|refine CallS.q (hS) rfl ?_|refine Ob.mk (by unfold W.I64 at *;omega) ?_);conv=>whnf)
  refine CallS.call (CallN.updA (α:=W.Nav×Bool) (R:=fun a=>.bool a.2) (G:=fun a=>[.blk (navC a.1)]) (p:=fun a=>MoveR ({ s with clean:=f.clean }:W.Nav) f.speed a.1 a.2) [0] [] (RvJL.cons (RvJ.ownP rfl) (RvJL.pu rfl)) (Als.nil _) (by simp) (Giv.one rfl (by simp) (RcJ.pu rfl)) ((navMove ({ s with clean:=f.clean }:W.Nav) f.speed hN2 (hsc.1 ▸ hsp1)).imp (fun v gs ⟨a,b,h1,h2,h3⟩=>⟨(a,b),h1,h2,h3⟩)) (ForA.mk (fun a ha=>?_)))
  obtain⟨n3,over⟩:=a
  dsimp only at ha
  have hN3:=hN2.moved (by show s.dist≤16777216*(s.cycle-1);rw [hsc.2.1,hsc.2.2.1];have:=hN.di;omega) (hsc.1 ▸ hsp1) ha
  have hw3:n3.place.on=true→W.I64 s.place.pos.lo∧W.I64 s.place.pos.hi:=fun ho=>by
   have:=hN2.pl (ha.on ho)
   have h1:=this.lo
   have h2:=this.hi
   dsimp only at h1 h2
   unfold W.I64;omega
  have hc3:n3.c=n.c:=by obtain⟨l,_,rfl,_⟩:=ha;exact hsc.1
  have hs3:SpeedB n3.c f.speed:=by rw [hc3];exact hsp1
  conv=>whnf
  refine CallS.call (CallN.updA (α:=W.Found) (R:=fun a=>foundV a) (G:=fun _=>[.blk (navC n3)]) (p:=fun a=>LookR n3 m s.place f.speed a) [0] [] (RvJL.cons (RvJ.ownP rfl) (RvJL.pu rfl)) (Als.nil _) (by simp) (Giv.one rfl (by simp) (RcJ.pu rfl)) (navLook n3 m s.place f.speed hN3 hs3 hw3 hfit) (ForA.mk (fun x hk=>?_)))
  have hat:=hk.at64 hN3
  have hN4:=hN3.accepted hk hs3
  cases hacc:x.accepted
  ·have e4:Y.accepted n3 x f=n3:=by unfold Y.accepted;rw [hacc];(try rfl)
   rw [e4] at hN4
   have hc4:n3.c=n3.c:=by first|rfl|(rw [← e4];exact(accepted_c n3 x f).1)
   have hs4:SpeedB n3.c f.speed:=by rw [hc4];exact hs3
   have hcf:=hN4.cf
   have hwa:=waNext n3.watch.silent n3.watch.strife n3.watch.failed n3.c f.fit f.conflict over x.accepted hN4.w0.1 hN4.w0.2 hN4.w1.1 hN4.w1.2 (by have:=hcf.timeout;omega) hcf.timeout.2
   have hN5:NavOk ({ n3 with watch:=n3.watch.next n3.c f.fit f.conflict over x.accepted }:W.Nav):=hN4.watchedB
   have htail:=stepTailC E hE n ({ n3 with watch:=n3.watch.next n3.c f.fit f.conflict over x.accepted }:W.Nav) m f s.place x cmd hN5 hs4 (fun v gs'=>∃ n' r,v=.agg (rpC r)∧gs'=[.blk (navC n')]∧StepR n m cmd n' r) (fun r' hr'=>⟨endN ({ n3 with watch:=n3.watch.next n3.c f.fit f.conflict over x.accepted }:W.Nav) f cmd,r',rfl,rfl,n3,over,x,by rw [hsd2];exact ha,by rw [hsd2];exact hk,by rw [hsd2,e4];rfl,by rw [hsd2];exact hr'⟩)
   conv=>whnf
   repeat' ((first|refine JoinLeaf (by repeat (first|exact trivial|refine And.intro rfl ?_)) (by repeat (first|exact trivial|refine And.intro rfl ?_)) ?_|(refine Drw.len 20 19 rfl rfl ?_;refine Drw.join tabOk [(0,AV.own 0 0),(2,AV.bool cmd),(6,AV.own 1 0),(7,AV.own 2 0),(8,AV.own 3 0),(9,AV.own 4 0),(12,AV.own 6 0)] [OB.blk (navC ({ n3 with watch:=n3.watch.next n3.c f.fit f.conflict over x.accepted }:W.Nav)),OB.blk (rpL { W.Report.empty 0 with mode:=0 } .emp),OB.blk (rpL { W.Report.empty n.cycle with bad:=m.bad,stale:=m.stale,twice:=m.twice,beyond:=m.beyond } .emp),OB.blk (mlC m),OB.blk (fusedC f),OB.blk (plC s.place),OB.blk [I x.group,isV x.at_,.bool x.ok,.bool x.accepted]] rfl rfl (by rw [hEg];simp) (Drw.lateP tabOk [0,1,2,3,4,5,6,7,8,9,10,11,12,13,14,15,16,17,18] [] [19] (by kernel_rfl) (by kernel_rfl) ?_) htail)|refine Br.of (by assumption) ?_|refine CallD.pu (hwa) rfl ?_);conv=>whnf)
   all_goals exact trivial
  ·have e4:Y.accepted n3 x f=(n3.accept x f.speed):=by unfold Y.accepted;rw [hacc];(try rfl)
   rw [e4] at hN4
   have hc4:(n3.accept x f.speed).c=n3.c:=by first|rfl|(rw [← e4];exact(accepted_c n3 x f).1)
   obtain⟨i,hxg,hi,_,_⟩:=hk.grp hacc
   have hAC:=navAccept n3 x f.speed i hN3 hs3 hxg hi hat
   obtain⟨n4,hn4⟩:∃ n4,n4=n3.accept x f.speed:=⟨_,rfl⟩
   rw [← hn4] at hN4 hc4 e4 hAC
   have hs4:SpeedB n4.c f.speed:=by rw [hc4];exact hs3
   have hcf:=hN4.cf
   have hwa:=waNext n4.watch.silent n4.watch.strife n4.watch.failed n4.c f.fit f.conflict over x.accepted hN4.w0.1 hN4.w0.2 hN4.w1.1 hN4.w1.2 (by have:=hcf.timeout;omega) hcf.timeout.2
   have hN5:NavOk ({ n4 with watch:=n4.watch.next n4.c f.fit f.conflict over x.accepted }:W.Nav):=hN4.watchedB
   have htail:=stepTailC E hE n ({ n4 with watch:=n4.watch.next n4.c f.fit f.conflict over x.accepted }:W.Nav) m f s.place x cmd hN5 hs4 (fun v gs'=>∃ n' r,v=.agg (rpC r)∧gs'=[.blk (navC n')]∧StepR n m cmd n' r) (fun r' hr'=>⟨endN ({ n4 with watch:=n4.watch.next n4.c f.fit f.conflict over x.accepted }:W.Nav) f cmd,r',rfl,rfl,n3,over,x,by rw [hsd2];exact ha,by rw [hsd2];exact hk,by rw [hsd2,e4];rfl,by rw [hsd2];exact hr'⟩)
   conv=>whnf
   repeat' ((first|refine CallS.call (CallN.updE [0] [] (RvJL.cons (RvJ.ownP rfl) (RvJL.pu rfl)) (Als.nil _) (by simp) (Giv.one rfl (by simp) (RcJ.pu rfl)) (hAC) ?_)|refine JoinLeaf (by repeat (first|exact trivial|refine And.intro rfl ?_)) (by repeat (first|exact trivial|refine And.intro rfl ?_)) ?_|(refine Drw.len 20 19 rfl rfl ?_;refine Drw.join tabOk [(0,AV.own 0 0),(2,AV.bool cmd),(6,AV.own 1 0),(7,AV.own 2 0),(8,AV.own 3 0),(9,AV.own 4 0),(12,AV.own 6 0)] [OB.blk (navC ({ n4 with watch:=n4.watch.next n4.c f.fit f.conflict over x.accepted }:W.Nav)),OB.blk (rpL { W.Report.empty 0 with mode:=0 } .emp),OB.blk (rpL { W.Report.empty n.cycle with bad:=m.bad,stale:=m.stale,twice:=m.twice,beyond:=m.beyond } .emp),OB.blk (mlC m),OB.blk (fusedC f),OB.blk (plC s.place),OB.blk [I x.group,isV x.at_,.bool x.ok,.bool x.accepted]] rfl rfl (by rw [hEg];simp) (Drw.lateP tabOk [0,1,2,3,4,5,6,7,8,9,10,11,12,13,14,15,16,17,18] [] [19] (by kernel_rfl) (by kernel_rfl) ?_) htail)|refine Br.ot (by assumption) ?_|refine CallD.pu (hwa) rfl ?_);conv=>whnf)
   all_goals exact trivial
structure EndW(S:Nat→Prop)(w:World)(post:List AV→Prop)(e:Ending)(w':World):Prop where
 out:∃ cs vs b S',e=.returned (.pointer (some ⟨b,0,none⟩))∧post cs∧PL S' w' cs vs∧Bx w' b vs∧¬ S' b∧w.heap.size≤b∧b<w'.heap.size∧(∀ b,S b→S' b)∧(∀ b,S' b→b<w.heap.size→S b)∧(∀ b,S' b→b<w'.heap.size)∧En.Fr ⟨w,[],S⟩ w'
def RetW(P:Program)(f:Nat)(args:List AV)(post:List AV→Prop):Prop :=
 ∀ S w Vs,(∀ b,S b→b<w.heap.size)→all2 (R S w []) args Vs→Calls P f ⟨Vs⟩ w (EndW S w post)
structure FinW(vs:List AV)(own:Ow)(post:List AV→Prop):Prop where
 out:∃ (i:Nat) (cs cs':List AV) (I:List Nat),vs=[.own i 0]∧nth own i=some (.blk cs)∧RvL own I cs cs'∧¬ i∈I∧Als own I∧post cs'
def endW(T:Tab)(rs:List ResultVar)(post:List AV→Prop)(e:Exit)(tm:Tm)(own:Ow):Prop :=
 match e with
 |.ret=>resK T tm own rs fun vs=>FinW vs own post
 |.normal=>resK T tm own rs fun vs=>FinW vs own post
 |_=>False
theorem FinW.endW{P:Program}{N:Nat}{w:World}{S0:Nat→Prop}{tm:Tm}{own:Ow}{S:Nat→Prop}{ids:List Loc}{a:Act}{n:World}(hs:Sim N ⟨w,[],S0⟩ tm own S ids a n){vs:List AV}{post:List AV→Prop}(h:FinW vs own post){Vs:List Value}(hv:all2 (R S n ids) vs Vs) :
  EndW S0 w post (.returned (oneV Vs)) n:=by
 obtain⟨i,cs,cs',I,rfl,h1,h2,h3,h4,h5⟩:=h.out
 match Vs,hv with
 |[V],⟨hr,_⟩ =>
  obtain⟨b,g1,rfl⟩:=hr.own
  obtain⟨vs,g2,g3⟩:=Rv.cells h1 hs.lv g1
  obtain⟨q1,q2,q3⟩:=hs.noS i _ _ b h1 rfl g1 rfl
  have hI:∀ j∈I,(0:Nat)≤j∧∃ o,nth own j=some o∧alive o=true:=fun j hj=>⟨Nat.zero_le _,h4 j hj⟩
  refine⟨cs',vs,b,SI S ids I,rfl,h5,h2 S n ids _ hs.lv vs (R1L_R g2),g3,fun hS=>?_,?_,q2,fun b hb=>.inl (hs.snew b hb),fun b hb hlt=>hs.sold b ((hs.siLt hI hb).2 hlt) hlt,fun b hb=>(hs.siLt hI hb).1,hs.fr⟩
  ·rcases hS with hS|⟨j,L',hj,hL',e'⟩
   ·exact q1 hS
   ·obtain⟨o,g5,g6⟩:=h4 j hj
    have:=hs.dist i j _ o _ L' b h1 g5 rfl g6 g1 hL' rfl e'
    subst this
    exact h3 hj
  ·rcases q3 with q3|⟨L0,q3,_⟩
   ·exact q3
   ·simp [nth] at q3
theorem enterW{P:Program}{T:Tab}(hT:TabOk P T){f:Nat}{fn:Func}{c:Code}{N:Nat}{rs:List ResultVar}(hf:P.funcs[f]?=some fn)(hb:fn.body=some c)(hN:fn.ntmps=N)(hrs:fn.results=⟨rs⟩)
  {args:List AV} {post:List AV→Prop} (hlen:args.length≤N) (h:∀ E:En,E.gs.length=0→WC T P N E c (endW T rs post) (tmOf args 0) []):RetW P f args post:=by
 intro S w Vs hlt hV
 refine calls_of_wp hf hb ?_
 have hs:Sim N ⟨w,[],S⟩ (tmOf args 0) [] S [] { tmps:=⟨Vs⟩++Array.replicate (fn.ntmps-(⟨Vs⟩:Array Value).size) undef,defers:=[] } w:={
  size:=by have:=hV.len;simp [hN];omega
  defers:=rfl
  sl:=fun t v hv=>by
   obtain⟨_,h1⟩:=look_tmOf hv
   obtain⟨V,h2,h3⟩:=hV.get h1
   refine⟨V,?_,h3⟩
   have h4:t<Vs.length:=by have:=(List.getElem?_eq_some_iff.1 h2).1;omega
   rw [Array.getElem?_append_left (by simpa using h4)]
   simpa using h2
  len:=rfl
  live:=fun i o L hi _=>by simp [nth] at hi
  dist:=fun i j o o' L L' b hi _ _ _ _ _ _ _=>by simp [nth] at hi
  noS:=fun i o L b hi _ _ _=>by simp [nth] at hi
  pre:=Ids.refl _
  slt:=hlt
  sold:=fun b hb _=>hb
  snew:=fun b hb=>hb
  fr:=⟨rfl,rfl,rfl,Nat.le_refl _,fun _ _ _=>rfl⟩ }
 have key:∀ tm own S' ids a n,resK T tm own rs (fun vs=>FinW vs own post)→Sim N ⟨w,[],S⟩ tm own S' ids a n→a.defers=[]∧∃ v,(results fn a.tmps).run P n=.ok v n∧EndW S w post (.returned v) n:=by
  intro tm own S' ids a n hK hs
  obtain⟨vs,h1,h2⟩:=resK_sound (P:=P) hT hK
  obtain⟨Us,h3,h4⟩:=h2 N _ S' ids a n hs
  refine⟨hs.defers,oneV Us,?_,FinW.endW (P:=P) hs h1 h3⟩
  have h5:(results fn a.tmps)=((do let vs ← fn.results.mapM (resOne a.tmps);pure (if h:vs.size=1 then vs[0] else .tuple vs)):Sem Value):=by
   unfold results
   rfl
  rw [h5,hrs,Sem.run_bind,Array.mapM_eq_mapM_toList,Sem.run_map,h4]
  simp only [Result.andThen_ok]
  match Us with
  |[]=>rfl
  |[v]=>rfl
  |v::u::r=>simp [oneV,Sem.run_pure]
 refine WC_sound hT c (h ⟨w,[],S⟩ rfl) ⟨fun e a n ⟨tm,own,S',ids,hK,hs⟩=>?_,fun c a d v w hq=>⟨hq.1,hq.2⟩⟩ hs
 cases e with
 |normal=>exact key tm own S' ids a n hK hs
 |ret=>exact key tm own S' ids a n hK hs
 |_=>exact hK.elim
theorem FinW.mk'{own:Ow}{post:List AV→Prop}(i:Nat){cs cs':List AV}(I:List Nat)(hb:nth own i=some (.blk cs))(hr:RvL own I cs cs')(hi:¬ i∈I)(hI:Als own I)(h:post cs'):FinW [.own i 0] own post :=
 ⟨i,cs,cs',I,rfl,hb,hr,hi,hI,h⟩
theorem CallN.newW{P:Program}{f:Nat}{vs:List AV}{tm:Tm}{own:Ow}{N:Nat}{E:En}{dst:Option Nat}{K:Tm→Ow→Prop}{post:List AV→Prop}(h:RetW P f vs post)(hp:puL vs=true)(hK:∀ cs,post cs→put N tm dst (.own own.length 0) fun tm=>K tm (own++[.blk cs])):CallN P N E f vs dst K tm own:=by
 refine⟨fun S ids a n hs Vs hV=>?_⟩
 refine(h S n Vs hs.slt ((PL_iff.1 ((RL_pu hp).1 hV)).imp fun _ _ h=>P1_R h)).mono fun e w' ⟨cs,vs',b,S',h1,h2,h3,h4,h5,h6,h7,h8,h9,h10,h11⟩=>?_
 obtain⟨tm',g1,g2⟩:=put_sound (hK cs h2)
 have hs1:=hs.grow (Fr.past h11) h8 h9 h10
 have hs2:=hs1.push (o:=.blk cs) (L:=Loc.at_ b) ⟨b,vs',rfl,(PL_iff.1 h3).imp fun _ _ h=>P1_R1 h,h4⟩ (fun b' hb=>by
  obtain rfl:b=b':=by simpa [Loc.at_] using hb
  exact⟨h5,h7,Nat.le_trans hs.fr.size h6⟩) (fun j o' L' b' q1 q2 q3 q4 e=>by
  obtain rfl:b=b':=by simpa [Loc.at_] using e
  have:=hs.lt q1 q2 q3 q4
  omega)
 exact⟨_,h1,tm',_,S',_,g1,g2 E _ S' _ a w' _ hs2 ⟨b,by rw [← hs.len,nth_append_new],rfl⟩⟩
theorem CallN.puA{P:Program}{N:Nat}{E:En}{f:Nat}{vs:List AV}{dst:Option Nat}{K:Tm→Ow→Prop}{tm:Tm}{own:Ow}{α:Type}{R:α→AV}{p:α→Prop}(h:Ret P f vs fun v=>∃ a,v=R a∧p a)(hp:puL vs=true)
  (hK:ForA p fun a=>put N tm dst (R a) fun tm=>K tm own):CallN P N E f vs dst K tm own :=
 CallN.puP h hp fun r ⟨a,h1,h2⟩=>by subst h1;exact hK.out a h2
def startN(c:W.Conf)(t:W.Trk)(l:List Int):W.Nav:=W.Nav.start c t false t.grades l c.circ c.speeds
theorem TrkOk.grades_i64{t:W.Trk}(ht:TrkOk t):SpI t.grades:=by
 unfold W.Trk.grades
 dsimp only
 have key:∀ n,SpI (W.it t.gradesStep ⟨((t.segs.getD 0 default).pieces.getD 0 default).grade,((t.segs.getD 0 default).pieces.getD 0 default).grade⟩ n):=fun n=>by
  induction n with
  |zero=>exact⟨grade_b ht 0 0,grade_b ht 0 0⟩
  |succ n ih=>exact ih.hull (bounds_i64 (grade_b ht n))
 exact key _
theorem startN_ok{c:W.Conf}{t:W.Trk}{l:List Int}(hc:ConfB c)(ht:TrkOk t)(hl:EOk t l):NavOk (startN c t l):=by
 have h1:=hc.circLo
 have h2:=hc.circHi
 have h3:=hc.maxSpeed
 have hci:SpI c.circ:=⟨by show W.I64 c.circLo;unfold W.I64;omega,by show W.I64 c.circHi;unfold W.I64;omega⟩
 exact { off:=rfl,cf:=hc,tk:=ht,en:=hl,gr:=ht.grades_i64,cy:=⟨Int.le_refl _,by show (0:Int)≤100000;omega⟩,k0:=⟨⟨Int.le_refl _,by show (0:Int)<65536;omega⟩,by show -(32768*(0:Int))≤0∧(0:Int)≤32768*0;omega⟩,k1:=⟨⟨Int.le_refl _,by show (0:Int)<65536;omega⟩,by show -(32768*(0:Int))≤0∧(0:Int)≤32768*0;omega⟩,c0:=hci,c1:=hci,sp:=⟨Int.le_refl _,Int.le_refl _,by show -c.maxSpeed≤c.maxSpeed;omega⟩,di:=by show (0:Int)≤0∧(0:Int)≤16777216*0;omega,pl:=(fun h=>by cases h),ori:=SpI.zero,s0:=by show -(32768*(0:Int))≤0∧(0:Int)≤32768*0;omega,s1:=by show -(32768*(0:Int))≤0∧(0:Int)≤32768*0;omega,st:=by show (0:Int)≤0∧(0:Int)≤1000;omega,ro:=SpI.zero,w0:=by show (0:Int)≤0∧(0:Int)≤1001;omega,w1:=by show (0:Int)≤0∧(0:Int)≤1001;omega }
theorem navL_rv{own:Ow}{I:List Nat}(n:W.Nav)(h:n.place.set.list=[]):RvL own I (navL n .emp) (navC n):=by
 have e:navC n=navL n (rtsV []):=by rw [← h]
 rw [e]
 unfold navL
 repeat (first|exact RvL.nil|refine RvL.cons (Rv.pu rfl) ?_|refine RvL.cons Rv.emp ?_)
theorem navNew(c:W.Conf)(t:W.Trk)(hf:(W.fits c t).1=0)(hck:t.check.1=0)(hcb:ConfB c)(hI:ImgOk t)(hc:ConfI c)(hTI:TrkI t):RetW Tryz.prog 30 [confV c,bytesV (packT t)] (fun cs=>∃ l,EOk t l∧cs=navC (startN c t l)):=by
 have ht:=TrkOk.of hck
 have hms:=hcb.maxSpeed
 have hft:=fits c t hc hTI
 rw [hf] at hft
 obtain⟨c2,hc2⟩:∃ c2,c2=(W.fits c t).2:=⟨_,rfl⟩
 rw [← hc2] at hft
 have hsg:=ht.n
 have hen:=(ends_ t ht.len ht.nok.1 ht.nok.2.1 (by omega)).imp (fun v _ ⟨l,h1,h2⟩=>(⟨l,h1,h2⟩:∃ l:List Int,v=isV l∧EOk t l))
 refine enterW tabOk (N:=39) (args:=[_,_]) Tryz.func30 rfl rfl rfl (nLe rfl) (fun E hE=>?_)
 conv=>whnf
 repeat' (first|((first|(refine Drw.len 16 14 rfl rfl ?_;refine Drw.held tabOk 2 0 [0,6,8,11] (.alt (.go 1 (.alt (.go 2 (.alt (.go 3 (.go 4 (.go 5 (.go 7 (.go 9 (.alt (.go 10 (.go 12 (.go 13 (.go 14 (.go 15 .done))))) (.go 12 (.go 10 (.go 13 (.go 14 (.go 15 .done))))))))))) (.go 4 (.go 3 (.go 5 (.go 7 (.go 9 (.alt (.go 10 (.go 12 (.go 13 (.go 14 (.go 15 .done))))) (.go 12 (.go 10 (.go 13 (.go 14 (.go 15 .done))))))))))))) (.go 4 (.go 2 (.go 3 (.go 5 (.go 7 (.go 9 (.alt (.go 10 (.go 12 (.go 13 (.go 14 (.go 15 .done))))) (.go 12 (.go 10 (.go 13 (.go 14 (.go 15 .done)))))))))))))) (.alt (.go 2 (.alt (.go 1 (.alt (.go 3 (.go 4 (.go 5 (.go 7 (.go 9 (.alt (.go 10 (.go 12 (.go 13 (.go 14 (.go 15 .done))))) (.go 12 (.go 10 (.go 13 (.go 14 (.go 15 .done))))))))))) (.go 4 (.go 3 (.go 5 (.go 7 (.go 9 (.alt (.go 10 (.go 12 (.go 13 (.go 14 (.go 15 .done))))) (.go 12 (.go 10 (.go 13 (.go 14 (.go 15 .done))))))))))))) (.alt (.go 3 (.alt (.go 1 (.go 4 (.go 5 (.go 7 (.go 9 (.alt (.go 10 (.go 12 (.go 13 (.go 14 (.go 15 .done))))) (.go 12 (.go 10 (.go 13 (.go 14 (.go 15 .done))))))))))) (.go 4 (.alt (.go 1 (.go 5 (.go 7 (.go 9 (.alt (.go 10 (.go 12 (.go 13 (.go 14 (.go 15 .done))))) (.go 12 (.go 10 (.go 13 (.go 14 (.go 15 .done)))))))))) (.go 5 (.alt (.go 1 (.go 7 (.go 9 (.alt (.go 10 (.go 12 (.go 13 (.go 14 (.go 15 .done))))) (.go 12 (.go 10 (.go 13 (.go 14 (.go 15 .done))))))))) (.go 7 (.alt (.go 1 (.go 9 (.alt (.go 10 (.go 12 (.go 13 (.go 14 (.go 15 .done))))) (.go 12 (.go 10 (.go 13 (.go 14 (.go 15 .done)))))))) (.go 9 (.alt (.go 1 (.alt (.go 10 (.go 12 (.go 13 (.go 14 (.go 15 .done))))) (.go 12 (.go 10 (.go 13 (.go 14 (.go 15 .done))))))) (.alt (.go 10 (.alt (.go 1 (.go 12 (.go 13 (.go 14 (.go 15 .done))))) (.go 12 (.go 1 (.go 13 (.go 14 (.go 15 .done))))))) (.go 12 (.alt (.go 1 (.go 10 (.go 13 (.go 14 (.go 15 .done))))) (.go 10 (.go 1 (.go 13 (.go 14 (.go 15 .done)))))))))))))))))) (.go 4 (.alt (.go 1 (.go 3 (.go 5 (.go 7 (.go 9 (.alt (.go 10 (.go 12 (.go 13 (.go 14 (.go 15 .done))))) (.go 12 (.go 10 (.go 13 (.go 14 (.go 15 .done))))))))))) (.go 3 (.alt (.go 1 (.go 5 (.go 7 (.go 9 (.alt (.go 10 (.go 12 (.go 13 (.go 14 (.go 15 .done))))) (.go 12 (.go 10 (.go 13 (.go 14 (.go 15 .done)))))))))) (.go 5 (.alt (.go 1 (.go 7 (.go 9 (.alt (.go 10 (.go 12 (.go 13 (.go 14 (.go 15 .done))))) (.go 12 (.go 10 (.go 13 (.go 14 (.go 15 .done))))))))) (.go 7 (.alt (.go 1 (.go 9 (.alt (.go 10 (.go 12 (.go 13 (.go 14 (.go 15 .done))))) (.go 12 (.go 10 (.go 13 (.go 14 (.go 15 .done)))))))) (.go 9 (.alt (.go 1 (.alt (.go 10 (.go 12 (.go 13 (.go 14 (.go 15 .done))))) (.go 12 (.go 10 (.go 13 (.go 14 (.go 15 .done))))))) (.alt (.go 10 (.alt (.go 1 (.go 12 (.go 13 (.go 14 (.go 15 .done))))) (.go 12 (.go 1 (.go 13 (.go 14 (.go 15 .done))))))) (.go 12 (.alt (.go 1 (.go 10 (.go 13 (.go 14 (.go 15 .done))))) (.go 10 (.go 1 (.go 13 (.go 14 (.go 15 .done))))))))))))))))))))) (.go 4 (.alt (.go 1 (.go 2 (.go 3 (.go 5 (.go 7 (.go 9 (.alt (.go 10 (.go 12 (.go 13 (.go 14 (.go 15 .done))))) (.go 12 (.go 10 (.go 13 (.go 14 (.go 15 .done)))))))))))) (.go 2 (.alt (.go 1 (.go 3 (.go 5 (.go 7 (.go 9 (.alt (.go 10 (.go 12 (.go 13 (.go 14 (.go 15 .done))))) (.go 12 (.go 10 (.go 13 (.go 14 (.go 15 .done))))))))))) (.go 3 (.alt (.go 1 (.go 5 (.go 7 (.go 9 (.alt (.go 10 (.go 12 (.go 13 (.go 14 (.go 15 .done))))) (.go 12 (.go 10 (.go 13 (.go 14 (.go 15 .done)))))))))) (.go 5 (.alt (.go 1 (.go 7 (.go 9 (.alt (.go 10 (.go 12 (.go 13 (.go 14 (.go 15 .done))))) (.go 12 (.go 10 (.go 13 (.go 14 (.go 15 .done))))))))) (.go 7 (.alt (.go 1 (.go 9 (.alt (.go 10 (.go 12 (.go 13 (.go 14 (.go 15 .done))))) (.go 12 (.go 10 (.go 13 (.go 14 (.go 15 .done)))))))) (.go 9 (.alt (.go 1 (.alt (.go 10 (.go 12 (.go 13 (.go 14 (.go 15 .done))))) (.go 12 (.go 10 (.go 13 (.go 14 (.go 15 .done))))))) (.alt (.go 10 (.alt (.go 1 (.go 12 (.go 13 (.go 14 (.go 15 .done))))) (.go 12 (.go 1 (.go 13 (.go 14 (.go 15 .done))))))) (.go 12 (.alt (.go 1 (.go 10 (.go 13 (.go 14 (.go 15 .done))))) (.go 10 (.go 1 (.go 13 (.go 14 (.go 15 .done)))))))))))))))))))))) 12 rfl rfl rfl rfl (by kernel_rfl) ?_)|refine And.intro rfl ?_|refine CallS.call (CallN.puA (R:=fun l=>isV l) (p:=fun l=>EOk t l) hen rfl ?_)|refine ForA.mk (fun l hl=>?_)|refine Br.pt (by omega) ?_|refine Br.nf (by omega) ?_|refine CallS.q (open_ t hI hTI hck) rfl ?_|refine CallS.q (hft) rfl ?_|refine CallS.q (trkGrades t ht) rfl ?_|refine CallS.q (cfCirc c) rfl ?_|refine CallS.q (cfSpeeds c (by omega) hms.2) rfl ?_);conv=>whnf)|((refine Both.mk ?_ ?_)<;>conv=>whnf))
 all_goals exact FinW.mk' _ [] rfl (navL_rv (startN c t l) rfl) (by simp) (Als.nil _) ⟨l,hl,rfl⟩
end Y
end Go.Proofs.YtllemifiammnnaaGreat
