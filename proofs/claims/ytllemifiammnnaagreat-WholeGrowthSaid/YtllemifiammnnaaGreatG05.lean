/- Part 5 of the proof. No condition. -/
import Derived.Test.YtllemifiammnnaaGreatG04
import Derived.Test.YtllemifiammnnaaGreatG02
set_option linter.unusedVariables false
set_option linter.unusedSimpArgs false
set_option maxRecDepth 100000
set_option maxHeartbeats 4000000
namespace Go.Proofs.YtllemifiammnnaaGreat
namespace Y
open Go Go.RowKit Go.Sort
theorem Sim.recell{N:Nat}{E:En}{tm:Tm}{own:Ow}{S:Nat→Prop}{ids:List Loc}{a:Act}{n:World}(h:Sim N E tm own S ids a n){i:Nat}{cs cs':List AV}(hi:nth own i=some (.blk cs))(hc:∀ vs,all2 (R1 S n ids) cs vs→all2 (R1 S n ids) cs' vs):Sim N E tm (own.set i (.blk cs')) S ids a n:=by
 have key:∀ {j:Nat} {x:OB},nth (own.set i (.blk cs')) j=some x→∃ y,nth own j=some y∧alive x=alive y∧∀ L,Live S n ids y L→Live S n ids x L:=fun {j x} hx=>by
  by_cases e:i=j
  ·subst e
   rw [nth_set_self (nth_lt hi)] at hx
   obtain rfl:=Option.some.inj hx
   exact⟨_,hi,rfl,fun L ⟨b,vs,e,h1,h2⟩=>⟨b,vs,e,hc vs h1,h2⟩⟩
  ·rw [nth_set_ne e] at hx;exact⟨x,hx,rfl,fun L h=>h⟩
 exact { h with
  len:=by simp [h.len]
  live:=fun j x L hx hL=>by obtain⟨y,g1,g2,g3⟩:=key hx;exact g3 L (h.live j y L g1 hL)
  dist:=fun j k x y L L' b hx hy ax ay=>by
   obtain⟨x',g1,g2,_⟩:=key hx
   obtain⟨y',k1,k2,_⟩:=key hy
   exact h.dist j k x' y' L L' b g1 k1 (by rw [← g2];exact ax) (by rw [← k2];exact ay)
  noS:=fun j x L b hx ax=>by
   obtain⟨x',g1,g2,_⟩:=key hx
   exact h.noS j x' L b g1 (by rw [← g2];exact ax) }
theorem all2.setAt{α β:Type}{Q:α→β→Prop}{a x:α}(hab:∀ b,Q x b→Q a b):∀ {l:List α} {r:List β} {k:Nat},nth l k=some x→all2 Q l r→all2 Q (l.set k a) r
 |[],_,k,h,_=>by simp [nth] at h
 |y::l,v::r,0,h,⟨h1,h2⟩=>by simp only [nth,Option.some.injEq] at h;subst h;exact⟨hab v h1,h2⟩
 |y::l,v::r,k+1,h,⟨h1,h2⟩=>by simp only [nth] at h;exact⟨h1,all2.setAt hab h h2⟩
 |_::_,[],_,_,h=>h.elim
theorem CallS.emp{P:Program}{N:Nat}{E:En}{o:Oper}{f:Nat}{vs:List AV}{K:Tm→Ow→Prop}{tm:Tm}{own:Ow}(i k e sz:Nat){cs:List AV}(hi:nth own i=some (.blk cs))(hk:nth cs k=some .emp)
  (h:CallN P N E f vs o.dst K tm (own.set i (.blk (cs.set k (.gro own.length 0)))++[.buf e sz []])):CallS P N E o f vs K tm own:=by
 refine .call ⟨fun S ids a n hs Vs hV=>?_⟩
 have h1:=hs.emp e sz
 have hi':nth (own++[OB.buf e sz []]) i=some (.blk cs):=by rw [nth_append_old _ (nth_lt hi)];exact hi
 have h2:=h1.recell hi' (cs':=cs.set k (.gro own.length 0)) fun vs hv=>hv.setAt (fun b hb=>by
  obtain rfl:b=.slice none 0 0:=hb
  exact⟨_,by rw [← hs.len,nth_append_new],rfl,Nat.le_refl _,⟨none,0,0,rfl⟩,fun _=>rfl⟩) hk
 have e:(own++[OB.buf e sz []]).set i (.blk (cs.set k (.gro own.length 0)))=own.set i (.blk (cs.set k (.gro own.length 0)))++[.buf e sz []]:=by
  rw [List.set_append_left _ _ (nth_lt hi)]
 rw [e] at h2
 exact h.out S _ a n h2 Vs (hV.imp fun _ _ h=>h.ids (Ids.push _ _))
theorem along_len(t:W.Trk):∀ (a:Int) (p:List Int),(W.along t a p).length=p.length
 |_,[]=>rfl
 |a,i::l=>by simp [W.along,along_len t]
theorem pre_cons(t:W.Trk)(f:Int)(i:Int)(l:List Int)(k:Nat):pre t f (i::l) (k+1)=pre t (f-t.len i) l k:=by
 unfold pre
 rw [List.take_succ_cons,List.foldl_cons]
 congr 1
 omega
theorem along_get(t:W.Trk):∀ (f:Int) (p:List Int) (k:Nat),k<p.length→(W.along t (-f) p)[k]?=some (p.getD k 0,pre t f p k)
 |f,[],k,h=>by simp at h
 |f,i::l,0,_=>by simp [W.along,pre]
 |f,i::l,k+1,h=>by
  rw [pre_cons]
  have:=along_get t (f-t.len i) l k (by simpa using h)
  simp only [W.along,List.getElem?_cons_succ,List.getD_cons_succ]
  rw [← this]
  congr 2
  omega
theorem along_take{t:W.Trk}{f:Int}{p:List Int}{k:Nat}(h:k<p.length):(W.along t (-f) p).take (k+1)=(W.along t (-f) p).take k++[(p.getD k 0,pre t f p k)]:=by
 rw [List.take_add_one,along_get t f p k h];rfl
theorem eachP{σT:Type}(g:W.Grp)(buf:σT→List (List AV))(inv:σT→Prop)(step:σT→Int×Int→σT)(cnt:σT→Nat)(hcnt:∀ x v,cnt (step x v)≤cnt x+1)(s:W.RSet)(t:W.Trk)(ht:TLen t)(hf:0≤s.from_∧s.from_≤1099511627776)(hr:∀ i,i<s.list.length→ROk t (s.list.getD i ⟨0,[]⟩))(hlen:s.list.length≤1000000)
  (hc:∀ x (i at_:Int),inv x→cnt x<12*s.list.length→0≤i→i<t.segs.length→-1099511627776≤at_→at_≤13194139533312→RetO Tryz.prog 200 [.blk (gpC g),.blk ([.gro 2 (buf x).length]),.buf 2 1 (buf x)] [I i,I at_,.own 0 0,.own 1 0] (fun r gs'=>r=.tup []∧gs'=[.blk (gpC g),.blk ([.gro 2 (buf (step x (i,at_))).length]),.buf 2 1 (buf (step x (i,at_)))])∧inv (step x (i,at_))) (x0:σT) (h0:inv x0) (hc0:cnt x0=0) :
  RetO Tryz.prog 194 [.blk (gpC g),.blk ([.gro 2 (buf x0).length]),.buf 2 1 (buf x0)] [setV s,trkV t,.fn 200 [] [.own 0 0,.own 1 0]] (fun r gs'=>r=.tup []∧gs'=[.blk (gpC g),.blk ([.gro 2 (buf ((s.visits t).foldl step x0)).length]),.buf 2 1 (buf ((s.visits t).foldl step x0))]):=by
 refine enterO tabOk (N:=42) (args:=[_,_,_]) Tryz.func194 rfl rfl rfl (nLe rfl) (fun E hE=>?_)
 have hE:E.gs.length=3:=hE
 conv=>whnf
 refine LoopAt.rule tabOk [(2,_),(3,_),(4,_),(12,_),(13,_)] (fun (i:Nat×σT)=>[(14,.int .i64 i.1)]) (fun (i:Nat×σT)=>[.blk (gpC g),.blk ([.gro 2 (buf i.2).length]),.buf 2 1 (buf i.2),.blk [I s.from_,rtsV s.list],.blk [sgsV t.segs,gpsV t.grps]]) (fun (i:Nat×σT)=>i.1≤s.list.length∧inv i.2∧i.2=((s.list.take i.1).flatMap fun r=>W.along t (-s.from_) r.path).foldl step x0∧cnt i.2≤12*i.1) (fun (i:Nat×σT)=>s.list.length-i.1) (0,x0) (by trivial) ⟨by omega,h0,rfl,by dsimp only;omega⟩ (by trivial) (by trivial) (fun _=>⟨rfl,rfl,rfl,by simp [hE]⟩) (fun i hk=>?_)
 obtain⟨q,y⟩:=i
 obtain⟨hq,hy,he,hcy⟩:=hk
 dsimp only at hq hy he hcy ⊢
 by_cases hlt:q<s.list.length
 ·have hro:=hr q hlt
  have hl:=path_len hro.len hro.lo hro.hi
  have hln:(s.list.getD q ⟨0,[]⟩).path.length≤12:=by have:=hro.hi;omega
  conv=>whnf
  repeat' ((first|refine Br.pt (by omega) ?_|refine CallS.q (path _ hro.len hro.lo hro.hi) rfl ?_|refine Ob.mk (by omega) ?_|refine Ob.mk (by unfold W.I64 at *;omega) ?_|refine Ix.nat _ ?_);conv=>whnf)
  refine LoopAt.rule tabOk [(2,_),(3,_),(4,_),(12,_),(13,_),(14,_),(22,_),(23,_)] (fun (i:Nat×Int×σT)=>[(24,.int .i64 i.1),(8,.int .i64 i.2.1)]) (fun (i:Nat×Int×σT)=>[.blk (gpC g),.blk ([.gro 2 (buf i.2.2).length]),.buf 2 1 (buf i.2.2),.blk [I s.from_,rtsV s.list],.blk [sgsV t.segs,gpsV t.grps],.blk (rtC (s.list.getD q ⟨0,[]⟩))]) (fun (i:Nat×Int×σT)=>i.1≤(s.list.getD q ⟨0,[]⟩).path.length∧i.2.1=pre t s.from_ (s.list.getD q ⟨0,[]⟩).path i.1∧inv i.2.2∧i.2.2=((W.along t (-s.from_) (s.list.getD q ⟨0,[]⟩).path).take i.1).foldl step y∧cnt i.2.2≤12*q+i.1) (fun (i:Nat×Int×σT)=>(s.list.getD q ⟨0,[]⟩).path.length-i.1) (0,-s.from_,y) (by trivial) ⟨by omega,rfl,hy,rfl,by dsimp only;omega⟩ (by trivial) (by trivial) (fun _=>⟨rfl,rfl,rfl,by simp [hE]⟩) (fun i hk=>?_)
  obtain⟨k,at_,z⟩:=i
  obtain⟨hk,ha,hz,hze,hcz⟩:=hk
  dsimp only at hk ha hz hze hcz ⊢
  have hb:=pre_le (f:=s.from_) ht hro.p k hk
  by_cases hlt2:k<(s.list.getD q ⟨0,[]⟩).path.length
  ·have h1:=hro.p k hlt2
   have h2:=len_ok ht hro.p hlt2
   have hn:=pre_succ (t:=t) (f:=s.from_) hlt2
   have hlen2:t.len ((s.list.getD q ⟨0,[]⟩).path.getD k 0)=(t.segs.getD ((s.list.getD q ⟨0,[]⟩).path.getD k 0).toNat default).length:=rfl
   obtain⟨hcc,hinv⟩:=hc z ((s.list.getD q ⟨0,[]⟩).path.getD k 0) at_ hz (by omega) h1.1 h1.2 (by omega) (by omega)
   conv=>whnf
   repeat' ((first|refine Br.pt (by omega) ?_|refine Ob.mk (by omega) ?_|refine Ix.nat _ ?_);conv=>whnf)
   refine CallS.call (CallN.upd [0,1,2] [] (RvJL.cons (RvJ.pu rfl) (RvJL.cons (RvJ.pu rfl) (RvJL.cons (RvJ.ownP rfl) (RvJL.cons (RvJ.ownP rfl) (RvJL.nil))))) (Als.nil _) (by simp) ⟨rfl,by decide,by simp,Giv.consB rfl (RcJ.pu rfl) (Giv.consB rfl (RcJ.gro rfl RcJ.nil) (Giv.consO rfl rfl (fun cs h=>by cases h) (Giv.done)))⟩ hcc (fun r gs' hp _=>?_))
   obtain⟨rfl,rfl⟩:=hp
   conv=>whnf
   repeat' ((first|refine Ob.mk (by omega) ?_|refine Ob.mk (by unfold W.I64 at *;omega) ?_|refine Ix.tn (by omega) ?_);conv=>whnf)
   refine⟨(k+1,_,step z ((s.list.getD q ⟨0,[]⟩).path.getD k 0,at_)),⟨?_,?_,?_,?_,?_⟩,?_,(by trivial),(by trivial),(by trivial)⟩
   ·dsimp only;omega
   ·dsimp only;rw [hn,hlen2,ha]
   ·exact hinv
   ·dsimp only;rw [along_take hlt2,List.foldl_append,← hze,← ha];rfl
   ·have:=hcnt z ((s.list.getD q ⟨0,[]⟩).path.getD k 0,at_);dsimp only;omega
   ·dsimp only;omega
  ·obtain rfl:k=(s.list.getD q ⟨0,[]⟩).path.length:=by omega
   conv=>whnf
   repeat' ((first|refine Br.pf (by omega) ?_|refine Ob.mk (by unfold W.I64 at *;omega) ?_);conv=>whnf)
   refine⟨(q+1,z),⟨?_,?_,?_,?_⟩,?_,(by trivial),(by trivial),(by trivial)⟩
   ·dsimp only;omega
   ·exact hz
   ·dsimp only
    rw [List.take_succ_eq_append_getElem hlt,List.flatMap_append,List.foldl_append,← he,hze,← along_len t (-s.from_),List.take_length]
    simp [List.getD,hlt]
   ·dsimp only;omega
   ·dsimp only;omega
 ·obtain rfl:q=s.list.length:=by omega
  conv=>whnf
  repeat' ((refine Br.pf (by omega) ?_);conv=>whnf)
  refine FinAt.asis (ars:=[]) [] RvL.nil (by simp) (by show 3≤_;simp) rfl ⟨rfl,?_⟩
  rw [List.take_length] at he
  rw [show (s.visits t).foldl step x0=y from he.symm]
  rfl
theorem eachG{σT:Type}(p:W.Sp)(fb:σT→Bool)(fs:σT→W.Sp)(inv:σT→Prop)(step:σT→Int×Int→σT)(s:W.RSet)(t:W.Trk)(ht:TLen t)(hf:0≤s.from_∧s.from_≤1099511627776)(hr:∀ i,i<s.list.length→ROk t (s.list.getD i ⟨0,[]⟩))(hlen:s.list.length≤1000000)
  (hc:∀ x (i at_:Int),inv x→0≤i→i<t.segs.length→-1099511627776≤at_→at_≤13194139533312→RetO Tryz.prog 195 [.blk ([I p.lo,I p.hi]),.blk ([sgsV t.segs,gpsV t.grps]),.blk ([.bool (fb x)]),.blk ([I (fs x).lo,I (fs x).hi])] [I i,I at_,.own 0 0,.own 1 0,.own 2 0,.own 3 0] (fun r gs'=>r=.tup []∧gs'=[.blk ([I p.lo,I p.hi]),.blk ([sgsV t.segs,gpsV t.grps]),.blk ([.bool (fb (step x (i,at_)))]),.blk ([I (fs (step x (i,at_))).lo,I (fs (step x (i,at_))).hi])])∧inv (step x (i,at_))) (x0:σT) (h0:inv x0) :
  RetO Tryz.prog 194 [.blk ([I p.lo,I p.hi]),.blk ([sgsV t.segs,gpsV t.grps]),.blk ([.bool (fb x0)]),.blk ([I (fs x0).lo,I (fs x0).hi])] [setV s,trkV t,.fn 195 [] [.own 0 0,.own 1 0,.own 2 0,.own 3 0]] (fun r gs'=>r=.tup []∧gs'=[.blk ([I p.lo,I p.hi]),.blk ([sgsV t.segs,gpsV t.grps]),.blk ([.bool (fb ((s.visits t).foldl step x0))]),.blk ([I (fs ((s.visits t).foldl step x0)).lo,I (fs ((s.visits t).foldl step x0)).hi])]):=by
 refine enterO tabOk (N:=42) (args:=[_,_,_]) Tryz.func194 rfl rfl rfl (nLe rfl) (fun E hE=>?_)
 have hE:E.gs.length=4:=hE
 conv=>whnf
 refine LoopAt.rule tabOk [(2,_),(3,_),(4,_),(12,_),(13,_)] (fun (i:Nat×σT)=>[(14,.int .i64 i.1)]) (fun (i:Nat×σT)=>[.blk ([I p.lo,I p.hi]),.blk ([sgsV t.segs,gpsV t.grps]),.blk ([.bool (fb i.2)]),.blk ([I (fs i.2).lo,I (fs i.2).hi]),.blk [I s.from_,rtsV s.list],.blk [sgsV t.segs,gpsV t.grps]]) (fun (i:Nat×σT)=>i.1≤s.list.length∧inv i.2∧i.2=((s.list.take i.1).flatMap fun r=>W.along t (-s.from_) r.path).foldl step x0) (fun (i:Nat×σT)=>s.list.length-i.1) (0,x0) (by trivial) ⟨by omega,h0,rfl⟩ (by trivial) (by trivial) (fun _=>⟨rfl,rfl,rfl,by simp [hE]⟩) (fun i hk=>?_)
 obtain⟨q,y⟩:=i
 obtain⟨hq,hy,he⟩:=hk
 dsimp only at hq hy he ⊢
 by_cases hlt:q<s.list.length
 ·have hro:=hr q hlt
  have hl:=path_len hro.len hro.lo hro.hi
  have hln:(s.list.getD q ⟨0,[]⟩).path.length≤12:=by have:=hro.hi;omega
  conv=>whnf
  repeat' ((first|refine Br.pt (by omega) ?_|refine CallS.q (path _ hro.len hro.lo hro.hi) rfl ?_|refine Ob.mk (by omega) ?_|refine Ob.mk (by unfold W.I64 at *;omega) ?_|refine Ix.nat _ ?_);conv=>whnf)
  refine LoopAt.rule tabOk [(2,_),(3,_),(4,_),(12,_),(13,_),(14,_),(22,_),(23,_)] (fun (i:Nat×Int×σT)=>[(24,.int .i64 i.1),(8,.int .i64 i.2.1)]) (fun (i:Nat×Int×σT)=>[.blk ([I p.lo,I p.hi]),.blk ([sgsV t.segs,gpsV t.grps]),.blk ([.bool (fb i.2.2)]),.blk ([I (fs i.2.2).lo,I (fs i.2.2).hi]),.blk [I s.from_,rtsV s.list],.blk [sgsV t.segs,gpsV t.grps],.blk (rtC (s.list.getD q ⟨0,[]⟩))]) (fun (i:Nat×Int×σT)=>i.1≤(s.list.getD q ⟨0,[]⟩).path.length∧i.2.1=pre t s.from_ (s.list.getD q ⟨0,[]⟩).path i.1∧inv i.2.2∧i.2.2=((W.along t (-s.from_) (s.list.getD q ⟨0,[]⟩).path).take i.1).foldl step y) (fun (i:Nat×Int×σT)=>(s.list.getD q ⟨0,[]⟩).path.length-i.1) (0,-s.from_,y) (by trivial) ⟨by omega,rfl,hy,rfl⟩ (by trivial) (by trivial) (fun _=>⟨rfl,rfl,rfl,by simp [hE]⟩) (fun i hk=>?_)
  obtain⟨k,at_,z⟩:=i
  obtain⟨hk,ha,hz,hze⟩:=hk
  dsimp only at hk ha hz hze ⊢
  have hb:=pre_le (f:=s.from_) ht hro.p k hk
  by_cases hlt2:k<(s.list.getD q ⟨0,[]⟩).path.length
  ·have h1:=hro.p k hlt2
   have h2:=len_ok ht hro.p hlt2
   have hn:=pre_succ (t:=t) (f:=s.from_) hlt2
   have hlen2:t.len ((s.list.getD q ⟨0,[]⟩).path.getD k 0)=(t.segs.getD ((s.list.getD q ⟨0,[]⟩).path.getD k 0).toNat default).length:=rfl
   obtain⟨hcc,hinv⟩:=hc z ((s.list.getD q ⟨0,[]⟩).path.getD k 0) at_ hz h1.1 h1.2 (by omega) (by omega)
   conv=>whnf
   repeat' ((first|refine Br.pt (by omega) ?_|refine Ob.mk (by omega) ?_|refine Ix.nat _ ?_);conv=>whnf)
   refine CallS.call (CallN.upd [0,1,2,3] [] (RvJL.cons (RvJ.pu rfl) (RvJL.cons (RvJ.pu rfl) (RvJL.cons (RvJ.ownP rfl) (RvJL.cons (RvJ.ownP rfl) (RvJL.cons (RvJ.ownP rfl) (RvJL.cons (RvJ.ownP rfl) (RvJL.nil))))))) (Als.nil _) (by simp) ⟨rfl,by decide,by simp,Giv.consB rfl (RcJ.pu rfl) (Giv.consB rfl (RcJ.pu rfl) (Giv.consB rfl (RcJ.pu rfl) (Giv.consB rfl (RcJ.pu rfl) (Giv.done))))⟩ hcc (fun r gs' hp _=>?_))
   obtain⟨rfl,rfl⟩:=hp
   conv=>whnf
   repeat' ((first|refine Ob.mk (by omega) ?_|refine Ob.mk (by unfold W.I64 at *;omega) ?_|refine Ix.tn (by omega) ?_);conv=>whnf)
   refine⟨(k+1,_,step z ((s.list.getD q ⟨0,[]⟩).path.getD k 0,at_)),⟨?_,?_,?_,?_⟩,?_,(by trivial),(by trivial),(by trivial)⟩
   ·dsimp only;omega
   ·dsimp only;rw [hn,hlen2,ha]
   ·exact hinv
   ·dsimp only;rw [along_take hlt2,List.foldl_append,← hze,← ha];rfl
   ·dsimp only;omega
  ·obtain rfl:k=(s.list.getD q ⟨0,[]⟩).path.length:=by omega
   conv=>whnf
   repeat' ((first|refine Br.pf (by omega) ?_|refine Ob.mk (by unfold W.I64 at *;omega) ?_);conv=>whnf)
   refine⟨(q+1,z),⟨?_,?_,?_⟩,?_,(by trivial),(by trivial),(by trivial)⟩
   ·dsimp only;omega
   ·exact hz
   ·dsimp only
    rw [List.take_succ_eq_append_getElem hlt,List.flatMap_append,List.foldl_append,← he,hze,← along_len t (-s.from_),List.take_length]
    simp [List.getD,hlt]
   ·dsimp only;omega
 ·obtain rfl:q=s.list.length:=by omega
  conv=>whnf
  repeat' ((refine Br.pf (by omega) ?_);conv=>whnf)
  refine FinAt.asis (ars:=[]) [] RvL.nil (by simp) (by show 4≤_;simp) rfl ⟨rfl,?_⟩
  rw [List.take_length] at he
  rw [show (s.visits t).foldl step x0=y from he.symm]
  rfl
def subl:List Nat→List (List Nat)
 |[]=>[[]]
 |a::l=>subl l++(subl l).map (a::·)
theorem filter_subl(p:Nat→Bool):∀ l:List Nat,l.filter p∈subl l
 |[]=>by simp [subl]
 |a::l=>by
  have ih:=filter_subl p l
  rw [List.filter_cons,subl,List.mem_append]
  cases p a with
  |true=>exact .inr (List.mem_map.2 ⟨_,ih,rfl⟩)
  |false=>exact .inl ih
theorem subl_mem:∀ {l J:List Nat},J∈subl l→∀ j∈J,j∈l
 |[],J,h,j,hj=>by simp [subl] at h;subst h;exact hj
 |a::l,J,h,j,hj=>by
  rw [subl,List.mem_append] at h
  rcases h with h|h
  ·exact List.mem_cons_of_mem _ (subl_mem h j hj)
  ·obtain⟨J',h1,h2⟩:=List.mem_map.1 h
   subst h2
   rcases List.mem_cons.1 hj with e|e
   ·exact e ▸ List.mem_cons_self
   ·exact List.mem_cons_of_mem _ (subl_mem h1 j e)
def lateK(ks J:List Nat):List Nat:=ks.filter fun k=>!J.contains k
def dstK(all:List Oper)(J:List Nat):List Nat:=J.filterMap fun k=>(all[k]?).bind (·.dst)
theorem mem_dstK{all:List Oper}{J:List Nat}{k:Nat}{o:Oper}{d:Nat}(h:k∈J)(ho:all[k]?=some o)(hd:o.dst=some d):d∈dstK all J :=
 List.mem_filterMap.2 ⟨k,h,by rw [ho];exact hd⟩
def dropT(ds:List Nat)(tm:Tm):Tm:=match ds with
 |[]=>tm
 |ds=>tm.filter fun e=>!ds.contains e.1
theorem look_filter{ds:List Nat}:∀ {tm:Tm} {t:Nat} {v:AV},look (tm.filter fun e=>!ds.contains e.1) t=some v→¬ t∈ds∧look tm t=some v
 |[],t,v,h=>by simp [look] at h
 |(d,u)::tm,t,v,h=>by
  have hc:∀ tm':Tm,look ((d,u)::tm') t=if d=t then some u else look tm' t:=fun tm'=>by
   show (bif Nat.beq d t then some u else look tm' t)=_
   cases e:Nat.beq d t with
   |true=>rw [if_pos (Nat.eq_of_beq_eq_true e)];rfl
   |false=>rw [if_neg (Nat.ne_of_beq_eq_false e)];rfl
  by_cases hd:d∈ds
  ·rw [List.filter_cons_of_neg (by simp [hd])] at h
   obtain⟨h1,h2⟩:=look_filter h
   exact⟨h1,by rw [hc,if_neg (fun e=>h1 (by rw [← e];exact hd))];exact h2⟩
  ·rw [List.filter_cons_of_pos (by simp [hd])] at h
   rw [hc] at h ⊢
   by_cases e:d=t
   ·rw [if_pos e] at h ⊢;exact⟨by rw [← e];exact hd,h⟩
   ·rw [if_neg e] at h ⊢;exact look_filter h
theorem look_dropT{ds:List Nat}{tm:Tm}{t:Nat}{v:AV}(h:look (dropT ds tm) t=some v):¬ t∈ds∧look tm t=some v:=by
 unfold dropT at h
 split at h
 ·exact⟨by simp,h⟩
 ·exact look_filter h
def upKc(all:List Oper)(ks kc:List Nat):Bool :=
 (List.range all.length).all fun t=>ks.contains t||kc.all fun i=>up2 all t i
theorem upKc_wait{all:List Oper}{ks kc:List Nat}{listed:Array Bool}(hu:upKc all ks kc=true)(inv:HInv .any all.toArray listed){i t:Nat}(hi:i∈kc)(hun:listed.getD i false=false)(hr:t∈Region.ready .any all.toArray listed):t∈ks:=by
 obtain⟨_,o,ho,_⟩:=mem_ready.1 hr
 have hlt:t<all.length:=by have:=(Array.getElem?_eq_some_iff.1 ho).1;simpa using this
 have h1:=List.all_eq_true.1 hu t (List.mem_range.2 hlt)
 simp only [Bool.or_eq_true] at h1
 rcases h1 with h1|h1
 ·simpa using h1
 ·have h2:=up_ready inv (up2_up (List.all_eq_true.1 h1 i hi)) hr
  rw [hun] at h2
  cases h2
theorem wpAny_drawE{P:Program}{N:Nat}{E:En}{all:List Oper}{ks:List Nat}{ia:Nat}{z:List Value}{tm tm':Tm}{own:Ow}{vs:List AV}{Q:Exit→Act→World→Prop}(hks:∀ k∈ks,k<all.length)(kc:List Nat)(hTr:Tr (GoA P all own) N all (opsK all ks) tm vs tm')(hia:ia∈kc)
  (hend:∀ J,J∈subl (ks.filter fun k=>!kc.contains k)→∀ S ids a n,Sim N E (dropT (dstK all J) tm') (own++[.blk (zAv z)]) S ids a n→wpAny P .any all.toArray Q (J.length+(all.length-ks.length)) (listedK all.length (lateK ks J)) a n) {f:Nat}
  (listed:Array Bool) (a:Act) (n:World) (hinv:DInvA N E all ks ia (zAv z) tm own vs listed a n) (hf:(ks.filter fun j=>!listed.getD j false).length=f) (hdone:∀ j∈kc,listed.getD j false=true):wpAny P .any all.toArray Q (f+(all.length-ks.length)) listed a n:=by
 have hJ:(ks.filter fun j=>!listed.getD j false)∈subl (ks.filter fun k=>!kc.contains k):=by
  have e:(ks.filter fun j=>!listed.getD j false)=(ks.filter fun k=>!kc.contains k).filter fun j=>!listed.getD j false:=by
   rw [List.filter_filter]
   refine List.filter_congr fun j hj=>?_
   cases e1:listed.getD j false with
   |true=>simp
   |false =>
    have:¬ j∈kc:=fun h=>by rw [hdone j h] at e1;cases e1
    simp [this]
  rw [e]
  exact filter_subl _ _
 have hl:listed=listedK all.length (lateK ks (ks.filter fun j=>!listed.getD j false)):=by
  apply Array.ext
  ·rw [hinv.hi.size];simp [listedK]
  ·intro j h1 h2
   have e1:listed.getD j false=listed[j]:=by simp [Array.getD,h1]
   have e2:(listedK all.length (lateK ks (ks.filter fun j=>!listed.getD j false)))[j]=(lateK ks (ks.filter fun j=>!listed.getD j false)).contains j:=by simp [listedK]
   rw [e2,← e1,Bool.eq_iff_iff]
   simp only [lateK,List.contains_iff_mem,List.mem_filter,Bool.not_eq_eq_eq_not,Bool.not_true,List.contains_eq_mem,decide_eq_false_iff_not,not_and,decide_eq_true_eq]
   refine⟨fun h=>?_,fun ⟨h1,h2⟩=>?_⟩
   ·have hj:j∈ks:=by
     by_cases hj:j∈ks
     ·exact hj
     ·rw [hinv.out j hj] at h;cases h
    exact⟨hj,fun _=>by rw [h];simp⟩
   ·have:=h2 h1
    simpa using this
 have h:=hend _ hJ
 rw [← hl,hf] at h
 obtain⟨S,ids,h1,h2,h3⟩:=hinv.st
 rw [if_pos (hdone ia hia)] at h1
 refine h S ids a n (h1.with fun t v hv=>?_)
 obtain⟨g1,g2⟩:=look_dropT hv
 rcases hTr.end_ t v g2 with ⟨p,oj,q1,q2,q3,q4,_⟩|⟨q1,q2⟩
 ·obtain⟨k,k1,k2⟩:=(opsK_get hks).1 q2
  refine h3 p k oj t v k1 ?_ k2 q3 q4
  cases e:listed.getD k false with
  |true=>rfl
  |false=>exact absurd (mem_dstK (List.mem_filter.2 ⟨List.mem_of_getElem? k1,by rw [e];rfl⟩) k2 q3) g1
 ·exact h2 t v q1 fun j oj hj hoj=>by
   obtain⟨p,hp,e⟩:=List.getElem_of_mem hj
   exact q2 p oj ((opsK_get hks).2 ⟨j,by simp [hp,e],hoj⟩)
theorem wpAny_drawL{P:Program}{N:Nat}{E:En}{all:List Oper}{ks:List Nat}{ia:Nat}{oa:Oper}{ta:TypeId}{z:List Value}{tm tm':Tm}{own:Ow}{vs:List AV}{Q:Exit→Act→World→Prop}(hks:∀ k∈ks,k<all.length)(hnd:ks.Nodup)
  (kc:List Nat) (hkc:∀ k∈kc,k∈ks) (hup:upKc all ks kc=true) (huse:useB all ks=true) (hback:backB all ks=true) (hdist:distB all ks=true) (hTr:Tr (GoA P all own) N all (opsK all ks) tm vs tm') (hia:ia∈kc) (hoa:all[ia]?=some oa) (hal:∀ (e:Operand→Value) (w:World),(execOp e oa).run P w=.ok (.value (.pointer (some ⟨w.heap.size,0,none⟩))) (w.alloc (.cells z.toArray ta))) (hag:oa.guard=none) (haa:isAll oa=true) (hne:∀ (j:Nat) (oj:Oper),j∈ks→all[j]?=some oj→isAll oj=true→j=ia) (hok:okO own.length own=true) (hgs:E.gs.length≤own.length)
  (hend:∀ J,J∈subl (ks.filter fun k=>!kc.contains k)→∀ S ids a n,Sim N E (dropT (dstK all J) tm') (own++[.blk (zAv z)]) S ids a n→wpAny P .any all.toArray Q (J.length+(all.length-ks.length)) (listedK all.length (lateK ks J)) a n) :
  ∀ (f:Nat) (listed:Array Bool) (a:Act) (n:World),DInvA N E all ks ia (zAv z) tm own vs listed a n→(ks.filter fun j=>!listed.getD j false).length=f→wpAny P .any all.toArray Q (f+(all.length-ks.length)) listed a n:=by
 intro f
 induction f with
 |zero=>exact fun listed a n hinv hf=>wpAny_drawE hks kc hTr hia hend listed a n hinv hf (fun j hj=>by
   have:=List.length_eq_zero_iff.1 hf
   rw [List.filter_eq_nil_iff] at this
   simpa using this j (hkc j hj))
 |succ f ih =>
  intro listed a n hinv hf
  by_cases hdone:∀ j∈kc,listed.getD j false=true
  ·exact wpAny_drawE hks kc hTr hia hend listed a n hinv hf hdone
  rw [show f+1+(all.length-ks.length)=(f+(all.length-ks.length))+1 by omega]
  obtain⟨i0,hi0,hu0⟩:∃ i,i∈kc∧listed.getD i false=false:=by
   by_cases hex:∃ i,i∈kc∧listed.getD i false=false
   ·exact hex
   ·refine absurd (fun j hj=>?_) hdone
    cases e:listed.getD j false with
    |true=>rfl
    |false=>exact absurd ⟨j,hj,e⟩ hex
  have hsz:=hinv.hi.size
  have gD:∀ j,j<all.length→listed.getD j true=listed.getD j false:=fun j hj=>by simp [Array.getD,hsz,hj]
  have hready:∀ m,m≤ks.length→(∃ i,i∈ks.take m∧listed.getD i false=false)→∃ i,i∈Region.ready .any all.toArray listed:=by
   intro m
   induction m with
   |zero=>rintro _ ⟨i,hi,_⟩;simp at hi
   |succ m ih =>
    intro hm ⟨i,hi,hui⟩
    by_cases hex:∃ i,i∈ks.take m∧listed.getD i false=false
    ·exact ih (by omega) hex
    ·have him:ks[m]?=some i:=by
      rw [List.take_add_one] at hi
      rcases List.mem_append.1 hi with h|h
      ·exact absurd ⟨i,h,hui⟩ hex
      ·cases e:ks[m]? with
       |none=>rw [e] at h;simp at h
       |some q=>rw [e] at h;simp at h;rw [h]
     have hil:i<all.length:=hks i (List.mem_of_getElem? him)
     refine⟨i,mem_ready.2 ⟨by rw [gD i hil];exact hui,all[i],by simp [hil],fun e he hb=>?_⟩⟩
     have hlt:=backB_spec hback him (List.getElem?_eq_getElem hil) e he hb
     cases hg:listed.getD e.on false with
     |true=>rfl
     |false=>exact absurd ⟨e.on,hlt,hg⟩ hex
  refine⟨fun h0=>?_,fun i hi=>?_⟩
  ·obtain⟨i,hi⟩:=hready ks.length (Nat.le_refl _) ⟨i0,by rw [List.take_length];exact hkc i0 hi0,hu0⟩
   rw [h0] at hi;cases hi
  ·have hih:i∈ks:=upKc_wait hup hinv.hi hi0 hu0 hi
   obtain⟨p,hp,ep⟩:=List.getElem_of_mem hih
   have hip:ks[p]?=some i:=by simp [hp,ep]
   obtain⟨hun,o,ho',hdeps⟩:=mem_ready.1 hi
   have hil:i<all.length:=hks i hih
   have ho:all[i]?=some o:=by simpa using ho'
   have hun':listed.getD i false=false:=by rw [← gD i hil];exact hun
   obtain⟨hvl,hTa⟩:=hTr.at_
   obtain⟨v,d,tmi,g1,g2,g3,g4,g5⟩:=hTa p o ((opsK_get hks).2 ⟨i,hip,ho⟩)
   obtain⟨S,ids,h1,h2,h3⟩:=hinv.st
   have hsl:Sl S n ids (rst tmi (useTs all o)) a:=fun t u hu=>by
    obtain⟨q1,q2⟩:=rst_look hu
    rcases g5 t u q2 with ⟨q,oj,p1,p2,p3,p4,_⟩|⟨p1,p2⟩
    ·obtain⟨j,k1,k2⟩:=(opsK_get hks).1 p2
     obtain⟨r1,r2⟩:=useB_spec huse hip ho q1 k2 p3
     exact h3 q j oj t u k1 (up_ready hinv.hi r2 hi) k2 p3 p4
    ·refine h2 t u p1 fun j oj hj hoj e=>?_
     obtain⟨r1,r2⟩:=useB_spec huse hip ho q1 hoj e
     obtain⟨q,hq,eq⟩:=List.getElem_of_mem r1
     rw [List.getElem_take] at eq
     have hql:q<p:=by simp at hq;omega
     exact p2 q oj hql ((opsK_get hks).2 ⟨j,by rw [← eq];exact List.getElem?_eq_getElem (by omega),hoj⟩) e
   have hlist:∀ j,(listed.setIfInBounds i true).getD j false=if j=i then true else listed.getD j false:=fun j=>by
    by_cases e:j=i
    ·subst e;simp [Array.getD,hsz,hil]
    ·rw [getD_set_ne false (fun e'=>e e'.symm),if_neg e]
   have hcount:(ks.filter fun j=>!(listed.setIfInBounds i true).getD j false).length=f:=by
    have e1:(ks.filter fun j=>!(listed.setIfInBounds i true).getD j false)=(ks.filter fun j=>!listed.getD j false).erase i:=by
     rw [List.Nodup.erase_eq_filter (hnd.filter _),List.filter_filter]
     refine List.filter_congr fun j _=>?_
     rw [hlist]
     by_cases e:j=i
     ·subst e;simp
     ·simp [e]
    rw [e1,List.length_erase_of_mem (List.mem_filter.2 ⟨hih,by rw [hun'];rfl⟩),hf];rfl
   have hnext:∀ V S' n' ids',Ids ids ids'→Sim N E [] (if (listed.setIfInBounds i true).getD ia false=true then own++[.blk (zAv z)] else own) S' ids' a n'→R S' n' ids' v V→Past n n'→(∀ b,S b→S' b)→(∀ b,S' b→b<n.heap.size→S b)→(∀ b,S' b→b<n'.heap.size)→DInvA N E all ks ia (zAv z) tm own vs (listed.setIfInBounds i true) (a.put (some d) V) n':=fun V S' n' ids' hII h4 hV hp k1 k2 k3=>by
    have hkp:Kp S S' n n':=⟨hp.size,k1,fun b hb _=>hp.block b hb⟩
    have hget:∀ t,t≠d→(a.put (some d) V).tmps[t]?=a.tmps[t]?:=fun t ht=>by
     simp only [Act.put];rw [Array.getElem?_setIfInBounds_ne (fun e=>ht e.symm)]
    refine⟨hinv.hi.set hi,fun j hj=>by rw [hlist,if_neg ((fun e=>hj (by rw [e];exact hih)))];exact hinv.out j hj,S',ids',?_,fun t u hu hno=>?_,fun q j oj d' u hj hl hoj hd' hu=>?_⟩
    ·exact { h4 with size:=by simp [Act.put,h4.size],defers:=h4.defers,sl:=fun t v hv=>by simp [look] at hv }
    ·obtain⟨U,q1,q2⟩:=h2 t u hu hno
     have hne:t≠d:=fun e=>hno i o hih ho (by rw [g2,e])
     exact⟨U,by rw [hget t hne];exact q1,(q2.kp hkp).ids hII⟩
    ·rw [hlist] at hl
     by_cases e:j=i
     ·subst e
      have hqp:q=p:=(List.getElem?_inj (List.getElem?_eq_some_iff.1 hj).1 hnd).1 (hj.trans hip.symm)
      subst hqp
      obtain rfl:o=oj:=Option.some.inj (ho.symm.trans hoj)
      obtain rfl:d=d':=Option.some.inj (g2.symm.trans hd')
      obtain rfl:v=u:=Option.some.inj (g1.symm.trans hu)
      exact⟨V,by simp [Act.put,h1.size,g3],hV⟩
     ·rw [if_neg e] at hl
      obtain⟨U,q1,q2⟩:=h3 q j oj d' u hj hl hoj hd' hu
      have hne:d'≠d:=fun e'=>e (distB_spec hdist (List.mem_of_getElem? hj) hih hoj ho (by rw [hd',e']) g2)
      exact⟨U,by rw [hget d' hne];exact q1,(q2.kp hkp).ids hII⟩
   unfold wpOp
   simp only [ho']
   rcases g4 with ⟨e1,e2⟩|⟨e1,e2,g4⟩
   ·
    have hii:i=ia:=hne i o hih ho e1
    subst hii
    obtain rfl:oa=o:=Option.some.inj (hoa.symm.trans ho)
    have hwant:Region.wanted oa (yielded all.toArray a.tmps)=true:=by simp [Region.wanted,hag]
    rw [if_pos hwant]
    refine .inl ?_
    rw [if_neg (by rw [hun'];simp)] at h1
    unfold Oper.wp
    rw [hal,Oper.upon_value,g2]
    have hp:Past n (n.alloc (.cells z.toArray ta)):=bself n _
    have h4:=h1.new (zAv z) z ta ((PL_iff.1 (PL_av1 S n z)).imp fun _ _ h=>P1_R1 h)
    have hlen1:ids.length=own.length:=h1.len
    refine ih _ _ _ (hnext (.pointer (some ⟨n.heap.size,0,none⟩)) S _ (ids++[Loc.at_ n.heap.size]) (Ids.push _ _) ?_ ?_ hp (fun _ h=>h) (fun _ h _=>h) (fun b hb=>Nat.lt_of_lt_of_le (h1.slt b hb) hp.size)) hcount
    ·rw [if_pos (by rw [hlist,if_pos rfl])];exact h4
    ·rw [e2];exact R.new_own hlen1 n.heap.size
   ·
    have hii:i≠ia:=fun e=>by subst e;rw [Option.some.inj (ho.symm.trans hoa)] at e1;rw [haa] at e1;cases e1
    have hcur:(if (listed.setIfInBounds i true).getD ia false=true then own++[OB.blk (zAv z)] else own)=(if listed.getD ia false=true then own++[OB.blk (zAv z)] else own):=by
     have e0:(listed.setIfInBounds i true).getD ia false=listed.getD ia false:=by rw [hlist];exact if_neg (fun e=>hii e.symm)
     rw [e0]
    obtain⟨ids0,hI0,hs0⟩:∃ ids0,Ids ids0 ids∧Sim N E (rst tmi (useTs all o)) own S ids0 a n:=by
     by_cases hl:listed.getD ia false=true
     ·rw [if_pos hl] at h1
      have h5:=(h1.weak (l:=[]) (lo:=own) trivial (Pre.app own _) rfl hok hgs).with (tm':=rst tmi (useTs all o)) (fun t u hu=>by obtain⟨U,q1,q2⟩:=hsl t u hu;exact⟨U,q1,q2.take (okT_of e2 hu)⟩)
      refine⟨_,⟨fun q b hq=>?_,fun q L hq hf=>?_⟩,h5⟩
      ·rw [nth_eq,List.getElem?_take] at hq
       split at hq
       ·rw [nth_eq];exact hq
       ·cases hq
      ·refine⟨L,?_,hf,.inl rfl⟩
       rw [nth_eq,List.getElem?_take] at hq
       split at hq
       ·rw [nth_eq];exact hq
       ·cases hq
     ·rw [if_neg hl] at h1
      exact⟨ids,Ids.refl _,h1.with hsl⟩
    rcases g4 N E S ids0 a n hs0 with ⟨w1,w2⟩|⟨w1,w2⟩
    ·rw [if_pos w1]
     refine .inl (Oper.wp_mono (fun a' n' ⟨V,S',e,k0,k1,k2,k3,k4⟩=>?_) (w2 Q))
     subst e
     rw [g2]
     exact ih _ _ _ (hnext V S' n' ids (Ids.refl _) (by rw [hcur];exact h1.grow k1 k2 k3 k4) (k0.ids hI0) k1 k2 k3 k4) hcount
    ·rw [if_neg (by rw [w1];simp)]
     subst w2
     rw [g2]
     exact ih _ _ _ (hnext undef S n ids (Ids.refl _) (by rw [hcur];exact h1) rfl (Below.refl _ _) (fun _ h=>h) (fun _ h _=>h) h1.slt) hcount
def allL{α:Type}:List α→(α→Prop)→Prop
 |[],_=>True
 |a::l,f=>match l with
  |[]=>f a
  |l=>Both (f a) (allL l f)
theorem allL_mem{α:Type}:∀ {l:List α} {f:α→Prop} {a:α},allL l f→a∈l→f a
 |[b],f,a,h,ha=>by simp at ha;subst ha;exact h
 |b::c::l,f,a,h,ha=>by
  rcases List.mem_cons.1 ha with e|e
  ·subst e;exact h.1
  ·exact allL_mem h.2 e
def drawL(all:List Oper)(ks kc:List Nat)(ia:Nat):Bool :=
 Region.noSelect all.toArray&&ks.all (fun k=>decide (k<all.length))&&nodupB ks&&(opsK all ks).all (fun o=>o.dst.isSome)&&upKc all ks kc&&useB all ks&&backB all ks&&distB all ks&&(subl (ks.filter fun k=>!kc.contains k)).all (fun J=>tailB .any all.toArray (J++restK all.length ks) (listedK all.length (lateK ks J)))&&kc.all (fun k=>ks.contains k)&&kc.contains ia
theorem Drw.allocT{T:Tab}{P:Program}(hT:TabOk P T){N:Nat}{E:En}{id:Nat}{l:List Oper}{K:Exit→Tm→Ow→Prop}{tm:Tm}{own:Ow}(ks kc:List Nat)(ia:Nat)(hB:drawL l ks kc ia=true)(hA:allB T l ks ia=true)(hok:okO own.length own=true)(hgs:E.gs.length≤own.length)
  (hk:∃ vs tm',Tr (GoA P l own) N l (opsK l ks) tm vs tm'∧pushK own (.blk (zAv (zrAt T l ia))) fun _ own=>allL (subl (ks.filter fun k=>!kc.contains k)) fun J=>WO T P N E l (opsK l (J++restK l.length ks)) (K .normal) (dropT (dstK l J) tm') own):Drw T P N E (.region id ⟨l⟩ true) l K tm own:=by
 refine .sem ⟨fun S ids a n hs Q hQ hpan=>?_⟩
 simp only [drawL,Bool.and_eq_true] at hB
 obtain⟨⟨⟨⟨⟨⟨⟨⟨⟨⟨b1,b2⟩,b2'⟩,b3⟩,b4⟩,b5⟩,b6⟩,b7⟩,b8⟩,b9⟩,b10⟩:=hB
 have hks:∀ k∈ks,k<l.length:=fun k hk=>by simpa using List.all_eq_true.1 b2 k hk
 have hnd:=nodupB_spec b2'
 obtain⟨vs,tm',h1,h2⟩:=hk
 unfold allB at hA
 split at hA
 ·rename_i oa hoa
  split at hA
  ·rename_i ta hop
   simp only [Bool.and_eq_true,Option.isNone_iff_eq_none] at hA
   obtain⟨⟨⟨c1,c2⟩,c3⟩,c4⟩:=hA
   split at c3
   ·rename_i z hz
    obtain⟨ti,tv,z1,z2,z3⟩:=hT.zr ta z hz
    have hzr:zrAt T l ia=z:=by unfold zrAt;rw [hoa];simp only [hop,hz];rfl
    rw [hzr,pushK_iff] at h2
    refine wp_region_any hT.mixed ?_
    have hp:Past n { n with drawn:=n.drawn+1 }:=Past.draw n
    have hs':=hs.past hp
    have hf:(ks.filter fun j=>!(Array.replicate l.length false).getD j false).length=ks.length:=by
     rw [List.filter_eq_self.2 (fun j hj=>by simp [Array.getD])]
    have hrl:=restK_len l.length ks hks hnd
    have:=wpAny_drawL (P:=P) (N:=N) (E:=E) (all:=l) (ks:=ks) (Q:=Q) (oa:=oa) (ta:=ta) (z:=z) hks hnd kc (fun k hk=>by simpa using List.all_eq_true.1 b9 k hk) b4 b5 b6 b7 h1 (by simpa using b10) hoa (fun e w=>by
      unfold execOp
      simp only [hop,Instr.alloc]
      have hv:tv.cells=⟨z⟩:=by rw [← z3]
      simp [zeroValue,typeInfo,z1,z2,Sem.run_bind,newVar,newRow,hv]) c1 (by simp [isAll,hop]) (fun j oj hj hoj hjj=>by
      have:=List.all_eq_true.1 c4 j hj
      simp only [hoj,hjj] at this
      simpa using this) hok hgs (fun J hJ S ids a n hs=>by
      have hJk:∀ j∈J,j<l.length:=fun j hj=>hks j (List.mem_filter.1 (subl_mem hJ j hj)).1
      have:=wpAny_of_tail (P:=P) (md:=.any) (Q:=Q) (ops:=l.toArray) b1 hpan (opsK l (J++restK l.length ks)) (J++restK l.length ks) (listedK l.length (lateK ks J)) a n (by
       rw [List.map_append,restK_map]
       unfold opsK
       rw [List.map_append,List.map_append]
       congr 1
       rw [List.map_map]
       refine List.map_congr_left fun k hk=>?_
       have:=hJk k hk
       simp [List.getD,this]) (List.all_eq_true.1 b8 J hJ) (WO_sound hT (allL_mem (l:=subl (ks.filter fun k=>!kc.contains k)) h2 hJ) (fun a n h=>hQ _ _ _ h) hs)
      have e:(opsK l (J++restK l.length ks)).length=J.length+(l.length-ks.length):=by unfold opsK;rw [List.length_map,List.length_append,hrl]
      rw [e] at this
      exact this) ks.length (Array.replicate l.length false) a _ ⟨⟨by simp,fun j oj _ hl=>by simp [Array.getD] at hl⟩,fun j hj=>by simp [Array.getD],S,ids,by rw [if_neg (by simp [Array.getD])];exact hs'.nil,fun t v hv _=>hs'.sl t v hv,fun p j oj d v _ hl=>by simp [Array.getD] at hl⟩ hf
    have hle:ks.length≤l.length:=by
     have:=hnd.length_le_of_subset (l₂:=List.range l.length) (fun k hk=>List.mem_range.2 (hks k hk))
     simpa using this
    rw [show ks.length+(l.length-ks.length)=l.length by omega] at this
    simpa using this
   ·cases c3
  ·cases hA
 ·cases hA
def LoopN(T:Tab)(P:Program)(N:Nat)(E:En)(c:Code)(K:Exit→Tm→Ow→Prop):Nat→Tm→Ow→Prop
 |0,_,_=>False
 |m+1,tm,own=>WC T P N E c (fun e tm' own'=>match e with
  |.normal=>LoopN T P N E c K m tm' own'
  |e=>K e tm' own') tm own
theorem LoopAt.few{P:Program}{T:Tab}(hT:TabOk P T){N:Nat}{E:En}{c:Code}{K:Exit→Tm→Ow→Prop}{tm:Tm}{own:Ow}(m:Nat)(h:LoopN T P N E c K m tm own):LoopAt P N E c K tm own:=by
 refine⟨⟨fun S ids a n hs Q hk hpan=>?_⟩⟩
 intro b k cs
 have key:∀ m tm own S ids a w,LoopN T P N E c K m tm own→Sim N E tm own S ids a w →
   ∃ e a' w',Q e a' w'∧Arrives P (lone (b.at a (.code c::.inLoop c::k)) cs w) b k cs e a' w':=by
  intro m
  induction m with
  |zero=>intro tm own S ids a w h;exact h.elim
  |succ m ih =>
   intro tm own S ids a w h hs
   obtain⟨e,a₁,w₁,hq,harr⟩:=WC_sound hT c (show WC T P N E c _ tm own from h) (Q:=Exit.then (fun a' w'=>∃ tm' own' S' ids',LoopN T P N E c K m tm' own'∧Sim N E tm' own' S' ids' a' w') Q)
    ⟨fun e a1 n1 ⟨tm1,own1,S1,ids1,hK1,hs1⟩=>by
     cases e with
     |normal=>exact⟨tm1,own1,S1,ids1,hK1,hs1⟩
     |_=>exact hk _ _ _ ⟨tm1,own1,S1,ids1,hK1,hs1⟩,hpan⟩ hs b (.inLoop c::k) cs
   cases e with
   |normal =>
    obtain⟨tm',own',S',ids',r1,r3⟩:=hq
    obtain⟨e₂,a₂,w₂,hq₂,harr₂⟩:=ih tm' own' S' ids' a₁ w₁ r1 r3
    exact⟨e₂,a₂,w₂,hq₂,.of_steps (Steps.trans harr (.one step_inLoop)) harr₂⟩
   |exit id=>exact⟨_,a₁,w₁,hq,.pass (x:=.inLoop c) rfl (fun _ _=>.inl (by simp)) harr⟩
   |goto l=>exact⟨_,a₁,w₁,hq,.pass (x:=.inLoop c) rfl (fun _ _=>.inl (by simp)) harr⟩
   |ret=>exact⟨_,a₁,w₁,hq,.pass (x:=.inLoop c) rfl (fun _ _=>.inl (by simp)) harr⟩
   |panic ch=>exact⟨_,a₁,w₁,hq,.pass (x:=.inLoop c) rfl (fun _ _=>.inl (by simp)) harr⟩
   |outgrown=>exact⟨_,a₁,w₁,hq,.pass (x:=.inLoop c) rfl (fun _ _=>.inl (by simp)) harr⟩
 obtain⟨e,a',w',hq,harr⟩:=key m tm own S ids a n h hs
 exact⟨e,a',w',hq,.of_steps (.one step_loop) harr⟩
def opsC(all:List Oper):List Nat→(List Oper→Prop)→Prop
 |[],K=>K []
 |k::ks,K=>match nth all k with
  |some o=>opsC all ks fun l=>K (o::l)
  |none=>False
theorem opsC_out{all:List Oper}:∀ {ks:List Nat} {K:List Oper→Prop},opsC all ks K→K (opsK all ks)
 |[],K,h=>h
 |k::ks,K,h=>by
  rw [opsC] at h
  cases e:nth all k with
  |none=>rw [e] at h;exact h.elim
  |some o =>
   rw [e] at h
   have:=opsC_out h
   unfold opsK at this ⊢
   rw [List.map_cons]
   rw [nth_eq] at e
   simp only [List.getD,e,Option.getD_some]
   exact this
def inB:List Nat→Nat→Bool
 |[],_=>false
 |k::l,t=>bif Nat.beq k t then true else inB l t
theorem inB_eq:∀ (l:List Nat) (t:Nat),inB l t=l.contains t
 |[],_=>rfl
 |k::l,t=>by
  rw [inB,inB_eq l t,List.contains_cons]
  by_cases h:k=t
  ·subst h;simp
  ·have:Nat.beq k t=false:=by rw [Bool.eq_false_iff];exact fun e=>h (Nat.eq_of_beq_eq_true e)
   rw [this]
   simp
   exact fun e=>absurd e.symm h
def dropC(ds:List Nat):Tm→(Tm→Prop)→Prop
 |[],K=>K []
 |(t,v)::l,K=>bif inB ds t then dropC ds l K else dropC ds l fun l=>K ((t,v)::l)
theorem dropC_iff(ds:List Nat):∀ (tm:Tm) (K:Tm→Prop),dropC ds tm K↔K (tm.filter fun e=>!ds.contains e.1)
 |[],K=>Iff.rfl
 |(t,v)::l,K=>by
  rw [dropC,inB_eq]
  cases h:ds.contains t with
  |true=>rw [cond_true,dropC_iff ds l,List.filter_cons,if_neg (by rw [h];simp)]
  |false=>rw [cond_false,dropC_iff ds l,List.filter_cons,if_pos (by rw [h];simp)]
def dropJ(all:List Oper)(J:List Nat)(tm:Tm)(K:Tm→Prop):Prop:=match J with
 |[]=>K tm
 |J=>dropC (dstK all J) tm K
theorem dropJ_iff{all:List Oper}{J:List Nat}{tm:Tm}{K:Tm→Prop}:dropJ all J tm K→K (dropT (dstK all J) tm):=by
 intro h
 unfold dropJ at h
 split at h
 ·exact h
 ·rw [dropC_iff] at h
  unfold dropT
  split
  ·rename_i e;rw [e] at h;have e2:(tm.filter fun e=>!([]:List Nat).contains e.1)=tm:=List.filter_eq_self.2 (fun _ _=>rfl);rw [e2] at h;exact h
  ·exact h
def zavC:List Value→(List AV→Prop)→Prop
 |[],K=>K []
 |v::l,K=>fc (av1 v) fun a=>zavC l fun l=>K (a::l)
theorem zavC_iff:∀ (z:List Value) (K:List AV→Prop),zavC z K↔K (zAv z)
 |[],K=>Iff.rfl
 |v::l,K=>by rw [zavC,fc_iff,zavC_iff l];rfl
def allM{α:Type}(l:List α)(f:α→Prop):Prop:=match l with
 |[a]=>f a
 |[a,b]=>Both (f a) (f b)
 |[a,b,c,d]=>Both (f a) (Both (f b) (Both (f c) (f d)))
 |l=>∀ a∈l,f a
theorem allM_mem{α:Type}{l:List α}{f:α→Prop}(h:allM l f):∀ a∈l,f a:=by
 unfold allM at h
 split at h
 ·intro a ha;obtain rfl:=List.mem_singleton.1 ha;exact h
 ·intro a ha
  simp only [List.mem_cons,List.not_mem_nil,or_false] at ha
  rcases ha with rfl|rfl
  ·exact h.1
  ·exact h.2
 ·intro a ha
  simp only [List.mem_cons,List.not_mem_nil,or_false] at ha
  rcases ha with rfl|rfl|rfl|rfl
  ·exact h.1
  ·exact h.2.1
  ·exact h.2.2.1
  ·exact h.2.2.2
 ·exact h
theorem allL_of{α:Type}:∀ {l:List α} {f:α→Prop},(∀ a∈l,f a)→allL l f
 |[],f,h=>trivial
 |[b],f,h=>h b List.mem_cons_self
 |b::c::l,f,h=>⟨h b List.mem_cons_self,allL_of fun a ha=>h a (List.mem_cons_of_mem _ ha)⟩
theorem Drw.allocM{T:Tab}{P:Program}(hT:TabOk P T){N:Nat}{E:En}{id:Nat}{l:List Oper}{K:Exit→Tm→Ow→Prop}{tm:Tm}{own:Ow}(ks kc:List Nat)(Js:List (List Nat))(rest:List Nat)(ia:Nat)(hJ:subl (ks.filter fun k=>!kc.contains k)=Js)(hR:restK l.length ks=rest)(hB:drawL l ks kc ia=true)(hA:allB T l ks ia=true)(hok:okO own.length own=true)(hgs:E.gs.length≤own.length)
  (hk:opsC l ks fun lo=>WDA T P N l own lo (fun tm=>zavC (zrAt T l ia) fun z=>pushK own (.blk z) fun _ own=>allM Js fun J=>opsC l (J++rest) fun lo=>dropJ l J tm fun tm=>WO T P N E l lo (K .normal) tm own) tm):Drw T P N E (.region id ⟨l⟩ true) l K tm own:=by
 have b3:(opsK l ks).all (fun o=>o.dst.isSome)=true:=by
  simp only [drawL,Bool.and_eq_true] at hB
  exact hB.1.1.1.1.1.1.1.2
 obtain⟨vs,tm',h1,h⟩:=WDA_tr hT (fun o ho=>List.all_eq_true.1 b3 o ho) (opsC_out hk)
 refine Drw.allocT hT ks kc ia hB hA hok hgs ⟨vs,tm',h1,?_⟩
 rw [zavC_iff,pushK_iff] at h
 rw [pushK_iff,hJ,hR]
 refine allL_of fun J hJ=>?_
 have h1:=allM_mem h J hJ
 have h2:=opsC_out h1
 exact dropJ_iff (K:=fun tm=>WO T P N E l (opsK l (J++rest)) (K .normal) tm _) h2
def memAt(l:List Oper)(k:Nat):Bool:=match nth l k with
 |some o=>memOp o
 |none=>false
theorem Drw.len{T:Tab}{P:Program}{N:Nat}{E:En}{c:Code}{l:List Oper}{K:Exit→Tm→Ow→Prop}{tm:Tm}{own:Ow}(k s:Nat)(hk:l.length=k)(hs:memAt l s=true)(h:Drw T P N E c l K tm own):Drw T P N E c l K tm own:=h
abbrev spC(s:W.Sp):List AV:=[I s.lo,I s.hi]
abbrev spsV(l:List W.Sp):AV:=.lst 2 l.length fun i=>spC (l.getD i ⟨0,0⟩)
theorem apSp:Ap Tryz.prog 255 39 2:=⟨.agg ⟨[.int .i64 0,.int .i64 0]⟩,16,by kernel_rfl,by kernel_rfl,rfl,by decide,by decide⟩
def SpI(s:W.Sp):Prop:=W.I64 s.lo∧W.I64 s.hi
theorem slip(a b c d:Int)(hc:W.I64 c)(hd:W.I64 d):Ret Tryz.prog 131 [.agg [I a,I b],.agg [I c,I d]] (·=I (W.slip ⟨a,b⟩ ⟨c,d⟩)):=by
 refine enterO tabOk (N:=20) (gs:=[]) (args:=[_,_]) Tryz.func131 rfl rfl rfl (nLe rfl) (fun E hE=>?_)
 conv=>whnf
 repeat' (first|((first|refine CallS.q (spMid _ _ (by first|assumption|omega|(unfold W.I64 at *;omega)) (by first|assumption|omega|(unfold W.I64 at *;omega))) rfl ?_|refine FinAt.val rfl ?_);conv=>whnf)|((refine Br.d (fun h=>?_) (fun h=>?_))<;>conv=>whnf))
 all_goals
  refine eqI ?_
  unfold W.slip W.Sp.mid
  simp_all<;>(try split)<;>(try omega)
abbrev fusedC(f:W.Fused):List AV:=[I f.speed.lo,I f.speed.hi,I f.fit,.bool f.clean,.bool f.conflict,I f.slip0,I f.slip1]
theorem narrow(f:W.Fused)(a b:Int):RetO Tryz.prog 129 [.blk (fusedC f)] [.own 0 0,.agg [I a,I b]] (fun r gs'=>r=.tup []∧gs'=[.blk (fusedC (f.narrow ⟨a,b⟩))]):=by
 refine enterO tabOk (N:=24) (gs:=[_]) (args:=[_,_]) Tryz.func129 rfl rfl rfl (nLe rfl) (fun E hE=>?_)
 conv=>whnf
 repeat' (first|((first|(refine Drw.len 12 10 rfl rfl ?_;refine Drw.allocM tabOk [0,1,2,3,4,5,6,7,9,8] [0,1,2,3,4,5,6,7,9] [[],[8]] [10,11] 9 (by kernel_rfl) (by kernel_rfl) (by kernel_rfl) (by kernel_rfl) rfl (by simp [hE]) ?_)|refine CallD.pu (spMeet _ _ _ _) rfl ?_);conv=>whnf)|((first|refine Br.mk (fun h=>?_) (fun h=>?_)|refine Both.mk ?_ ?_)<;>conv=>whnf))
 all_goals
  refine FinAt.asis [] RvL.nil (by simp) (by simp) rfl ⟨rfl,?_⟩
  unfold W.Fused.narrow
  first|rw [if_neg (by simpa using h)]|rw [if_pos (by simpa using h)]
  rfl
end Y
section
section
def W.Sp.z:W.Sp:=⟨0,0⟩
def W.strays(f:W.Sp)(l:List W.Sp):Nat→List Int
 |0=>[]
 |k+1=>W.strays f l k++if W.stray f (l.getD k W.Sp.z) then [(k:Int)] else []
theorem W.strays_len(f:W.Sp)(l:List W.Sp)(k:Nat):(W.strays f l k).length≤k:=by
 induction k with
 |zero=>simp [W.strays]
 |succ k ih =>
  unfold W.strays
  rw [List.length_append]
  split<;>simp<;>omega
end
namespace Y
open Go Go.RowKit Go.Sort
theorem drop_getD{α:Type}{l:List α}{k:Nat}(d:α)(h:k<l.length):l.drop k=l.getD k d::l.drop (k+1):=by
 rw [List.drop_eq_getElem_cons h,List.getD_eq_getElem?_getD,List.getElem?_eq_getElem h]
 rfl
theorem common(l:List W.Sp)(hl:l.length≤1000000):Ret Tryz.prog 178 [spsV l] (·=.tup [.agg (spC (W.common l).1),.bool (W.common l).2]):=by
 refine enterO tabOk (N:=32) (gs:=[]) (args:=[_]) Tryz.func178 rfl rfl rfl (nLe rfl) (fun E hE=>?_)
 by_cases h0:l.length=0
 ·conv=>whnf
  repeat' ((first|refine Br.pt (by omega) ?_|refine FinAt.val rfl ?_);conv=>whnf)
  all_goals first|omega|skip
  obtain rfl:=List.eq_nil_of_length_eq_zero h0
  rfl
 ·conv=>whnf
  repeat' ((first|refine Br.pf (by omega) ?_|refine Ob.mk (by omega) ?_|refine Ix.of 0 rfl ?_);conv=>whnf)
  all_goals first|omega|skip
  refine LoopAt.rule tabOk [(2,_),(4,_),(15,_),(16,_)] (fun (i:Nat×W.Sp)=>[(17,.int .i64 i.1)]) (fun (i:Nat×W.Sp)=>[.blk [I 0,I 0],.blk [I i.2.lo,I i.2.hi]]) (fun (i:Nat×W.Sp)=>i.1≤l.length∧W.common l=W.commonFrom i.2 (l.drop i.1)) (fun (i:Nat×W.Sp)=>l.length-i.1) (0,l.getD 0 ⟨0,0⟩) (by trivial) ⟨by omega,?_⟩ (by trivial) (by trivial) (fun _=>⟨rfl,rfl,rfl,by simp [hE]⟩) (fun i hk=>?_)
  ·cases l with
   |nil=>simp at h0
   |cons m l=>rfl
  obtain⟨k,m⟩:=i
  obtain⟨hk,he⟩:=hk
  dsimp only at hk he ⊢
  by_cases hlt:k<l.length
  ·rw [drop_getD ⟨0,0⟩ hlt,W.commonFrom] at he
   conv=>whnf
   repeat' (first|((first|refine Br.pt (by omega) ?_|refine CallS.q (spMeet _ _ _ _) rfl ?_|refine Ob.mk (by omega) ?_|refine Ob.mk (by unfold W.I64 at *;omega) ?_|refine Ix.nat _ ?_|refine FinAt.val rfl ?_);conv=>whnf)|((refine Br.mk (fun h=>?_) (fun h=>?_))<;>conv=>whnf))
   ·rw [he,if_neg (by have:(m.meet (l.getD k ⟨0,0⟩)).2=false:=(by simpa using h);rw [this];simp)]
    rfl
   ·refine⟨(k+1,_),⟨?_,?_⟩,?_,(by trivial),(by trivial),(by trivial)⟩
    ·dsimp only;omega
    ·dsimp only
     rw [he,if_pos (by simpa using h)]
    ·dsimp only;omega
  ·conv=>whnf
   repeat' ((first|refine Br.pf (by omega) ?_|refine FinAt.val rfl ?_);conv=>whnf)
   obtain rfl:k=l.length:=by omega
   rw [List.drop_length] at he
   rw [he]
   rfl
theorem two(l:List W.Sp)(hl:l.length≤1000000):Ret Tryz.prog 179 [spsV l] (·=.tup [.agg (spC (W.two l).1),.bool (W.two l).2]):=by
 refine enterO tabOk (N:=49) (gs:=[]) (args:=[_]) Tryz.func179 rfl rfl rfl (nLe rfl) (fun E hE=>?_)
 conv=>whnf
 refine LoopAt.rule tabOk [(0,_),(2,_),(4,_),(12,_),(13,_)] (fun (i:Nat×W.Sp×Bool)=>[(14,.int .i64 i.1),(5,.bool i.2.2)]) (fun (i:Nat×W.Sp×Bool)=>[.blk [I 0,I 0],.blk [I i.2.1.lo,I i.2.1.hi]]) (fun (i:Nat×W.Sp×Bool)=>i.1≤l.length∧W.two l=W.twoFrom (l.drop i.1) i.2) (fun (i:Nat×W.Sp×Bool)=>l.length-i.1) (0,⟨0,0⟩,false) (by trivial) ⟨by omega,rfl⟩ (by trivial) (by trivial) (fun _=>⟨rfl,rfl,rfl,by simp [hE]⟩) (fun i hk=>?_)
 obtain⟨k,m,f⟩:=i
 obtain⟨hk,he⟩:=hk
 dsimp only at hk he ⊢
 by_cases hlt:k<l.length
 ·rw [drop_getD ⟨0,0⟩ hlt,W.twoFrom] at he
  conv=>whnf
  repeat' ((first|refine Br.pt (by omega) ?_|refine Ob.mk (by omega) ?_|refine Ob.mk (by unfold W.I64 at *;omega) ?_|refine Ob.mk (by simp only [Option.getD_some,Option.getD_none];omega) ?_|refine Ix.nat _ ?_);conv=>whnf)
  obtain⟨n,hn⟩:∃ n,n=l.length-(k+1):=⟨_,rfl⟩
  refine LoopAt.rule tabOk [(0,_),(2,_),(4,_),(7,_),(12,_),(13,_),(14,_),(22,_),(23,_)] (fun (j:Nat×W.Sp×Bool)=>[(24,.int .i64 j.1),(5,.bool j.2.2)]) (fun (j:Nat×W.Sp×Bool)=>[.blk [I 0,I 0],.blk [I j.2.1.lo,I j.2.1.hi],.blk (spC (l.getD k ⟨0,0⟩))]) (fun (j:Nat×W.Sp×Bool)=>j.1≤l.length-(k+1)∧W.twoIn (l.getD k ⟨0,0⟩) (l.drop (k+1)) (m,f)=W.twoIn (l.getD k ⟨0,0⟩) (l.drop (k+1+j.1)) j.2) (fun (j:Nat×W.Sp×Bool)=>l.length-(k+1)-j.1) (0,m,f) (by trivial) ⟨by omega,rfl⟩ (by trivial) (by trivial) (fun _=>⟨rfl,rfl,rfl,by simp [hE]⟩) (fun j hk=>?_)
  obtain⟨j,m2,f2⟩:=j
  obtain⟨hj,hi⟩:=hk
  dsimp only at hj hi ⊢
  by_cases hlj:j<l.length-(k+1)
  ·rw [drop_getD ⟨0,0⟩ (show k+1+j<l.length by omega),W.twoIn] at hi
   cases f2
   all_goals
    conv=>whnf
    repeat' (first|((first|refine Br.ot (by assumption) ?_|refine Br.of (by assumption) ?_|refine Br.ot rfl ?_|refine Br.of rfl ?_|refine CallS.q (spMeet _ _ _ _) rfl ?_|refine CallS.q (spHull _ _ _ _) rfl ?_|refine Ob.mk (by omega) ?_|refine Ob.mk (by unfold W.I64 at *;omega) ?_|refine Ix.nat _ ?_);conv=>whnf)|((first|refine Br.d (fun h=>?_) (fun h=>?_)|refine Br.mk (fun h=>?_) (fun h=>?_))<;>conv=>whnf))
    all_goals first
     |(exfalso;simp only [Option.getD_none,Option.getD_some] at h;omega)
     |skip
    all_goals
     refine⟨(j+1,_,_),⟨?_,?_⟩,?_,(by trivial),(by trivial),(by trivial)⟩
     ·dsimp only;omega
     ·dsimp only
      rw [hi,show k+1+(j+1)=k+1+j+1 by omega]
      congr 1
      unfold W.twoStep
      first
       |(
         have h':(W.Sp.meet (l.getD k ⟨0,0⟩) (l.getD (k+1+j) ⟨0,0⟩)).2=true:=h
         rw [if_pos h'];rfl)
       |(
         have h':(W.Sp.meet (l.getD k ⟨0,0⟩) (l.getD (k+1+j) ⟨0,0⟩)).2=false:=h
         rw [if_neg (by rw [h'];simp)])
     ·dsimp only;omega
  ·conv=>whnf
   repeat' (first|((first|refine Ob.mk (by omega) ?_|refine Ob.mk (by unfold W.I64 at *;omega) ?_|refine Ix.nat _ ?_);conv=>whnf)|((refine Br.d (fun h=>?_) (fun h=>?_))<;>conv=>whnf))
   ·exfalso
    simp only [Option.getD_none,Option.getD_some] at h
    omega
   ·refine⟨(k+1,_,_),⟨?_,?_⟩,?_,(by trivial),(by trivial),(by trivial)⟩
    ·dsimp only;omega
    ·dsimp only
     have hd:l.drop (k+1+j)=[]:=List.drop_eq_nil_of_le (by omega)
     rw [he,hi,hd]
     rfl
    ·dsimp only;omega
 ·conv=>whnf
  repeat' ((first|refine Br.pf (by omega) ?_|refine FinAt.val rfl ?_);conv=>whnf)
  obtain rfl:k=l.length:=by omega
  rw [List.drop_length] at he
  rw [he]
  rfl
theorem strays(a b:Int)(l:List W.Sp)(hl:l.length≤1000000):Ret Tryz.prog 130 [.agg [I a,I b],spsV l] (·=isV (W.strays ⟨a,b⟩ l l.length)):=by
 refine enterO tabOk (N:=31) (gs:=[]) (args:=[_,_]) Tryz.func130 rfl rfl rfl (nLe rfl) (fun E hE=>?_)
 conv=>whnf
 refine LoopAt.emp 5 3 1 rfl ?_
 refine LoopAt.rule tabOk [(2,_),(10,_),(11,_)] (fun (i:Nat×Nat×List (List AV))=>[(12,.int .i64 i.1),(5,.gro 1 i.2.1)]) (fun (i:Nat×Nat×List (List AV))=>[.blk [I a,I b],.buf 3 1 i.2.2]) (fun (i:Nat×Nat×List (List AV))=>i.1≤l.length∧i.2.1=(W.strays ⟨a,b⟩ l i.1).length∧i.2.2=(W.strays ⟨a,b⟩ l i.1).map fun x=>[I x]) (fun (i:Nat×Nat×List (List AV))=>l.length-i.1) (0,0,[]) (by trivial) ⟨by omega,rfl,rfl⟩ (by trivial) (by trivial) (fun _=>⟨rfl,rfl,rfl,by simp [hE]⟩) (fun i hk=>?_)
 obtain⟨k,n,c⟩:=i
 obtain⟨hk,hn,hc⟩:=hk
 dsimp only at hk hn hc ⊢
 have hn2:n≤k:=by rw [hn];exact W.strays_len _ _ _
 have hcl:c.length=n:=by rw [hc,hn,List.length_map]
 by_cases hlt:k<l.length
 ·conv=>whnf
  repeat' (first|((first|refine OpAt.appG apInt rfl [] rfl rfl rfl hcl (by simp) (.nil _) (by simp) (Xs.one rfl rfl rfl (RvL.pu rfl) rfl) (by decide) (by omega) ?_|refine Br.pt (by omega) ?_|refine CallS.q (spMeet _ _ _ _) rfl ?_|refine Ob.mk (by omega) ?_|refine Ob.mk (by unfold W.I64 at *;omega) ?_|refine Ix.nat _ ?_|refine BsN.mark ?_);conv=>whnf)|((refine Br.mk (fun h=>?_) (fun h=>?_))<;>conv=>whnf))
  ·refine⟨(k+1,_,_),⟨?_,?_,?_⟩,?_,(by trivial),(by trivial),(by trivial)⟩
   ·dsimp only;omega
   ·show n+1=_
    rw [W.strays,if_pos (show W.stray ⟨a,b⟩ (l.getD k W.Sp.z)=true from h),List.length_append,← hn]
    rfl
   ·show c++[[I k]]=_
    rw [W.strays,if_pos (show W.stray ⟨a,b⟩ (l.getD k W.Sp.z)=true from h),List.map_append,← hc]
    rfl
   ·dsimp only;omega
  ·refine⟨(k+1,_,_),⟨?_,?_,?_⟩,?_,(by trivial),(by trivial),(by trivial)⟩
   ·dsimp only;omega
   ·show n=_
    rw [W.strays,if_neg (show ¬ W.stray ⟨a,b⟩ (l.getD k W.Sp.z)=true from by rw [show W.stray ⟨a,b⟩ (l.getD k W.Sp.z)=false from h];simp),List.append_nil,← hn]
   ·show c=_
    rw [W.strays,if_neg (show ¬ W.stray ⟨a,b⟩ (l.getD k W.Sp.z)=true from by rw [show W.stray ⟨a,b⟩ (l.getD k W.Sp.z)=false from h];simp),List.append_nil,← hc]
   ·dsimp only;omega
 ·conv=>whnf
  repeat' ((refine Br.pf (by omega) ?_);conv=>whnf)
  obtain rfl:k=l.length:=by omega
  refine FinAt.gen (ars:=[isV (W.strays ⟨a,b⟩ l l.length)]) [1] (RvL.cons ?_ RvL.nil) (by repeat (first|exact Als.nil _|refine Als.cons rfl rfl ?_)) rfl
  subst hn
  exact Rv.gro (by simp) rfl (by rw [hc,List.length_map]) (fun j hj=>PLe.of (by rw [hc];simp [List.getD,hj]))
theorem together(l:List W.Sp)(hl:l.length≤1000000):Ret Tryz.prog 128 [spsV l] (·=.tup [.agg (spC (W.together l).1),.bool (W.together l).2.1,.bool (W.together l).2.2]):=by
 refine enterO tabOk (N:=27) (gs:=[]) (args:=[_]) Tryz.func128 rfl rfl rfl (nLe rfl) (fun E hE=>?_)
 by_cases h3:l.length<3
 all_goals
  conv=>whnf
  repeat' (first|((first|refine Br.pt (by omega) ?_|refine Br.pf (by omega) ?_|refine CallS.q (common l hl) rfl ?_|refine CallS.q (two l hl) rfl ?_|refine FinAt.val rfl ?_);conv=>whnf)|((refine Br.mk (fun h=>?_) (fun h=>?_))<;>conv=>whnf))
  all_goals
   unfold W.together
   first|rw [if_pos h]|(rw [if_neg (by rw [h];simp)];first|rw [if_pos h3]|rw [if_neg h3])
   rfl
abbrev snC(s:W.Sensor):List AV:=[.bool s.fit,I s.sp.lo,I s.sp.hi]
def fitK(a b c:W.Sensor)(k:Nat):List W.Sp:=(if decide (0<k)&&a.fit then [a.sp] else [])++(if decide (1<k)&&b.fit then [b.sp] else [])++(if decide (2<k)&&c.fit then [c.sp] else [])
theorem fit(a b c:W.Sensor):Ret Tryz.prog 127 [.agg (snC a++snC b++snC c)] (·=spsV (W.fitOf a b c)):=by
 refine enterO tabOk (N:=19) (gs:=[]) (args:=[_]) Tryz.func127 rfl rfl rfl (nLe rfl) (fun E hE=>?_)
 conv=>whnf
 refine LoopAt.emp 3 39 2 rfl ?_
 refine LoopAt.rule tabOk [(6,_)] (fun (i:Nat×Nat×List (List AV))=>[(7,.int .i64 i.1),(3,.gro 1 i.2.1)]) (fun (i:Nat×Nat×List (List AV))=>[.blk (snC a++snC b++snC c),.buf 39 2 i.2.2]) (fun (i:Nat×Nat×List (List AV))=>i.1≤3∧i.2.1=(fitK a b c i.1).length∧i.2.2=(fitK a b c i.1).map spC) (fun (i:Nat×Nat×List (List AV))=>3-i.1) (0,0,[]) (by trivial) ⟨by omega,rfl,rfl⟩ (by trivial) (by trivial) (fun _=>⟨rfl,rfl,rfl,by simp [hE]⟩) (fun i hk=>?_)
 obtain⟨k,n,q⟩:=i
 obtain⟨hk,hn,hc⟩:=hk
 dsimp only at hk hn hc ⊢
 by_cases hlt:k<3
 ·have hcl:q.length=n:=by rw [hc,hn,List.length_map]
  have hn3:n≤3:=by
   rw [hn];unfold fitK
   split<;>split<;>split<;>simp
  obtain rfl|rfl|rfl:k=0∨k=1∨k=2:=by omega
  all_goals
   conv=>whnf
   repeat' (first|((first|refine OpAt.appG apSp rfl [] rfl rfl rfl hcl (by simp) (.nil _) (by simp) (Xs.one rfl rfl rfl (RvL.pu rfl) rfl) (by decide) (by omega) ?_|refine Br.pt (by omega) ?_|refine Ob.mk (by omega) ?_|refine Ob.mk (by unfold W.I64 at *;omega) ?_|refine Ix.of 0 rfl ?_|refine Ix.of 1 rfl ?_|refine Ix.nat _ ?_|refine BsN.mark ?_);conv=>whnf)|((refine Br.mk (fun h=>?_) (fun h=>?_))<;>conv=>whnf))
   all_goals
    first
     |refine⟨(0+1,_,_),⟨?_,?_,?_⟩,?_,(by trivial),(by trivial),(by trivial)⟩
     |refine⟨(1+1,_,_),⟨?_,?_,?_⟩,?_,(by trivial),(by trivial),(by trivial)⟩
     |refine⟨(2+1,_,_),⟨?_,?_,?_⟩,?_,(by trivial),(by trivial),(by trivial)⟩
    ·dsimp only;omega
    ·dsimp only;rw [hn];simp [fitK,h]<;>try omega
    ·dsimp only;rw [hc];simp [fitK,h]
    ·dsimp only;omega
 ·obtain rfl:k=3:=by omega
  conv=>whnf
  repeat' ((refine Br.nf (by assumption) ?_);conv=>whnf)
  have e:W.fitOf a b c=fitK a b c 3:=by simp [W.fitOf,fitK]
  rw [e]
  refine FinAt.gen (ars:=[spsV (fitK a b c 3)]) [1] (RvL.cons ?_ RvL.nil) (by repeat (first|exact Als.nil _|refine Als.cons rfl rfl ?_)) rfl
  subst hn
  exact Rv.gro (by simp) rfl (by rw [hc,List.length_map]) (fun j hj=>PLe.of (by rw [hc];simp [List.getD,hj]))
end Y
end
namespace Y
open Go Go.RowKit Go.Sort
theorem CallN.updE{P:Program}{N:Nat}{E:En}{f:Nat}{vs xs:List AV}{dst:Option Nat}{K:Tm→Ow→Prop}{tm:Tm}{own:Ow}(J I:List Nat){gs:List OB}{r0:AV}{g0:List OB}(hv:RvJL own J I vs xs)(hI:Als own I)(hg:∀ i∈I,E.gs.length≤i)(hJ:Giv own J I gs)(h:RetO P f gs xs fun r gs'=>r=r0∧gs'=g0)
  (hK:put N tm dst r0 fun tm=>K tm (putJ J (g0.map (rnO J)) (killI I own))):CallN P N E f vs dst K tm own :=
 CallN.upd J I hv hI hg hJ h fun r gs' ⟨h1,h2⟩ _=>by subst h1;subst h2;exact hK
theorem CallN.retE{P:Program}{N:Nat}{E:En}{f:Nat}{vs ars:List AV}{dst:Option Nat}{K:Tm→Ow→Prop}{tm:Tm}{own:Ow}(I:List Nat){r0:AV}(hv:RvL own I vs ars)(hI:Als own I)(hg:∀ i∈I,E.gs.length≤i)(h:Ret P f ars (·=r0))
  (hK:put N tm dst r0 fun tm=>K tm (killI I own)):CallN P N E f vs dst K tm own :=
 CallN.ret I hv hI hg h fun r h1=>by subst h1;exact hK
theorem narrow'(a1 a2 ft:Int)(cl cf:Bool)(s0 s1 a b:Int):RetO Tryz.prog 129 [.blk [I a1,I a2,I ft,.bool cl,.bool cf,I s0,I s1]] [.own 0 0,.agg [I a,I b]] (fun r gs'=>r=.tup []∧gs'=[.blk (fusedC (W.Fused.narrow ⟨⟨a1,a2⟩,ft,cl,cf,s0,s1⟩ ⟨a,b⟩))]):=narrow ⟨⟨a1,a2⟩,ft,cl,cf,s0,s1⟩ a b
theorem fit_len(a b c:W.Sensor):(W.fitOf a b c).length≤3:=by
 unfold W.fitOf
 split<;>split<;>split<;>simp
theorem narrow_s0(f:W.Fused)(s:W.Sp):(f.narrow s).slip0=f.slip0:=by unfold W.Fused.narrow;split<;>rfl
theorem narrow_s1(f:W.Fused)(s:W.Sp):(f.narrow s).slip1=f.slip1:=by unfold W.Fused.narrow;split<;>rfl
theorem seven{v1 v2 v3 v4 v5:AV}{x x' y y':Int}(h:x=x')(h':y=y'):oneOr [AV.agg [v1,v2,v3,v4,v5,I x,I y]]=.agg [v1,v2,v3,v4,v5,I x',I y']:=by rw [h,h'];rfl
theorem fuse(p:W.Sp)(a b c acc:W.Sensor)(hT:SpI (W.together (W.fitOf a b c)).1):Ret Tryz.prog 91 [.agg (spC p),.agg (snC a++snC b++snC c),.agg (snC acc)] (·=.agg (fusedC (W.fuse p a b c acc))):=by
 obtain⟨L,hL⟩:∃ L,L=W.fitOf a b c:=⟨_,rfl⟩
 have hf:=fit a b c
 have hl:=fit_len a b c
 rw [← hL] at hf hT hl
 obtain⟨⟨⟨tl,th⟩,t1,t2⟩,ht⟩:∃ T,T=W.together L:=⟨_,rfl⟩
 have htg:=together L (by omega)
 rw [← ht] at htg hT
 refine enterO tabOk (N:=77) (gs:=[]) (args:=[_,_,_]) Tryz.func91 rfl rfl rfl (nLe rfl) (fun E hE=>?_)
 have hfu:W.fuse p a b c acc=(
  let t:W.Sp×Bool×Bool:=(⟨tl,th⟩,t1,t2)
  let f0:W.Fused:=⟨p,L.length,t2&&decide (L.length=3),false,0,0⟩
  let f1:=if t1 then f0.narrow ⟨tl,th⟩ else if 0<L.length then { f0 with conflict:=true } else f0
  let f2:=if acc.fit then f1.narrow acc.sp else f1
  if t1 && !t2 then { f2 with slip0:=if W.stray ⟨tl,th⟩ a.sp then W.slip a.sp ⟨tl,th⟩ else 0,slip1:=if W.stray ⟨tl,th⟩ b.sp then W.slip b.sp ⟨tl,th⟩ else 0 } else f2):=by
  unfold W.fuse
  rw [← hL]
  dsimp only
  rw [← ht]
 rw [hfu]
 clear hfu
 have h3i:decide ((L.length:Int)=3)=decide (L.length=3):=by
  by_cases h3:L.length=3
  ·simp [h3]
  ·rw [decide_eq_false h3,decide_eq_false (by omega)]
 cases t1
 ·conv=>whnf
  repeat' (first|((first|refine CallS.call (CallN.updE [4] [] (RvJL.cons (RvJ.ownP rfl) (RvJL.cons (RvJ.pu rfl) RvJL.nil)) (Als.nil _) (by simp) (Giv.one rfl (by simp) (RcJ.pu rfl)) (narrow' _ _ _ _ _ _ _ _ _) ?_)|refine Br.ot (by assumption) ?_|refine Br.of (by assumption) ?_|refine Br.of rfl ?_|refine CallS.q (hf) rfl ?_|refine CallS.q (htg) rfl ?_|refine FinAt.val rfl ?_);conv=>whnf)|((first|refine Br.d (fun h=>?_) (fun h=>?_)|refine Br.mk (fun h=>?_) (fun h=>?_))<;>conv=>whnf))
  all_goals
   simp_all
   try rfl
 ·cases t2
  ·have run:∀ (Q:List Int) (m:Nat),m=Q.length→W.strays ⟨tl,th⟩ [a.sp,b.sp] 2=Q→Ret Tryz.prog 130 [.agg [I tl,I th],spsV [a.sp,b.sp]] (·=.lst 1 m fun i=>[I (Q.getD i 0)]):=fun Q m hm hQ=>by
    subst hm
    subst hQ
    exact strays tl th [a.sp,b.sp] (by simp)
   cases hx:W.stray ⟨tl,th⟩ a.sp
   all_goals
    cases hy:W.stray ⟨tl,th⟩ b.sp
   ·have hst:=run [] 0 rfl (by simp [W.strays,hx,hy])
    conv=>whnf
    repeat' (first|((first|refine LoopAt.few tabOk 3 ?_|refine CallS.call (CallN.updE [4] [] (RvJL.cons (RvJ.ownP rfl) (RvJL.cons (RvJ.pu rfl) RvJL.nil)) (Als.nil _) (by simp) (Giv.one rfl (by simp) (RcJ.pu rfl)) (narrow' _ _ _ _ _ _ _ _ _) ?_)|refine CallS.call (CallN.retE (ars:=[.agg [I tl,I th],spsV [a.sp,b.sp]]) [6] (RvL.cons (Rv.pu rfl) (RvL.cons (Rv.sl (by simp) rfl (by decide) (fun j hj=>by obtain rfl|rfl:j=0∨j=1:=(by omega);(all_goals exact⟨nLe rfl,RvL.pu rfl⟩))) RvL.nil)) (by repeat (first|exact Als.nil _|refine Als.cons rfl rfl ?_)) (by simp [hE]) hst ?_)|refine Br.pf (by omega) ?_|refine Br.ot rfl ?_|refine Br.of rfl ?_|refine CallS.q (hf) rfl ?_|refine CallS.q (htg) rfl ?_|refine Ob.mk (by omega) ?_|refine Ix.of 0 rfl ?_|refine Ix.of 1 rfl ?_|refine Pc.lit ?_|refine BsN.mark ?_|refine FinAt.val rfl ?_);conv=>whnf)|((refine Br.mk (fun h=>?_) (fun h=>?_))<;>conv=>whnf))
    all_goals
     simp only [Bool.not_false,Bool.and_true,Bool.and_self,if_true,hx,hy,Bool.false_eq_true,if_false,Bool.true_and,Bool.false_and,h]
     refine seven ?_ ?_
     all_goals first|rfl|simp only [narrow_s0,narrow_s1]|(simp only [narrow_s0,narrow_s1];rfl)
   ·have hst:=run [1] 1 rfl (by simp [W.strays,hx,hy])
    conv=>whnf
    repeat' (first|((first|refine LoopAt.few tabOk 3 ?_|refine CallS.call (CallN.updE [4] [] (RvJL.cons (RvJ.ownP rfl) (RvJL.cons (RvJ.pu rfl) RvJL.nil)) (Als.nil _) (by simp) (Giv.one rfl (by simp) (RcJ.pu rfl)) (narrow' _ _ _ _ _ _ _ _ _) ?_)|refine CallS.call (CallN.retE (ars:=[.agg [I tl,I th],spsV [a.sp,b.sp]]) [6] (RvL.cons (Rv.pu rfl) (RvL.cons (Rv.sl (by simp) rfl (by decide) (fun j hj=>by obtain rfl|rfl:j=0∨j=1:=(by omega);(all_goals exact⟨nLe rfl,RvL.pu rfl⟩))) RvL.nil)) (by repeat (first|exact Als.nil _|refine Als.cons rfl rfl ?_)) (by simp [hE]) hst ?_)|refine Br.pt (by omega) ?_|refine Br.pf (by omega) ?_|refine Br.ot rfl ?_|refine Br.of rfl ?_|refine CallS.q (hf) rfl ?_|refine CallS.q (htg) rfl ?_|refine CallX.pu (slip _ _ _ _ hT.1 hT.2) rfl rfl ?_|refine Ob.mk (by omega) ?_|refine Ob.mk (by unfold W.I64 at *;omega) ?_|refine Drw.loose (by kernel_rfl) ?_|refine Ix.of 0 rfl ?_|refine Ix.of 1 rfl ?_|refine Pc.lit ?_|refine BsN.mark ?_|refine FinAt.val rfl ?_);conv=>whnf)|((refine Br.mk (fun h=>?_) (fun h=>?_))<;>conv=>whnf))
    all_goals
     simp only [Bool.not_false,Bool.and_true,Bool.and_self,if_true,hx,hy,Bool.false_eq_true,if_false,Bool.true_and,Bool.false_and,h]
     refine seven ?_ ?_
     all_goals first|rfl|simp only [narrow_s0,narrow_s1]|(simp only [narrow_s0,narrow_s1];rfl)
   ·have hst:=run [0] 1 rfl (by simp [W.strays,hx,hy])
    conv=>whnf
    repeat' (first|((first|refine LoopAt.few tabOk 3 ?_|refine CallS.call (CallN.updE [4] [] (RvJL.cons (RvJ.ownP rfl) (RvJL.cons (RvJ.pu rfl) RvJL.nil)) (Als.nil _) (by simp) (Giv.one rfl (by simp) (RcJ.pu rfl)) (narrow' _ _ _ _ _ _ _ _ _) ?_)|refine CallS.call (CallN.retE (ars:=[.agg [I tl,I th],spsV [a.sp,b.sp]]) [6] (RvL.cons (Rv.pu rfl) (RvL.cons (Rv.sl (by simp) rfl (by decide) (fun j hj=>by obtain rfl|rfl:j=0∨j=1:=(by omega);(all_goals exact⟨nLe rfl,RvL.pu rfl⟩))) RvL.nil)) (by repeat (first|exact Als.nil _|refine Als.cons rfl rfl ?_)) (by simp [hE]) hst ?_)|refine Br.pt (by omega) ?_|refine Br.pf (by omega) ?_|refine Br.ot rfl ?_|refine Br.of rfl ?_|refine CallS.q (hf) rfl ?_|refine CallS.q (htg) rfl ?_|refine CallX.pu (slip _ _ _ _ hT.1 hT.2) rfl rfl ?_|refine Ob.mk (by omega) ?_|refine Ob.mk (by unfold W.I64 at *;omega) ?_|refine Drw.loose (by kernel_rfl) ?_|refine Ix.of 0 rfl ?_|refine Ix.of 1 rfl ?_|refine Pc.lit ?_|refine BsN.mark ?_|refine FinAt.val rfl ?_);conv=>whnf)|((refine Br.mk (fun h=>?_) (fun h=>?_))<;>conv=>whnf))
    all_goals
     simp only [Bool.not_false,Bool.and_true,Bool.and_self,if_true,hx,hy,Bool.false_eq_true,if_false,Bool.true_and,Bool.false_and,h]
     refine seven ?_ ?_
     all_goals first|rfl|simp only [narrow_s0,narrow_s1]|(simp only [narrow_s0,narrow_s1];rfl)
   ·have hst:=run [0,1] 2 rfl (by simp [W.strays,hx,hy])
    conv=>whnf
    repeat' (first|((first|refine LoopAt.few tabOk 3 ?_|refine CallS.call (CallN.updE [4] [] (RvJL.cons (RvJ.ownP rfl) (RvJL.cons (RvJ.pu rfl) RvJL.nil)) (Als.nil _) (by simp) (Giv.one rfl (by simp) (RcJ.pu rfl)) (narrow' _ _ _ _ _ _ _ _ _) ?_)|refine CallS.call (CallN.retE (ars:=[.agg [I tl,I th],spsV [a.sp,b.sp]]) [6] (RvL.cons (Rv.pu rfl) (RvL.cons (Rv.sl (by simp) rfl (by decide) (fun j hj=>by obtain rfl|rfl:j=0∨j=1:=(by omega);(all_goals exact⟨nLe rfl,RvL.pu rfl⟩))) RvL.nil)) (by repeat (first|exact Als.nil _|refine Als.cons rfl rfl ?_)) (by simp [hE]) hst ?_)|refine Br.pt (by omega) ?_|refine Br.pf (by omega) ?_|refine Br.ot rfl ?_|refine Br.of rfl ?_|refine CallS.q (hf) rfl ?_|refine CallS.q (htg) rfl ?_|refine CallX.pu (slip _ _ _ _ hT.1 hT.2) rfl rfl ?_|refine Ob.mk (by omega) ?_|refine Ob.mk (by unfold W.I64 at *;omega) ?_|refine Drw.loose (by kernel_rfl) ?_|refine Ix.of 0 rfl ?_|refine Ix.of 1 rfl ?_|refine Pc.lit ?_|refine BsN.mark ?_|refine FinAt.val rfl ?_);conv=>whnf)|((refine Br.mk (fun h=>?_) (fun h=>?_))<;>conv=>whnf))
    all_goals
     simp only [Bool.not_false,Bool.and_true,Bool.and_self,if_true,hx,hy,Bool.false_eq_true,if_false,Bool.true_and,Bool.false_and,h]
     refine seven ?_ ?_
     all_goals first|rfl|simp only [narrow_s0,narrow_s1]|(simp only [narrow_s0,narrow_s1];rfl)
  ·conv=>whnf
   repeat' (first|((first|refine CallS.call (CallN.updE [4] [] (RvJL.cons (RvJ.ownP rfl) (RvJL.cons (RvJ.pu rfl) RvJL.nil)) (Als.nil _) (by simp) (Giv.one rfl (by simp) (RcJ.pu rfl)) (narrow' _ _ _ _ _ _ _ _ _) ?_)|refine Br.ot rfl ?_|refine Br.of rfl ?_|refine CallS.q (hf) rfl ?_|refine CallS.q (htg) rfl ?_|refine FinAt.val rfl ?_);conv=>whnf)|((refine Br.mk (fun h=>?_) (fun h=>?_))<;>conv=>whnf))
   all_goals
    simp_all
    try rfl
end Y
section
namespace W
def Sp.sub_(s t:Sp):Prop:=t.lo≤s.lo∧s.hi≤t.hi
theorem Sp.sub_.rfl{s:Sp}:s.sub_ s:=⟨Int.le_refl _,Int.le_refl _⟩
theorem Sp.sub_.trans{s t u:Sp}(h:s.sub_ t)(h':t.sub_ u):s.sub_ u:=⟨Int.le_trans h'.1 h.1,Int.le_trans h.2 h'.2⟩
theorem meet_yes{s t:Sp}(h:(s.meet t).2=true):(s.meet t).1=⟨max s.lo t.lo,min s.hi t.hi⟩∧max s.lo t.lo≤min s.hi t.hi:=by
 unfold Sp.meet both at h ⊢
 split at h
 ·next h1=>rw [if_pos h1];exact⟨rfl,h1⟩
 ·cases h
theorem meet_ok{s t:Sp}(h:max s.lo t.lo≤min s.hi t.hi):s.meet t=(⟨max s.lo t.lo,min s.hi t.hi⟩,true):=by
 unfold Sp.meet both
 rw [if_pos h]
theorem commonFrom_in:∀ (l:List Sp) (m:Sp),(commonFrom m l).2=true→(commonFrom m l).1.sub_ m∧∀ s∈l,(commonFrom m l).1.sub_ s
 |[],m,_=>⟨.rfl,by simp⟩
 |s::l,m,h=>by
  unfold commonFrom at h ⊢
  split at h
  ·next h1 =>
   rw [if_pos h1]
   obtain⟨e,h2⟩:=meet_yes h1
   obtain⟨g1,g2⟩:=commonFrom_in l _ h
   have hm:(s.meet m).1.sub_ m∨True:=.inr trivial
   have k1:(m.meet s).1.sub_ m:=by rw [e];unfold Sp.sub_;dsimp only;omega
   have k2:(m.meet s).1.sub_ s:=by rw [e];unfold Sp.sub_;dsimp only;omega
   refine⟨g1.trans k1,fun x hx=>?_⟩
   rcases List.mem_cons.1 hx with q|q
   ·subst q;exact g1.trans k2
   ·exact g2 x q
  ·cases h
theorem common_in{l:List Sp}(h:(common l).2=true):∀ s∈l,(common l).1.sub_ s:=by
 cases l with
 |nil=>cases h
 |cons m l=>exact(commonFrom_in (m::l) m h).2
theorem common_ne{l:List Sp}(h:(common l).2=true):l≠[]:=by
 intro e;subst e;cases h
theorem two_in{x y z:Sp}(h:(common [x,y,z]).2=false)(h2:(two [x,y,z]).2=true):(two [x,y,z]).1.sub_ x∨(two [x,y,z]).1.sub_ y∨(two [x,y,z]).1.sub_ z:=by
 have e:two [x,y,z]=twoStep y z (twoStep x z (twoStep x y (⟨0,0⟩,false))):=rfl
 rw [e] at h2 ⊢
 cases h1:(x.meet y).2 with
 |true =>
  obtain⟨m1,r1⟩:=meet_yes h1
  have s1:twoStep x y (⟨0,0⟩,false)=(⟨max x.lo y.lo,min x.hi y.hi⟩,true):=by unfold twoStep;rw [if_pos h1,m1];rfl
  rw [s1] at h2 ⊢
  cases h3:(x.meet z).2 with
  |true =>
   obtain⟨m3,r3⟩:=meet_yes h3
   have s3:twoStep x z (⟨max x.lo y.lo,min x.hi y.hi⟩,true)=((⟨max x.lo y.lo,min x.hi y.hi⟩:Sp).hull ⟨max x.lo z.lo,min x.hi z.hi⟩,true):=by unfold twoStep;rw [if_pos h3,m3];rfl
   rw [s3] at h2 ⊢
   have hh:(⟨max x.lo y.lo,min x.hi y.hi⟩:Sp).hull ⟨max x.lo z.lo,min x.hi z.hi⟩=⟨min (max x.lo y.lo) (max x.lo z.lo),max (min x.hi y.hi) (min x.hi z.hi)⟩:=by
    unfold Sp.hull Sp.right
    rw [if_neg (by dsimp only;omega),if_neg (by dsimp only;omega)]
   rw [hh] at h2 ⊢
   cases h4:(y.meet z).2 with
   |true =>
    exfalso
    obtain⟨m4,r4⟩:=meet_yes h4
    have k1:x.meet x=(⟨max x.lo x.lo,min x.hi x.hi⟩,true):=meet_ok (by omega)
    have k2:(⟨max x.lo x.lo,min x.hi x.hi⟩:Sp).meet y=(⟨max (max x.lo x.lo) y.lo,min (min x.hi x.hi) y.hi⟩,true):=meet_ok (by dsimp only;omega)
    have k3:(⟨max (max x.lo x.lo) y.lo,min (min x.hi x.hi) y.hi⟩:Sp).meet z=(⟨max (max (max x.lo x.lo) y.lo) z.lo,min (min (min x.hi x.hi) y.hi) z.hi⟩,true):=meet_ok (by dsimp only;omega)
    have:(common [x,y,z]).2=true:=by
     show (commonFrom x [x,y,z]).2=true
     unfold commonFrom
     rw [k1]
     simp only [if_true]
     unfold commonFrom
     rw [k2]
     simp only [if_true]
     unfold commonFrom
     rw [k3]
     rfl
    rw [this] at h;cases h
   |false =>
    have s4:twoStep y z (⟨min (max x.lo y.lo) (max x.lo z.lo),max (min x.hi y.hi) (min x.hi z.hi)⟩,true)=(⟨min (max x.lo y.lo) (max x.lo z.lo),max (min x.hi y.hi) (min x.hi z.hi)⟩,true):=by unfold twoStep;rw [h4];rfl
    rw [s4]
    left;unfold Sp.sub_;dsimp only;omega
  |false =>
   have s3:twoStep x z (⟨max x.lo y.lo,min x.hi y.hi⟩,true)=(⟨max x.lo y.lo,min x.hi y.hi⟩,true):=by unfold twoStep;rw [h3];rfl
   rw [s3] at h2 ⊢
   cases h4:(y.meet z).2 with
   |true =>
    obtain⟨m4,r4⟩:=meet_yes h4
    have s4:twoStep y z (⟨max x.lo y.lo,min x.hi y.hi⟩,true)=((⟨max x.lo y.lo,min x.hi y.hi⟩:Sp).hull ⟨max y.lo z.lo,min y.hi z.hi⟩,true):=by unfold twoStep;rw [if_pos h4,m4];rfl
    rw [s4]
    have hh:(⟨max x.lo y.lo,min x.hi y.hi⟩:Sp).hull ⟨max y.lo z.lo,min y.hi z.hi⟩=⟨min (max x.lo y.lo) (max y.lo z.lo),max (min x.hi y.hi) (min y.hi z.hi)⟩:=by
     unfold Sp.hull Sp.right
     rw [if_neg (by dsimp only;omega),if_neg (by dsimp only;omega)]
    rw [hh]
    right;left;unfold Sp.sub_;dsimp only;omega
   |false =>
    have s4:twoStep y z (⟨max x.lo y.lo,min x.hi y.hi⟩,true)=(⟨max x.lo y.lo,min x.hi y.hi⟩,true):=by unfold twoStep;rw [h4];rfl
    rw [s4]
    left;unfold Sp.sub_;dsimp only;omega
 |false =>
  have s1:twoStep x y (⟨0,0⟩,false)=(⟨0,0⟩,false):=by unfold twoStep;rw [h1];rfl
  rw [s1] at h2 ⊢
  cases h3:(x.meet z).2 with
  |true =>
   obtain⟨m3,r3⟩:=meet_yes h3
   have s3:twoStep x z (⟨0,0⟩,false)=(⟨max x.lo z.lo,min x.hi z.hi⟩,true):=by unfold twoStep;rw [if_pos h3,m3];rfl
   rw [s3] at h2 ⊢
   cases h4:(y.meet z).2 with
   |true =>
    obtain⟨m4,r4⟩:=meet_yes h4
    have s4:twoStep y z (⟨max x.lo z.lo,min x.hi z.hi⟩,true)=((⟨max x.lo z.lo,min x.hi z.hi⟩:Sp).hull ⟨max y.lo z.lo,min y.hi z.hi⟩,true):=by unfold twoStep;rw [if_pos h4,m4];rfl
    rw [s4]
    have hh:(⟨max x.lo z.lo,min x.hi z.hi⟩:Sp).hull ⟨max y.lo z.lo,min y.hi z.hi⟩=⟨min (max x.lo z.lo) (max y.lo z.lo),max (min x.hi z.hi) (min y.hi z.hi)⟩:=by
     unfold Sp.hull Sp.right
     rw [if_neg (by dsimp only;omega),if_neg (by dsimp only;omega)]
    rw [hh]
    right;right;unfold Sp.sub_;dsimp only;omega
   |false =>
    have s4:twoStep y z (⟨max x.lo z.lo,min x.hi z.hi⟩,true)=(⟨max x.lo z.lo,min x.hi z.hi⟩,true):=by unfold twoStep;rw [h4];rfl
    rw [s4]
    left;unfold Sp.sub_;dsimp only;omega
  |false =>
   have s3:twoStep x z (⟨0,0⟩,false)=(⟨0,0⟩,false):=by unfold twoStep;rw [h3];rfl
   rw [s3] at h2 ⊢
   cases h4:(y.meet z).2 with
   |true =>
    obtain⟨m4,r4⟩:=meet_yes h4
    have s4:twoStep y z (⟨0,0⟩,false)=(⟨max y.lo z.lo,min y.hi z.hi⟩,true):=by unfold twoStep;rw [if_pos h4,m4];rfl
    rw [s4]
    right;left;unfold Sp.sub_;dsimp only;omega
   |false =>
    have s4:twoStep y z (⟨0,0⟩,false)=(⟨0,0⟩,false):=by unfold twoStep;rw [h4];rfl
    rw [s4] at h2;cases h2
theorem fit_mem{a b c:Sensor}:(a.fit=true→a.sp∈fitOf a b c)∧(b.fit=true→b.sp∈fitOf a b c)∧(c.fit=true→c.sp∈fitOf a b c)∧(fitOf a b c≠[]→a.fit=true∨b.fit=true∨c.fit=true):=by
 unfold fitOf
 cases ha:a.fit<;>cases hb:b.fit<;>cases hc:c.fit<;>simp
theorem together_in{a b c:Sensor}(h:(together (fitOf a b c)).2.1=true):∃ s,(s=a∨s=b∨s=c)∧s.fit=true∧(together (fitOf a b c)).1.sub_ s.sp:=by
 unfold together at h ⊢
 cases hc:(common (fitOf a b c)).2 with
 |true =>
  rw [if_pos rfl]
  have hm:=common_in hc
  obtain⟨q1,q2,q3,q4⟩:=@fit_mem a b c
  rcases q4 (common_ne hc) with q|q|q
  ·exact⟨a,.inl rfl,q,hm _ (q1 q)⟩
  ·exact⟨b,.inr (.inl rfl),q,hm _ (q2 q)⟩
  ·exact⟨c,.inr (.inr rfl),q,hm _ (q3 q)⟩
 |false =>
  rw [hc] at h
  rw [if_neg (by simp)] at h ⊢
  by_cases hl:(fitOf a b c).length<3
  ·rw [if_pos hl] at h;cases h
  ·rw [if_neg hl] at h ⊢
   have hf:a.fit=true∧b.fit=true∧c.fit=true:=by
    unfold fitOf at hl
    cases ha:a.fit<;>cases hb:b.fit<;>cases hcc:c.fit<;>simp [ha,hb,hcc] at hl ⊢
   obtain⟨ha,hb,hcc⟩:=hf
   have e:fitOf a b c=[a.sp,b.sp,c.sp]:=by unfold fitOf;rw [ha,hb,hcc];rfl
   rw [e] at hc h ⊢
   rcases two_in hc h with q|q|q
   ·exact⟨a,.inl rfl,ha,q⟩
   ·exact⟨b,.inr (.inl rfl),hb,q⟩
   ·exact⟨c,.inr (.inr rfl),hcc,q⟩
theorem narrow_in{f:Fused}{s:Sp}(h:(f.narrow s).conflict=false):(f.narrow s).speed.sub_ f.speed∧(f.narrow s).speed.sub_ s∧f.conflict=false:=by
 unfold Fused.narrow at h ⊢
 split at h
 ·next h1 =>
  rw [if_pos h1]
  obtain⟨e,h2⟩:=meet_yes h1
  rw [e]
  refine⟨?_,?_,h⟩<;>(unfold Sp.sub_;dsimp only;omega)
 ·cases h
def fuse1(p:Sp)(a b c:Sensor):Fused :=
 if (together (fitOf a b c)).2.1 then (⟨p,(fitOf a b c).length,(together (fitOf a b c)).2.2&&decide ((fitOf a b c).length=3),false,0,0⟩:Fused).narrow (together (fitOf a b c)).1
 else if 0<(fitOf a b c).length then ⟨p,(fitOf a b c).length,(together (fitOf a b c)).2.2&&decide ((fitOf a b c).length=3),true,0,0⟩
 else ⟨p,(fitOf a b c).length,(together (fitOf a b c)).2.2&&decide ((fitOf a b c).length=3),false,0,0⟩
def fuse2(p:Sp)(a b c e:Sensor):Fused:=if e.fit then (fuse1 p a b c).narrow e.sp else fuse1 p a b c
theorem fuse_eq(p:Sp)(a b c e:Sensor):∃ s0 s1,fuse p a b c e={ fuse2 p a b c e with slip0:=s0,slip1:=s1 }:=by
 unfold fuse
 dsimp only
 split
 ·exact⟨_,_,rfl⟩
 ·exact⟨(fuse2 p a b c e).slip0,(fuse2 p a b c e).slip1,rfl⟩
theorem narrow_fit(f:Fused)(s:Sp):(f.narrow s).fit=f.fit∧(f.narrow s).clean=f.clean:=by
 unfold Fused.narrow
 split
 ·exact⟨rfl,rfl⟩
 ·exact⟨rfl,rfl⟩
theorem fuse1_fit(p:Sp)(a b c:Sensor):(fuse1 p a b c).fit=((fitOf a b c).length:Int)∧(fuse1 p a b c).clean=((together (fitOf a b c)).2.2&&decide ((fitOf a b c).length=3)):=by
 unfold fuse1
 split
 ·exact narrow_fit _ _
 ·split
  ·exact⟨rfl,rfl⟩
  ·exact⟨rfl,rfl⟩
theorem fuse2_fit(p:Sp)(a b c e:Sensor):(fuse2 p a b c e).fit=((fitOf a b c).length:Int)∧(fuse2 p a b c e).clean=((together (fitOf a b c)).2.2&&decide ((fitOf a b c).length=3)):=by
 unfold fuse2
 split
 ·exact⟨(narrow_fit _ _).1.trans (fuse1_fit p a b c).1,(narrow_fit _ _).2.trans (fuse1_fit p a b c).2⟩
 ·exact fuse1_fit p a b c
theorem fuse_in{p:Sp}{a b c e:Sensor}(hf:0<(fuse p a b c e).fit)(hc:(fuse p a b c e).conflict=false):∃ s,(s=a∨s=b∨s=c)∧s.fit=true∧(fuse p a b c e).speed.sub_ s.sp:=by
 obtain⟨s0,s1,e0⟩:=fuse_eq p a b c e
 rw [e0] at hf hc ⊢
 have hf':0<(fuse2 p a b c e).fit:=hf
 have hc':(fuse2 p a b c e).conflict=false:=hc
 rw [(fuse2_fit p a b c e).1] at hf'
 have hl:0<(fitOf a b c).length:=by omega
 show ∃ s,(s=a∨s=b∨s=c)∧s.fit=true∧(fuse2 p a b c e).speed.sub_ s.sp
 have k:(fuse2 p a b c e).speed.sub_ (fuse1 p a b c).speed∧(fuse1 p a b c).conflict=false:=by
  unfold fuse2 at hc' ⊢
  split at hc'
  ·next h1=>rw [if_pos h1];exact⟨(narrow_in hc').1,(narrow_in hc').2.2⟩
  ·next h1=>rw [if_neg h1];exact⟨.rfl,hc'⟩
 obtain⟨k1,k2⟩:=k
 cases ht:(together (fitOf a b c)).2.1 with
 |true =>
  obtain⟨s,q1,q2,q3⟩:=together_in ht
  refine⟨s,q1,q2,k1.trans (Sp.sub_.trans ?_ q3)⟩
  unfold fuse1 at k2 ⊢
  rw [if_pos ht] at k2 ⊢
  exact(narrow_in k2).2.1
 |false =>
  unfold fuse1 at k2
  rw [if_neg (by rw [ht];simp),if_pos hl] at k2
  cases k2
theorem fdiv_bounds(a:Int){b:Int}(h:0<b):b*Int.fdiv a b≤a∧a<b*Int.fdiv a b+b:=by
 have h1:=Int.fdiv_eq_ediv_of_nonneg a (Int.le_of_lt h)
 rw [h1]
 have h2:=Int.mul_ediv_add_emod a b
 have h3:=Int.emod_nonneg a (show b≠0 by omega)
 have h4:=Int.emod_lt_of_pos a h
 omega
theorem divQ_f{a b c:Int}(h:c≠0):divQ a b c false=if I64 (Int.fdiv (a*b) c) then (Int.fdiv (a*b) c,0) else (0,20):=by
 unfold divQ;rw [if_neg h];rfl
theorem divQ_t{a b c:Int}(h:c≠0):divQ a b c true=if I64 (-(Int.fdiv (-(a*b)) c)) then (-(Int.fdiv (-(a*b)) c),0) else (0,20):=by
 unfold divQ;rw [if_neg h];rfl
theorem divQ_lo{a b c:Int}(h:0<c)(h0:(divQ a b c false).2=0):c*(divQ a b c false).1≤a*b∧a*b<c*(divQ a b c false).1+c:=by
 rw [divQ_f (by omega)] at h0 ⊢
 by_cases h1:I64 (Int.fdiv (a*b) c)
 ·rw [if_pos h1];exact fdiv_bounds (a*b) h
 ·rw [if_neg h1] at h0;cases h0
theorem divQ_hi{a b c:Int}(h:0<c)(h0:(divQ a b c true).2=0):a*b≤c*(divQ a b c true).1∧c*(divQ a b c true).1<a*b+c:=by
 rw [divQ_t (by omega)] at h0 ⊢
 by_cases h1:I64 (-(Int.fdiv (-(a*b)) c))
 ·rw [if_pos h1]
  have:=fdiv_bounds (-(a*b)) h
  show a*b≤c * -(Int.fdiv (-(a*b)) c)∧c * -(Int.fdiv (-(a*b)) c)<a*b+c
  rw [Int.mul_neg]
  omega
 ·rw [if_neg h1] at h0;cases h0
theorem up_ge{a b:Int}(hb:0<b):a≤b*up a b∧b*up a b<a+b:=by
 unfold up
 have h2:=Int.mul_ediv_add_emod (a+b-1) b
 have h3:=Int.emod_nonneg (a+b-1) (show b≠0 by omega)
 have h4:=Int.emod_lt_of_pos (a+b-1) hb
 omega
theorem times_ends{s:Sp}{k p a b:Int}(ha:(if k<0 then s.hi else s.lo)=a)(hb:(if k<0 then s.lo else s.hi)=b)(h:(s.times k p).2=0):s.right∧1≤p ∧
  p*(s.times k p).1.lo≤k*a∧k*a<p*(s.times k p).1.lo+p∧k*b≤p*(s.times k p).1.hi∧p*(s.times k p).1.hi<k*b+p:=by
 unfold Sp.times at h ⊢
 rw [ha,hb] at h ⊢
 by_cases h1:¬ s.right∨p<1
 ·rw [if_pos h1] at h;cases h
 rw [if_neg h1] at h ⊢
 have h1':s.right∧1≤p:=⟨Decidable.byContradiction fun q=>h1 (.inl q),by omega⟩
 dsimp only at h ⊢
 by_cases h2:(divQ k a p false).2=0
 ·rw [if_neg (fun q=>q h2)] at h ⊢
  by_cases h3:(divQ k b p true).2=0
  ·rw [if_neg (fun q=>q h3)] at h ⊢
   have g2:=divQ_lo (by omega) h2
   have g3:=divQ_hi (by omega) h3
   exact⟨h1'.1,h1'.2,g2.1,g2.2,g3.1,g3.2⟩
  ·rw [if_pos h3] at h;exact absurd h h3
 ·rw [if_pos h2] at h;exact absurd h h2
theorem times_pos{s:Sp}{k p:Int}(hk:0≤k)(h:(s.times k p).2=0):s.right∧1≤p ∧
  p*(s.times k p).1.lo≤k*s.lo∧k*s.lo<p*(s.times k p).1.lo+p∧k*s.hi≤p*(s.times k p).1.hi∧p*(s.times k p).1.hi<k*s.hi+p :=
 times_ends (if_neg (by omega)) (if_neg (by omega)) h
theorem times_neg{s:Sp}{k p:Int}(hk:k<0)(h:(s.times k p).2=0):s.right∧1≤p ∧
  p*(s.times k p).1.lo≤k*s.hi∧k*s.hi<p*(s.times k p).1.lo+p∧k*s.lo≤p*(s.times k p).1.hi∧p*(s.times k p).1.hi<k*s.lo+p :=
 times_ends (if_pos hk) (if_pos hk) h
theorem hull_or(s t:Sp):((s.hull t).lo=s.lo∨(s.hull t).lo=t.lo)∧((s.hull t).hi=s.hi∨(s.hull t).hi=t.hi):=by
 unfold Sp.hull
 split
 ·exact⟨.inr rfl,.inr rfl⟩
 ·split
  ·exact⟨.inl rfl,.inl rfl⟩
  ·dsimp only;omega
theorem tacho_wide{d p L H:Int}{circ:Sp}(hp:1≤p)(hL:0≤L)(h1:L≤circ.lo)(h2:circ.hi≤H)(hr:circ.right){x y m:Int}(hx:(tacho d circ p).1.lo≤x)(hy:y≤(tacho d circ p).1.hi)(hm:x≤m)(hm':m≤y) :
  ∃ e:Int,0≤e∧p*(y-x)≤e*(H-L)+2*H+2*p∧e*L≤p*(abs m+1):=by
 have hH:0≤H∧L≤H:=by unfold Sp.right at hr;omega
 have triv:x=0→y=0→m=0→∃ e:Int,0≤e∧p*(y-x)≤e*(H-L)+2*H+2*p∧e*L≤p*(abs m+1):=fun a b c=>⟨0,Int.le_refl _,by subst a b;simp;omega,by subst c;unfold abs;simp;omega⟩
 have zero:∀ e:Int,(tacho d circ p)=(⟨0,0⟩,e)→∃ e:Int,0≤e∧p*(y-x)≤e*(H-L)+2*H+2*p∧e*L≤p*(abs m+1):=fun e q=>by
  rw [q] at hx hy
  dsimp only at hx hy
  exact triv (by omega) (by omega) (by omega)
 by_cases c1:d < -32768∨32767<d
 ·exact zero _ (by unfold tacho;rw [if_pos c1])
 by_cases c2:(circ.times (d-1) p).2≠0
 ·exact zero _ (by unfold tacho;rw [if_neg c1,if_pos c2])
 by_cases c3:(circ.times (d+1) p).2≠0
 ·exact zero _ (by unfold tacho;rw [if_neg c1,if_neg c2,if_pos c3])
 have e0:tacho d circ p=((circ.times (d-1) p).1.hull (circ.times (d+1) p).1,0):=by unfold tacho;rw [if_neg c1,if_neg c2,if_neg c3]
 have c2:=Decidable.not_not.1 c2
 have c3:=Decidable.not_not.1 c3
 rw [e0] at hx hy
 dsimp only at hx hy
 unfold Sp.right at hr
 have mul:∀ a b c:Int,0≤a→b≤c→a*b≤a*c:=fun a b c ha hb=>Int.mul_le_mul_of_nonneg_left hb ha
 obtain⟨o1,o2⟩:=hull_or (circ.times (d-1) p).1 (circ.times (d+1) p).1
 have am:m≤abs m∧-m≤abs m:=by unfold abs;split<;>omega
 have pm:=mul p m (abs m) (by omega) am.1
 have pm':=mul p (-m) (abs m) (by omega) am.2
 have px:=mul p x m (by omega) hm
 have py:=mul p m y (by omega) hm'
 have lo:p*(circ.times (d-1) p).1.lo≤p*x∨p*(circ.times (d+1) p).1.lo≤p*x:=by
  rcases o1 with q|q
  ·exact .inl (mul _ _ _ (by omega) (by omega))
  ·exact .inr (mul _ _ _ (by omega) (by omega))
 have hi:p*y≤p*(circ.times (d-1) p).1.hi∨p*y≤p*(circ.times (d+1) p).1.hi:=by
  rcases o2 with q|q
  ·exact .inl (mul _ _ _ (by omega) (by omega))
  ·exact .inr (mul _ _ _ (by omega) (by omega))
 by_cases d1:1≤d
 ·have t1:=times_pos (by omega) c2
  have t2:=times_pos (by omega) c3
  have b1:=mul (d-1) L circ.lo (by omega) h1
  have b2:=mul (d+1) circ.hi H (by omega) h2
  have b3:=mul (d-1) circ.hi H (by omega) h2
  have b4:=mul (d+1) L circ.lo (by omega) h1
  refine⟨d-1,by omega,?_,?_⟩
  ·simp only [Int.sub_mul,Int.add_mul,Int.mul_sub,Int.mul_add,Int.one_mul,Int.mul_one] at *
   omega
  ·simp only [Int.sub_mul,Int.add_mul,Int.mul_sub,Int.mul_add,Int.one_mul,Int.mul_one] at *
   omega
 ·by_cases d2:d=0
  ·subst d2
   have t1:=times_neg (by omega) c2
   have t2:=times_pos (by omega) c3
   refine⟨0,Int.le_refl _,?_,?_⟩
   ·simp only [Int.sub_mul,Int.add_mul,Int.mul_sub,Int.mul_add,Int.one_mul,Int.mul_one,Int.zero_mul,Int.zero_sub,Int.zero_add,Int.neg_mul] at *
    omega
   ·have:=mul p 0 (abs m+1) (by omega) (by omega)
    simp only [Int.zero_mul,Int.mul_zero] at *
    omega
  ·have t1:=times_neg (show d-1<0 by omega) c2
   have b1:=mul (-(d-1)) circ.hi H (by omega) h2
   have b2:=mul (-(d-1)) L circ.lo (by omega) h1
   have b3:=mul (-(d+1)) circ.hi H (by omega) h2
   have b4:=mul (-(d+1)) L circ.lo (by omega) h1
   have t2:(d+1)*circ.hi<p*(circ.times (d+1) p).1.lo+p∧p*(circ.times (d+1) p).1.hi<(d+1)*circ.lo+p:=by
    by_cases d3:d+1=0
    ·have t2:=times_pos (show 0≤d+1 by omega) c3
     rw [d3] at t2 ⊢
     simp only [Int.zero_mul] at t2 ⊢
     omega
    ·have t2:=times_neg (show d+1<0 by omega) c3
     omega
   refine⟨-d-1,by omega,?_,?_⟩
   ·simp only [Int.sub_mul,Int.add_mul,Int.mul_sub,Int.mul_add,Int.one_mul,Int.mul_one,Int.neg_mul,Int.mul_neg] at *
    omega
   ·simp only [Int.sub_mul,Int.add_mul,Int.mul_sub,Int.mul_add,Int.one_mul,Int.mul_one,Int.neg_mul,Int.mul_neg] at *
    omega
theorem tacho_growth{d p L H:Int}{circ:Sp}(hp:1≤p)(hL:1≤L)(hLH:16*(H-L)≤L)(h1:L≤circ.lo)(h2:circ.hi≤H)(hr:circ.right){x y m:Int}(hx:(tacho d circ p).1.lo≤x)(hy:y≤(tacho d circ p).1.hi)(hm:x≤m)(hm':m≤y) :
  1048576*(y-x)≤4*up (1048576*(H-L)) L*abs m+(12*up H p+9)*1048576:=by
 obtain⟨e,e0,e1,e2⟩:=tacho_wide hp (by omega) h1 h2 hr hx hy hm hm'
 have hH:L≤H:=by unfold Sp.right at hr;omega
 obtain⟨u1,u2⟩:=@up_ge (1048576*(H-L)) L (by omega)
 obtain⟨v1,v2⟩:=@up_ge H p (by omega)
 have mul:∀ a b c:Int,0≤a→b≤c→a*b≤a*c:=fun a b c ha hb=>Int.mul_le_mul_of_nonneg_left hb ha
 generalize hA:up (1048576*(H-L)) L=A at *
 generalize hP:up H p=P at *
 have am:0≤abs m:=by unfold abs;split<;>omega
 have hA0:0≤A:=by
  apply Decidable.byContradiction;intro q
  have:=mul L A (-1) (by omega) (by omega)
  omega
 have hA1:A≤1048576:=by
  apply Decidable.byContradiction;intro q
  have:=mul L 1048577 A (by omega) (by omega)
  omega
 have k1:1048576*(e*(H-L))≤e*(L*A):=by
  have:=mul e (1048576*(H-L)) (L*A) e0 u1
  rw [Int.mul_left_comm] at this
  omega
 have k2:e*(L*A)≤A*(p*(abs m+1)):=by
  have:=mul A (e*L) (p*(abs m+1)) hA0 e2
  have e':A*(e*L)=e*(L*A):=by rw [Int.mul_comm A,Int.mul_assoc]
  omega
 have k3:A*(p*(abs m+1))=p*(A*abs m)+p*A:=by
  rw [Int.mul_left_comm,Int.mul_add,Int.mul_one,Int.mul_add]
 have k4:=mul p A 1048576 (by omega) hA1
 have k5:0≤p*(A*abs m):=Int.mul_nonneg (by omega) (Int.mul_nonneg hA0 am)
 have k6:1048576*(p*(y-x))≤p*(A*abs m)+p*1048576+2097152*(p*P)+2097152*p:=by omega
 have k7:p*(1048576*(y-x))≤p*(4*A*abs m+(12*P+9)*1048576):=by
  have g1:p*(1048576*(y-x))=1048576*(p*(y-x)):=Int.mul_left_comm _ _ _
  have g2:p*(4*A*abs m+(12*P+9)*1048576)=4*(p*(A*abs m))+12582912*(p*P)+9437184*p:=by
   rw [Int.mul_add,Int.mul_assoc 4,Int.mul_left_comm p 4]
   have:(12*P+9)*1048576=12582912*P+9437184:=by omega
   rw [this,Int.mul_add,Int.mul_left_comm p 12582912,Int.mul_comm p 9437184]
   omega
  have g3:0≤p*P:=by omega
  omega
 exact Int.le_of_mul_le_mul_left k7 (by omega)
theorem radar_growth{c:Conf}{r:Int}(hb:0≤c.radBase)(hp:0≤c.radPart∧c.radPart≤65536){x y m:Int}(hx:(radar c r).lo≤x)(hy:y≤(radar c r).hi)(hm:x≤m)(hm':m≤y) :
  1048576*(y-x)≤6*c.radPart*abs m+(6*c.radBase+9)*1048576:=by
 have mul:∀ a b c:Int,0≤a→b≤c→a*b≤a*c:=fun a b c ha hb=>Int.mul_le_mul_of_nonneg_left hb ha
 have am:0≤abs m:=by unfold abs;split<;>omega
 have pm:0≤c.radPart*abs m:=Int.mul_nonneg hp.1 am
 have e6:6*c.radPart*abs m=6*(c.radPart*abs m):=Int.mul_assoc _ _ _
 rw [e6]
 obtain⟨E,hE,E1⟩:∃ E,c.error r=E∧1048576*(E-c.radBase)≤max r (-r)*c.radPart∧c.radBase≤E:=by
  refine⟨_,rfl,?_⟩
  unfold Conf.error
  have h0:0≤max r (-r)*c.radPart:=Int.mul_nonneg (by omega) hp.1
  rw [divQ_f (by omega)]
  split
  ·have h1:=fdiv_bounds (max r (-r)*c.radPart) (show (0:Int)<1048576 by omega)
   dsimp only
   omega
  ·dsimp only;omega
 have hrad:radar c r=⟨0,0⟩∨radar c r=⟨r-E,r+E⟩:=by
  unfold radar Sp.grow both
  rw [hE]
  split
  ·exact .inr rfl
  ·exact .inl rfl
 rcases hrad with q|q
 ·rw [q] at hx hy
  dsimp only at hx hy
  omega
 ·rw [q] at hx hy
  dsimp only at hx hy
  have hrm:max r (-r)≤abs m+E:=by unfold abs;split<;>omega
  have s1:max r (-r)*c.radPart≤c.radPart*(abs m+E):=by
   rw [Int.mul_comm];exact mul _ _ _ hp.1 hrm
  rw [Int.mul_add] at s1
  have s2:c.radPart*E≤65536*E:=Int.mul_le_mul_of_nonneg_right hp.2 (by omega)
  have s3:c.radPart*abs m≤65536*abs m:=Int.mul_le_mul_of_nonneg_right hp.2 am
  have s4:15*E≤16*c.radBase+abs m:=by omega
  have s5:=mul c.radPart (15*E) (16*c.radBase+abs m) hp.1 s4
  rw [Int.mul_add,Int.mul_left_comm,Int.mul_left_comm] at s5
  have s6:c.radPart*c.radBase≤65536*c.radBase:=Int.mul_le_mul_of_nonneg_right hp.2 hb
  omega
end W
end
end Go.Proofs.YtllemifiammnnaaGreat
