/- Part 11 of the proof. No condition. -/
import Derived.OrdersHeld
import Derived.Test.YtllemifiammnnaaGreatG08
import Derived.Test.YtllemifiammnnaaGreatG10
import Derived.Test.YtllemifiammnnaaGreatG09
import Derived.Test.YtllemifiammnnaaGreatG03
import Derived.Test.YtllemifiammnnaaGreatG07
set_option linter.unusedVariables false
set_option linter.unusedSimpArgs false
set_option maxRecDepth 100000
set_option maxHeartbeats 4000000
namespace Go.Proofs.YtllemifiammnnaaGreat
namespace Y
open Go Go.RowKit Go.Sort
structure EOk(t:W.Trk)(l:List Int):Prop where
 len:l.length=t.segs.length
 b:∀ i,-1≤l.getD i 0∧l.getD i 0≤4611686018427387904
theorem free_(t:W.Trk)(l:List Int)(s:W.RSet)(at_:Int)(ht:TLen t)(hn:NOk t)(hs:SGood t s)(hl:EOk t l)(ha:W.I64 at_):Ret Tryz.prog 108 [trkV t,isV l,setV s,I at_] (fun v=>∃ (q:Int) (b:Bool),v=.tup [I q,.bool b]∧W.I64 q):=by
 have hnn:=hs.n
 have hll:=hl.len
 refine enterO tabOk (N:=53) (gs:=[]) (args:=[_,_,_,_]) Tryz.func108 rfl rfl rfl (nLe rfl) (fun E hE=>?_)
 conv=>whnf
 refine LoopAt.rule tabOk [(1,_),(3,_),(4,_),(6,_),(17,_),(18,_)] (fun (i:Nat×Int×Bool)=>[(19,.int .i64 (i.1:Int)),(10,.int .i64 i.2.1),(11,.bool i.2.2)]) (fun (i:Nat×Int×Bool)=>[.blk [sgsV t.segs,gpsV t.grps],.blk [I s.from_,rtsV s.list]]) (fun (i:Nat×Int×Bool)=>i.1≤s.list.length∧W.I64 i.2.1) (fun (i:Nat×Int×Bool)=>s.list.length-i.1) (0,0,false) (by trivial) ⟨by simp,by show W.I64 0;unfold W.I64;omega⟩ (by trivial) (by trivial) (fun _=>⟨rfl,rfl,rfl,by simp [hE]⟩) (fun i hk=>?_)
 obtain⟨k,q,b⟩:=i
 obtain⟨hk,hq⟩:=hk
 dsimp only at hk hq ⊢
 by_cases hlt:k<s.list.length
 ·have hrg:=hs.at_ hlt
  have h1:=hrg.lo
  have h2:=hrg.hi
  have h3:=last_ok hrg.toROk
  have h4:=hl.b ((s.list.getD k ⟨0,[]⟩).seg.getD ((s.list.getD k ⟨0,[]⟩).n-1).toNat 0).toNat
  have he:-1099511627776≤s.end_ t (s.list.getD k ⟨0,[]⟩)∧s.end_ t (s.list.getD k ⟨0,[]⟩)≤13194139533312:=by
   have hf:=hs.f
   have h5:=pre_le (f:=s.from_) ht hrg.p (s.list.getD k ⟨0,[]⟩).path.length (Nat.le_refl _)
   have h6:=path_len hrg.len hrg.lo hrg.hi
   have e:s.end_ t (s.list.getD k ⟨0,[]⟩)=pre t s.from_ (s.list.getD k ⟨0,[]⟩).path (s.list.getD k ⟨0,[]⟩).path.length:=(pre_all t s.from_ _).symm
   rw [e]
   omega
  have hadd:W.I64 (s.end_ t (s.list.getD k ⟨0,[]⟩)+l.getD ((s.list.getD k ⟨0,[]⟩).seg.getD ((s.list.getD k ⟨0,[]⟩).n-1).toNat 0).toNat 0):=by unfold W.I64;omega
  have hsat:∀ x,W.I64 (W.sat x):=fun x=>by
   unfold W.sat
   by_cases hx:W.I64 x
   ·rw [if_pos hx];exact hx
   ·rw [if_neg hx];unfold W.I64;split<;>omega
  conv=>whnf
  repeat' (first|((first|refine LdAt.rt rfl _ rfl (by omega) ?_|refine Pc.sym ?_|refine Br.ot (by assumption) ?_|refine Br.of (by assumption) ?_|refine Br.pt (by omega) ?_|refine Br.ot rfl ?_|refine CallS.q (end_ t s _ ht hs.f hrg.toROk) rfl ?_|refine CallS.q (nSubSat _ _ hadd ha) rfl ?_|refine Ob.mk (by omega) ?_|refine Ob.mk (by unfold W.I64 at *;omega) ?_|refine Ix.nat _ ?_|refine Ix.tn (by omega) ?_);conv=>whnf)|((first|refine Br.d (fun h=>?_) (fun h=>?_)|refine Br.mk (fun h=>?_) (fun h=>?_))<;>conv=>whnf))
  all_goals first
   |exact⟨(k+1,q,b),⟨by dsimp only;omega,hq⟩,by dsimp only;omega,(by (repeat refine And.intro (by first|rfl|exact congrArg (fun z=>some (AV.int .i64 z)) (by first|omega|(dsimp only;omega))) ?_);exact trivial),(by trivial),(by trivial)⟩
   |exact⟨(k+1,_,true),⟨by dsimp only;omega,hsat _⟩,by dsimp only;omega,(by (repeat refine And.intro (by first|rfl|exact congrArg (fun z=>some (AV.int .i64 z)) (by first|omega|(dsimp only;omega))) ?_);exact trivial),(by trivial),(by trivial)⟩
 ·conv=>whnf
  repeat' ((first|refine Br.pf (by omega) ?_|refine FinAt.val rfl ?_);conv=>whnf)
  exact⟨q,b,rfl,hq⟩
def N2(t:W.Trk):Prop:=∀ i,i<t.segs.length→(t.segs.getD i default).next.length≤2
def EB(l:List Int)(b:Int):Prop:=∀ i,-1≤l.getD i 0∧l.getD i 0≤b
theorem EB.mono{l:List Int}{b b':Int}(h:EB l b)(hb:b≤b'):EB l b':=fun i=>⟨(h i).1,Int.le_trans (h i).2 hb⟩
theorem EB.set{l:List Int}{b x:Int}(h:EB l b)(k:Nat)(h1:-1≤x)(h2:x≤b):EB (l.set k x) b:=fun i=>by
 rw [List.getD_eq_getElem?_getD,List.getElem?_set]
 by_cases e:k=i
 ·rw [if_pos e]
  split
  ·exact⟨h1,h2⟩
  ·have:=h i
   next hge=>rw [List.getD_eq_getElem?_getD,List.getElem?_eq_none (by omega)] at this;exact this
 ·rw [if_neg e,← List.getD_eq_getElem?_getD]
  exact h i
theorem EB.rep(n:Nat):EB (List.replicate n 0) 0:=fun i=>by
 rw [List.getD_eq_getElem?_getD,List.getElem?_replicate]
 split<;>simp
theorem okArE{l:List Int}{r:List Value}{k:Nat}{a:List W.Seg}{b:List W.Grp}:okO k [.blk [sgsV a,gpsV b],.blk (ar i1 l r)]=true:=by simp [okO,okL1_ar k (e:=i1) (fun x=>rfl),okL1,ok1,ok0]
theorem ends_(t:W.Trk)(ht:TLen t)(hn:NOk t)(h2:N2 t)(h0:0<t.segs.length):Ret Tryz.prog 49 [trkV t] (fun v=>∃ l,v=isV l∧EOk t l):=by
 have hseg:=hn.n
 refine enterO tabOk (N:=90) (gs:=[]) (args:=[_]) Tryz.func49 rfl rfl rfl (nLe rfl) (fun E hE=>?_)
 conv=>whnf
 repeat' ((refine OpAt.mkSl (et:=2) (m:=t.segs.length) (kd:=.i64) (e:=i1) (bts:=8) (fun _=>rfl) rfl (by kernel_rfl) (by kernel_rfl) (by omega) (by omega) rfl rfl ?_);conv=>whnf)
 refine LoopAt.rule tabOk [(1,_),(3,_),(16,_),(17,_)] (fun (i:Nat×List Int)=>[(18,.int .i64 (i.1:Int))]) (fun (i:Nat×List Int)=>[.blk [sgsV t.segs,gpsV t.grps],.blk (ar i1 i.2 [])]) (fun (i:Nat×List Int)=>i.1≤t.segs.length∧i.2.length=t.segs.length∧EB i.2 0) (fun (i:Nat×List Int)=>t.segs.length-i.1) (0,List.replicate t.segs.length 0) (by (repeat refine And.intro (by first|rfl|exact congrArg (fun z=>some (AV.int .i64 z)) (by first|omega|(dsimp only;omega))) ?_);exact trivial) ⟨by simp,by simp,EB.rep _⟩ (by (repeat refine And.intro (by first|rfl|exact congrArg (fun z=>some (AV.int .i64 z)) (by first|omega|(dsimp only;omega))) ?_);exact trivial) (by (repeat refine And.intro (by first|rfl|exact congrArg (fun z=>some (AV.int .i64 z)) (by first|omega|(dsimp only;omega))) ?_);exact trivial) (fun _=>⟨rfl,rfl,okArE,by simp [hE]⟩) (fun i hk=>?_)
 obtain⟨k,l⟩:=i
 obtain⟨hk,hl,hb⟩:=hk
 dsimp only at hk hl hb ⊢
 by_cases hlt:k<t.segs.length
 ·conv=>whnf
  repeat' (first|((first|with_reducible refine Ix.nat _ ?_|refine Pc.sym ?_|refine StAt.el (e:=i1) (n:=1) i1_len _ rfl rfl _ (Nat.mul_one _).symm (by first|omega|(simp only [List.length_set];omega)) ?_|refine Br.pt (by omega) ?_|refine Ob.mk (by omega) ?_|refine Ob.mk (by unfold W.I64 at *;omega) ?_);conv=>whnf)|((refine Br.d (fun h=>?_) (fun h=>?_))<;>conv=>whnf))
  ·exact⟨(k+1,l.set (0+k*1) (-1)),⟨by dsimp only;omega,by simpa using hl,hb.set _ (by omega) (by omega)⟩,by dsimp only;omega,(by (repeat refine And.intro (by first|rfl|exact congrArg (fun z=>some (AV.int .i64 z)) (by first|omega|(dsimp only;omega))) ?_);exact trivial),(by trivial),(by trivial)⟩
  ·exact⟨(k+1,_),⟨by dsimp only;omega,hl,hb⟩,by dsimp only;omega,(by (repeat refine And.intro (by first|rfl|exact congrArg (fun z=>some (AV.int .i64 z)) (by first|omega|(dsimp only;omega))) ?_);exact trivial),(by trivial),(by trivial)⟩
 ·conv=>whnf
  repeat' ((refine Br.pf (by omega) ?_);conv=>whnf)
  refine LoopAt.rule tabOk [(1,_),(3,_),(33,_)] (fun (i:Nat×List Int)=>[(34,.int .i64 (i.1:Int))]) (fun (i:Nat×List Int)=>[.blk [sgsV t.segs,gpsV t.grps],.blk (ar i1 i.2 [])]) (fun (i:Nat×List Int)=>i.1≤t.segs.length∧i.2.length=t.segs.length∧EB i.2 (i.1*2199023255552000)) (fun (i:Nat×List Int)=>t.segs.length-i.1) (0,l) (by (repeat refine And.intro (by first|rfl|exact congrArg (fun z=>some (AV.int .i64 z)) (by first|omega|(dsimp only;omega))) ?_);exact trivial) ⟨by simp,hl,hb.mono (by simp)⟩ (by (repeat refine And.intro (by first|rfl|exact congrArg (fun z=>some (AV.int .i64 z)) (by first|omega|(dsimp only;omega))) ?_);exact trivial) (by (repeat refine And.intro (by first|rfl|exact congrArg (fun z=>some (AV.int .i64 z)) (by first|omega|(dsimp only;omega))) ?_);exact trivial) (fun _=>⟨rfl,rfl,okArE,by simp [hE]⟩) (fun i hk=>?_)
  clear hl hb
  obtain⟨a,l⟩:=i
  obtain⟨hk,hl,hb⟩:=hk
  dsimp only at hk hl hb ⊢
  by_cases hlt:a<t.segs.length
  ·conv=>whnf
   repeat' ((refine Br.pt (by omega) ?_);conv=>whnf)
   refine LoopAt.rule tabOk [(1,_),(3,_),(33,_),(34,_),(37,_),(38,_)] (fun (i:Nat×List Int)=>[(39,.int .i64 (i.1:Int))]) (fun (i:Nat×List Int)=>[.blk [sgsV t.segs,gpsV t.grps],.blk (ar i1 i.2 [])]) (fun (i:Nat×List Int)=>i.1≤t.segs.length∧i.2.length=t.segs.length∧EB i.2 (a*2199023255552000+i.1*2199023255552)) (fun (i:Nat×List Int)=>t.segs.length-i.1) (0,l) (by (repeat refine And.intro (by first|rfl|exact congrArg (fun z=>some (AV.int .i64 z)) (by first|omega|(dsimp only;omega))) ?_);exact trivial) ⟨by simp,hl,hb.mono (by dsimp only;omega)⟩ (by (repeat refine And.intro (by first|rfl|exact congrArg (fun z=>some (AV.int .i64 z)) (by first|omega|(dsimp only;omega))) ?_);exact trivial) (by (repeat refine And.intro (by first|rfl|exact congrArg (fun z=>some (AV.int .i64 z)) (by first|omega|(dsimp only;omega))) ?_);exact trivial) (fun _=>⟨rfl,rfl,okArE,by simp [hE]⟩) (fun i hk=>?_)
   clear hl hb
   obtain⟨b,l⟩:=i
   obtain⟨hk2,hl,hb⟩:=hk
   dsimp only at hk2 hl hb ⊢
   by_cases hlt2:b<t.segs.length
   ·have hnx:=hn.x b hlt2
    have hnw:=h2 b hlt2
    conv=>whnf
    repeat' ((first|refine Br.pt (by omega) ?_|refine Ob.mk (by omega) ?_|refine Ix.nat _ ?_);conv=>whnf)
    refine LoopAt.rule tabOk [(1,_),(3,_),(33,_),(34,_),(37,_),(38,_),(39,_),(6,_),(45,_),(46,_)] (fun (i:Nat×List Int)=>[(47,.int .i64 (i.1:Int))]) (fun (i:Nat×List Int)=>[.blk [sgsV t.segs,gpsV t.grps],.blk (ar i1 i.2 [])]) (fun (i:Nat×List Int)=>i.1≤(t.segs.getD b default).next.length∧i.2.length=t.segs.length∧EB i.2 (a*2199023255552000+b*2199023255552+i.1*1099511627776)) (fun (i:Nat×List Int)=>(t.segs.getD b default).next.length-i.1) (0,l) (by (repeat refine And.intro (by first|rfl|exact congrArg (fun z=>some (AV.int .i64 z)) (by first|omega|(dsimp only;omega))) ?_);exact trivial) ⟨by simp,hl,hb.mono (by dsimp only;omega)⟩ (by (repeat refine And.intro (by first|rfl|exact congrArg (fun z=>some (AV.int .i64 z)) (by first|omega|(dsimp only;omega))) ?_);exact trivial) (by (repeat refine And.intro (by first|rfl|exact congrArg (fun z=>some (AV.int .i64 z)) (by first|omega|(dsimp only;omega))) ?_);exact trivial) (fun _=>⟨rfl,rfl,okArE,by simp [hE]⟩) (fun i hk=>?_)
    clear hl hb
    obtain⟨c,l⟩:=i
    obtain⟨hk3,hl,hb⟩:=hk
    dsimp only at hk3 hl hb ⊢
    by_cases hlt3:c<(t.segs.getD b default).next.length
    ·have hx:=hnx c hlt3
     have htl:=ht ((t.segs.getD b default).next.getD c 0).toNat (by omega)
     have hb1:=hb (0+((t.segs.getD b default).next.getD c 0).toNat*1)
     conv=>whnf
     repeat' (first|((first|with_reducible refine Ix.nat _ ?_|refine Ix.tn (by omega) ?_|refine Pc.sym ?_|refine LdAt.one (e:=i1) (v:=I) (fun _=>rfl) (fun _=>rfl) 0 rfl _ rfl (by omega) ?_|refine StAt.el (e:=i1) (n:=1) i1_len _ rfl rfl _ (Nat.mul_one _).symm (by first|omega|(simp only [List.length_set];omega)) ?_|refine Br.pt (by assumption) ?_|refine Br.pf (by assumption) ?_|refine Br.nt (by assumption) ?_|refine Br.nf (by assumption) ?_|refine Br.pt (by omega) ?_|refine Br.ot rfl ?_|refine Br.of rfl ?_|refine Ob.mk (by omega) ?_|refine Ob.mk (by unfold W.I64 at *;omega) ?_|refine Drw.loose (by kernel_rfl) ?_);conv=>whnf)|((first|refine Br.d (fun h=>?_) (fun h=>?_)|refine Br.n (fun h=>?_) (fun h=>?_))<;>conv=>whnf))
     all_goals first
      |(
        refine Exists.intro (c+1,l) ⟨?_,?_,?_,?_,And.intro rfl (And.intro rfl trivial)⟩
        ·exact⟨by dsimp only;omega,hl,hb.mono (by dsimp only;omega)⟩
        ·dsimp only;omega
        ·exact(by (repeat refine And.intro (by first|rfl|exact congrArg (fun z=>some (AV.int .i64 z)) (by first|omega|(dsimp only;omega))) ?_);exact trivial)
        ·exact(by trivial))
      |(
        refine Exists.intro (c+1,l.set (0+b*1) (l.getD (0+((t.segs.getD b default).next.getD c 0).toNat*1) 0+(t.segs.getD ((t.segs.getD b default).next.getD c 0).toNat default).length)) ⟨?_,?_,?_,?_,And.intro rfl (And.intro rfl trivial)⟩
        ·exact⟨by dsimp only;omega,by simpa using hl,(hb.mono (by dsimp only;omega)).set _ (by omega) (by dsimp only;omega)⟩
        ·dsimp only;omega
        ·exact(by (repeat refine And.intro (by first|rfl|exact congrArg (fun z=>some (AV.int .i64 z)) (by first|omega|(dsimp only;omega))) ?_);exact trivial)
        ·exact(by trivial))
    ·conv=>whnf
     repeat' ((first|refine Br.pf (by omega) ?_|refine Ob.mk (by unfold W.I64 at *;omega) ?_);conv=>whnf)
     exact⟨(b+1,l),⟨by dsimp only;omega,hl,hb.mono (by dsimp only;omega)⟩,by dsimp only;omega,(by (repeat refine And.intro (by first|rfl|exact congrArg (fun z=>some (AV.int .i64 z)) (by first|omega|(dsimp only;omega))) ?_);exact trivial),(by trivial),(by trivial)⟩
   ·conv=>whnf
    repeat' ((first|refine Br.pf (by omega) ?_|refine Ob.mk (by unfold W.I64 at *;omega) ?_);conv=>whnf)
    exact⟨(a+1,l),⟨by dsimp only;omega,hl,hb.mono (by dsimp only;omega)⟩,by dsimp only;omega,(by (repeat refine And.intro (by first|rfl|exact congrArg (fun z=>some (AV.int .i64 z)) (by first|omega|(dsimp only;omega))) ?_);exact trivial),(by trivial),(by trivial)⟩
  ·conv=>whnf
   repeat' ((refine Br.pf (by omega) ?_);conv=>whnf)
   refine FinAt.gen (ars:=[isV l]) [1] (RvL.cons ?_ RvL.nil) (by repeat (first|exact Als.nil _|refine Als.cons rfl rfl ?_)) ⟨l,rfl,hl,fun i=>⟨(hb i).1,by have:=(hb i).2;omega⟩⟩
   have e:isV l=.lst 1 t.segs.length fun i=>[I (l.getD i 0)]:=by rw [← hl]
   rw [e]
   refine Rv.slM (cs:=ar i1 l []) (by simp) rfl ⟨Nat.le_refl _,by simp [maxLen];omega⟩ (fun j hj=>?_)
   obtain⟨q1,q2⟩:=ar_el (e:=i1) (sz:=1) (fun _=>rfl) (r:=[]) (0:Int) (show j<l.length by omega)
   refine⟨by omega,?_⟩
   rw [Nat.zero_add,q2]
   exact RvL.pu rfl
theorem SpI.zero:SpI ⟨0,0⟩:=by unfold SpI W.I64;dsimp only;omega
theorem both_i64{lo hi:Int}{h:Prop}[Decidable h](hh:h→W.I64 lo∧W.I64 hi):SpI (W.both lo hi h).1:=by
 unfold W.both
 split
 ·exact hh (by assumption)
 ·exact SpI.zero
theorem max_i64{a b:Int}(ha:W.I64 a)(hb:W.I64 b):W.I64 (max a b):=by unfold W.I64 at *;omega
theorem min_i64{a b:Int}(ha:W.I64 a)(hb:W.I64 b):W.I64 (min a b):=by unfold W.I64 at *;omega
theorem SpI.meet{s t:W.Sp}(hs:SpI s)(ht:SpI t):SpI (s.meet t).1:=both_i64 fun _=>⟨max_i64 hs.1 ht.1,min_i64 hs.2 ht.2⟩
theorem SpI.hull{s t:W.Sp}(hs:SpI s)(ht:SpI t):SpI (s.hull t):=by
 unfold W.Sp.hull
 split
 ·exact ht
 ·split
  ·exact hs
  ·exact⟨min_i64 hs.1 ht.1,max_i64 hs.2 ht.2⟩
theorem SpI.add{s t:W.Sp}:SpI (s.add t).1:=both_i64 fun h=>⟨h.2.2.1,h.2.2.2⟩
theorem SpI.sub{s t:W.Sp}:SpI (s.sub t).1:=both_i64 fun h=>⟨h.2.2.1,h.2.2.2⟩
theorem SpI.grow{s:W.Sp}{f:Int}:SpI (s.grow f).1:=both_i64 fun h=>⟨h.2.1,h.2.2.1⟩
theorem SpI.common{m:W.Sp}:∀ {l:List W.Sp},SpI m→(∀ s∈l,SpI s)→SpI (W.commonFrom m l).1
 |[],hm,_=>hm
 |s::l,hm,h=>by
  unfold W.commonFrom
  split
  ·exact SpI.common (hm.meet (h s List.mem_cons_self)) fun x hx=>h x (List.mem_cons_of_mem _ hx)
  ·exact SpI.zero
theorem SpI.twoStep{s t:W.Sp}{st:W.Sp×Bool}(hs:SpI s)(ht:SpI t)(h:SpI st.1):SpI (W.twoStep s t st).1:=by
 unfold W.twoStep
 split
 ·split
  ·exact h.hull (hs.meet ht)
  ·exact hs.meet ht
 ·exact h
theorem SpI.twoIn{s:W.Sp}(hs:SpI s):∀ {l:List W.Sp} {st:W.Sp×Bool},(∀ x∈l,SpI x)→SpI st.1→SpI (W.twoIn s l st).1
 |[],st,_,h=>h
 |t::l,st,hl,h=>by
  unfold W.twoIn
  exact SpI.twoIn (l:=l) hs (fun x hx=>hl x (List.mem_cons_of_mem _ hx)) (SpI.twoStep hs (hl t List.mem_cons_self) h)
theorem SpI.twoFrom:∀ {l:List W.Sp} {st:W.Sp×Bool},(∀ x∈l,SpI x)→SpI st.1→SpI (W.twoFrom l st).1
 |[],st,_,h=>h
 |s::l,st,hl,h=>by
  unfold W.twoFrom
  exact SpI.twoFrom (l:=l) (fun x hx=>hl x (List.mem_cons_of_mem _ hx)) (SpI.twoIn (l:=l) (hl s List.mem_cons_self) (fun x hx=>hl x (List.mem_cons_of_mem _ hx)) h)
theorem SpI.together{l:List W.Sp}(h:∀ s∈l,SpI s):SpI (W.together l).1:=by
 unfold W.together
 split
 ·cases l with
  |nil=>exact SpI.zero
  |cons m l=>exact SpI.common (h m List.mem_cons_self) h
 ·split
  ·exact SpI.zero
  ·exact SpI.twoFrom h SpI.zero
theorem fitOf_i64{a b c:W.Sensor}(ha:SpI a.sp)(hb:SpI b.sp)(hc:SpI c.sp):∀ s∈W.fitOf a b c,SpI s:=by
 intro s hs
 unfold W.fitOf at hs
 simp only [List.mem_append] at hs
 rcases hs with (hs|hs)|hs
 all_goals
  split at hs
  ·simp at hs;subst hs;assumption
  ·cases hs
theorem divQ_i64(a b c:Int)(u:Bool):W.I64 (W.divQ a b c u).1:=by
 unfold W.divQ
 split
 ·unfold W.I64;omega
 ·dsimp only
  split<;>split<;>first|assumption|(unfold W.I64;omega)
theorem ite_i64{c:Prop}[Decidable c]{a b:W.Sp×Int}(ha:SpI a.1)(hb:SpI b.1):SpI (if c then a else b).1:=by
 split<;>assumption
theorem SpI.times{s:W.Sp}{k b:Int}:SpI (s.times k b).1:=by
 unfold W.Sp.times
 exact ite_i64 .zero (ite_i64 .zero (ite_i64 .zero ⟨divQ_i64 _ _ _ _,divQ_i64 _ _ _ _⟩))
theorem SpI.tacho{d p:Int}{c:W.Sp}:SpI (W.tacho d c p).1:=by
 unfold W.tacho
 split
 ·exact SpI.zero
 ·split
  ·exact SpI.zero
  ·split
   ·exact SpI.zero
   ·exact SpI.times.hull SpI.times
theorem SpI.tachoS{c:W.Sp}{p:Int}{n:W.Counter×Int×Bool}:SpI (W.tachoSensor c p n).sp:=by
 unfold W.tachoSensor
 split
 ·exact SpI.tacho
 ·exact SpI.zero
theorem SpI.radarS(n:W.Nav)(m:Ml.M):SpI (n.radarS m).sp:=by
 unfold W.Nav.radarS
 split
 ·exact SpI.grow
 ·exact SpI.zero
structure CtB(k:W.Counter)(c:Int):Prop where
 l:0≤k.last∧k.last<65536
 sum:-(32768*c)≤k.sum∧k.sum≤32768*c
structure PlB(t:W.Trk)(p:W.Place):Prop where
 grp:0≤p.group∧p.group<t.grps.length
 set:SGood t p.set
 lo:-17592186044416≤p.pos.lo∧p.pos.lo≤17592186044416
 hi:-17592186044416≤p.pos.hi∧p.pos.hi≤17592186044416
 est:W.I64 p.est
structure SpeedB(c:W.Conf)(s:W.Sp):Prop where
 lo:-c.maxSpeed≤s.lo
 hi:s.hi≤c.maxSpeed
 right:s.lo≤s.hi
structure NavOk(n:W.Nav):Prop where
 off:n.broken=false
 cf:ConfB n.c
 tk:TrkOk n.t
 en:EOk n.t n.ends
 gr:SpI n.grades
 cy:0≤n.cycle∧n.cycle≤100000
 k0:CtB n.k0 n.cycle
 k1:CtB n.k1 n.cycle
 c0:SpI n.circ0
 c1:SpI n.circ1
 sp:SpeedB n.c n.speed
 di:0≤n.dist∧n.dist≤16777216*n.cycle
 pl:n.place.on=true→PlB n.t n.place
 ori:SpI n.origin
 s0:-(32768*n.cycle)≤n.sum0∧n.sum0≤32768*n.cycle
 s1:-(32768*n.cycle)≤n.sum1∧n.sum1≤32768*n.cycle
 st:0≤n.still.count∧n.still.count≤1000
 ro:SpI n.roll.moved
 w0:0≤n.watch.silent∧n.watch.silent≤1001
 w1:0≤n.watch.strife∧n.watch.strife≤1001
theorem CtB.next{k:W.Counter}{c v:Int}{h:Bool}(hk:CtB k c)(hc:0≤c∧c≤100000):CtB (k.next v h).1 (c+1):=by
 obtain⟨⟨h1,h2⟩,h3,h4⟩:=hk
 have hd:∀ a b,-32768≤W.delta a b∧W.delta a b≤32767:=fun a b=>by unfold W.delta;omega
 unfold W.Counter.next
 split
 ·split
  ·have:=hd k.last (v%65536)
   have hs:W.sat (k.sum+W.delta k.last (v%65536))=k.sum+W.delta k.last (v%65536):=W.sat_ok (by unfold W.I64;omega)
   refine⟨⟨by dsimp only;omega,by dsimp only;omega⟩,?_⟩
   dsimp only
   rw [hs]
   omega
  ·exact⟨⟨by dsimp only;omega,by dsimp only;omega⟩,by dsimp only;omega⟩
 ·exact⟨⟨h1,h2⟩,by dsimp only;omega⟩
theorem prior_b{c:W.Conf}{s:W.Sp}(hc:ConfB c)(hs:SpeedB c s):SpeedB c (W.prior c s):=by
 have h1:=hc.maxSpeed
 have h2:=hc.maxAccel
 obtain⟨h3,h4,h5⟩:=hs
 have e1:s.grow c.maxAccel=(⟨s.lo-c.maxAccel,s.hi+c.maxAccel⟩,true):=by
  unfold W.Sp.grow W.both
  rw [if_pos ⟨h5,by unfold W.I64;omega,by unfold W.I64;omega,by omega⟩]
 have e2:W.prior c s=⟨max (s.lo-c.maxAccel) (-c.maxSpeed),min (s.hi+c.maxAccel) c.maxSpeed⟩:=by
  unfold W.prior
  rw [e1]
  unfold W.Sp.meet W.both W.Conf.speeds
  dsimp only
  rw [if_pos (by omega)]
 rw [e2]
 exact⟨by dsimp only;omega,by dsimp only;omega,by dsimp only;omega⟩
theorem narrow_b{c:W.Conf}{f:W.Fused}{s:W.Sp}(h:SpeedB c f.speed):SpeedB c (f.narrow s).speed:=by
 obtain⟨h3,h4,h5⟩:=h
 unfold W.Fused.narrow W.Sp.meet W.both
 by_cases hm:max f.speed.lo s.lo≤min f.speed.hi s.hi
 ·rw [if_pos hm]
  rw [if_pos rfl]
  exact⟨by dsimp only;omega,by dsimp only;omega,by dsimp only;omega⟩
 ·rw [if_neg hm]
  rw [if_neg (by simp)]
  exact⟨h3,h4,h5⟩
theorem fuse_b{c:W.Conf}{p:W.Sp}{a b d e:W.Sensor}(h:SpeedB c p):SpeedB c (W.fuse p a b d e).speed:=by
 unfold W.fuse
 dsimp only
 have key:∀ (f:W.Fused),SpeedB c f.speed→SpeedB c (if e.fit then f.narrow e.sp else f).speed:=fun f hf=>by
  split
  ·exact narrow_b hf
  ·exact hf
 split
 ·show SpeedB c (W.Fused.speed (if e.fit then _ else _))
  apply key
  split
  ·exact narrow_b h
  ·split<;>exact h
 ·apply key
  split
  ·exact narrow_b h
  ·split<;>exact h
theorem mid_b{c:W.Conf}{s:W.Sp}(h:SpeedB c s):-c.maxSpeed≤s.mid∧s.mid≤c.maxSpeed:=by
 obtain⟨h3,h4,h5⟩:=h
 unfold W.Sp.mid W.mid
 omega
def withL(n:W.Nav)(l:List W.Rt):W.Nav:={ n with place:={ n.place with set:=⟨n.place.set.from_,l⟩ } }
def MoveR(n:W.Nav)(s:W.Sp)(n':W.Nav)(over:Bool):Prop:=∃ l,l.Perm (n.move s).1.place.set.list∧n'=withL (n.move s).1 l∧over=(n.move s).2
def FitL(n:W.Nav)(was:W.Place)(s:W.Sp)(i:Nat)(l:List Int):Prop :=
 ((W.passage was.pos s).2=true∧l.length≤192∧∀ x,x∈l↔x∈n.place.set.placesRaw n.t (n.t.grps.getD i default)∧W.fitsAt (W.window n.c (n.t.grps.getD i default)) (W.passage was.pos s).1 x=true)∨((W.passage was.pos s).2=false∧l=[])
def LookR(n:W.Nav)(m:Ml.M)(was:W.Place)(s:W.Sp)(x:W.Found):Prop :=
 (m.has 5=false∧x=⟨0,[],true,false⟩)∨(m.has 5=true∧n.t.find (m.val 5)=none∧x=⟨0,[],false,false⟩) ∨
 (m.has 5=true∧∃ i,n.t.find (m.val 5)=some i∧((n.place.on=true∧∃ l,FitL n was s i l∧x=⟨i,l,decide (0<l.length),decide (0<l.length)⟩)∨(n.place.on=false∧x=⟨i,[],true,true⟩)))
def watched(n:W.Nav)(f:W.Fused)(over acc:Bool):W.Nav :=
 let n3:={ n with watch:=n.watch.next n.c f.fit f.conflict over acc }
 if n3.watch.failed then { n3 with place:=W.Place.none } else n3
def rolled(n:W.Nav)(f:W.Fused)(cmd:Bool):W.Nav :=
 let n5:={ n with still:=n.still.next n.c f.speed f.fit }
 { n5 with roll:=n5.roll.next n5.c n5.still.on cmd f.speed }
def ended(n:W.Nav)(f:W.Fused)(over acc cmd:Bool):W.Nav:=rolled (watched n f over acc) f cmd
def sensed(n:W.Nav)(m:Ml.M):W.Nav×W.Fused :=
 let s:=({ n with cycle:=n.cycle+1 }:W.Nav).sense m
 ({ s.1 with clean:=s.1.clean&&s.2.clean },s.2)
def accepted(n:W.Nav)(x:W.Found)(f:W.Fused):W.Nav:=if x.accepted then n.accept x f.speed else n
def opened(n:W.Nav)(m:Ml.M)(x:W.Found):W.Report:={ W.Report.empty n.cycle with bad:=m.bad,stale:=m.stale,twice:=m.twice,beyond:=m.beyond,accepted:=x.accepted,fault:=!x.ok }
def TellR(n:W.Nav)(r:W.Report)(f:W.Fused)(r':W.Report):Prop:=∃ pm ov,r'={ n.tell r f with permitted:=pm,over:=ov }
def StepR(n:W.Nav)(m:Ml.M)(cmd:Bool)(n':W.Nav)(r:W.Report):Prop :=
 ∃ n2 over x,MoveR (sensed n m).1 (sensed n m).2.speed n2 over∧LookR n2 m (sensed n m).1.place (sensed n m).2.speed x∧n'=ended (accepted n2 x (sensed n m).2) (sensed n m).2 over x.accepted cmd∧TellR n' (opened n m x) (sensed n m).2 r
theorem growAll_good{t:W.Trk}{p:W.Sp}{s:W.RSet}(hn:NOk t):∀ (l:List W.Rt) (st:List W.Rt×Int),(∀ r∈l,RGood t r)→(∀ x∈st.1,RGood t x)→(st.2=0→st.1.length≤16)→st.1.length≤17 →
  (∀ x∈(W.growAll t p s l st).1,RGood t x)∧((W.growAll t p s l st).2=0→(W.growAll t p s l st).1.length≤16)
 |[],st,_,h,h2,_=>⟨h,h2⟩
 |r::l,st,hl,h,h2,h3=>by
  have h4:=growF_len t p 13 r (s.end_ t r) st h2 h3
  have h5:=growF_good p hn 13 r (s.end_ t r) st (hl r List.mem_cons_self) h
  exact growAll_good hn l _ (fun x hx=>hl x (List.mem_cons_of_mem _ hx)) h5 h4.1 h4.2
theorem grow_good{t:W.Trk}{p:W.Sp}{s:W.RSet}(hn:NOk t)(hs:SGood t s)(h:(s.grow t p).2=0):SGood t (s.grow t p).1:=by
 unfold W.RSet.grow at h ⊢
 split at h
 ·cases h
 ·next h1 =>
  rw [if_neg h1]
  dsimp only at h ⊢
  have hg:=growAll_good (p:=p) (s:=s) hn s.list ([],0) hs.r (by simp) (by simp) (by simp)
  split at h
  ·next h2=>exact absurd h h2
  ·next h2 =>
   rw [if_neg h2]
   split at h
   ·cases h
   ·next h3 =>
    rw [if_neg h3]
    have hp:=sortBy_perm (fun a b=>decide (W.Rt.cmp a b≤0)) (W.growAll t p s s.list ([],0)).1
    exact⟨hs.f,fun x hx=>hg.1 x (hp.mem_iff.1 hx),by
     show (W.sortBy _ _).length≤16
     rw [hp.length_eq]
     exact hg.2 (by simpa using h2)⟩
theorem SGood.perm{t:W.Trk}{f:Int}{l l':List W.Rt}(h:SGood t ⟨f,l⟩)(hp:l'.Perm l):SGood t ⟨f,l'⟩:=⟨h.f,fun x hx=>h.r x (hp.mem_iff.1 hx),by show l'.length≤16;rw [hp.length_eq];exact h.n⟩
theorem TrkOk.nok{t:W.Trk}(h:TrkOk t):NOk t∧N2 t∧PLen t:=by
 have key:∀ i,i<t.segs.length→(t.segs.getD i default).next.length≤2∧(∀ k,k<(t.segs.getD i default).next.length→0≤(t.segs.getD i default).next.getD k 0∧(t.segs.getD i default).next.getD k 0<t.segs.length)∧(t.segs.getD i default).pieces.length≤64:=fun i hi=>by
  have:=h.seg i hi
  unfold W.segOk at this
  simp only [Bool.and_eq_true,decide_eq_true_eq,List.all_eq_true,List.mem_range] at this
  obtain⟨⟨⟨h1,h2⟩,h3⟩,h4⟩:=this
  exact⟨h3,fun k hk=>⟨(h4 k hk).1,(h4 k hk).2.1⟩,(pieces_len h2).2⟩
 exact⟨⟨by have:=h.n;omega,fun i hi=>by have:=(key i hi).1;omega,fun i hi=>(key i hi).2.1⟩,fun i hi=>(key i hi).1,fun i hi=>(key i hi).2.2⟩
theorem clamp_i64{x a b:Int}(hx:W.I64 x)(ha:W.I64 a)(hb:W.I64 b):W.I64 (W.clamp x a b):=by unfold W.clamp W.I64 at *;omega
theorem sat_i64(x:Int):W.I64 (W.sat x):=by
 unfold W.sat
 by_cases hx:W.I64 x
 ·rw [if_pos hx];exact hx
 ·rw [if_neg hx];unfold W.I64;split<;>omega
theorem move_b{t:W.Trk}{p:W.Place}{s:W.Sp}(ht:TrkOk t)(hp:PlB t p)(hon:(p.move t s).1.on=true):PlB t (p.move t s).1∧(p.move t s).1.group=p.group:=by
 unfold W.Place.move at hon ⊢
 split at hon
 ·cases hon
 ·next h1 =>
  rw [if_neg h1]
  dsimp only at hon ⊢
  split at hon
  ·cases hon
  ·next h2 =>
   rw [if_neg h2]
   split at hon
   ·cases hon
   ·next h3 =>
    rw [if_neg h3]
    simp only [Bool.or_eq_true,Bool.not_eq_true',not_or,Bool.not_eq_false] at h2
    obtain⟨h4,h5⟩:=h2
    have hr:(p.pos.add s).1.right:=by
     unfold W.Sp.add W.both at h4 ⊢
     by_cases hc:p.pos.right∧s.right∧W.I64 (p.pos.lo+s.lo)∧W.I64 (p.pos.hi+s.hi)
     ·rw [if_pos hc]
      have:=hc.1;have:=hc.2.1
      unfold W.Sp.right at *
      dsimp only
      omega
     ·rw [if_neg hc] at h4;cases h4
    unfold W.Sp.in_ W.maxPlace at h5
    have h5:=of_decide_eq_true h5
    dsimp only at h5
    have hb:=h5.resolve_left (fun h=>h hr)
    unfold W.Sp.right at hr
    exact⟨⟨hp.grp,grow_good ht.nok.1 hp.set (by simpa using h3),⟨hb.1,by dsimp only;omega⟩,⟨by dsimp only;omega,hb.2⟩,clamp_i64 (sat_i64 _) (by unfold W.I64;omega) (by unfold W.I64;omega)⟩,rfl⟩
theorem find_lt{t:W.Trk}{id:Int}{i:Nat}(h:t.find id=some i):i<t.grps.length∧(t.grps.getD i default).id=id:=by
 unfold W.Trk.find at h
 have h1:=List.mem_of_find?_eq_some h
 have h2:=List.find?_some h
 exact⟨List.mem_range.1 h1,by simpa using h2⟩
theorem NavOk.sensed{n:W.Nav}{m:Ml.M}(h:NavOk n)(hc:n.cycle<100000):NavOk (sensed n m).1∧SpeedB n.c (sensed n m).2.speed:=by
 have h1:=h.cy
 have h2:=h.di
 have h3:=h.s0
 have h4:=h.s1
 refine⟨{ off:=h.off,cf:=h.cf,tk:=h.tk,en:=h.en,gr:=h.gr,cy:=?_,k0:=h.k0.next h1,k1:=h.k1.next h1,c0:=h.c0,c1:=h.c1,sp:=h.sp,di:=?_,pl:=h.pl,ori:=h.ori,s0:=?_,s1:=?_,st:=h.st,ro:=h.ro,w0:=h.w0,w1:=h.w1 },fuse_b (prior_b h.cf h.sp)⟩
 ·show 0≤n.cycle+1∧n.cycle+1≤100000;omega
 ·show 0≤n.dist∧n.dist≤16777216*(n.cycle+1);omega
 ·show -(32768*(n.cycle+1))≤n.sum0∧n.sum0≤32768*(n.cycle+1);omega
 ·show -(32768*(n.cycle+1))≤n.sum1∧n.sum1≤32768*(n.cycle+1);omega
theorem NavOk.moved{n n':W.Nav}{s:W.Sp}{over:Bool}(h:NavOk n)(hd:n.dist≤16777216*(n.cycle-1))(hs:SpeedB n.c s)(hm:MoveR n s n' over):NavOk n':=by
 obtain⟨l,hl,rfl,rfl⟩:=hm
 have hmb:=mid_b hs
 have hms:=h.cf.maxSpeed
 have hdi:=h.di
 have hab:0≤W.abs s.mid∧W.abs s.mid≤16777216:=by unfold W.abs;split<;>omega
 refine { off:=h.off,cf:=h.cf,tk:=h.tk,en:=h.en,gr:=h.gr,cy:=h.cy,k0:=h.k0,k1:=h.k1,c0:=h.c0,c1:=h.c1,sp:=hs,di:=?_,pl:=?_,ori:=h.ori,s0:=h.s0,s1:=h.s1,st:=h.st,ro:=h.ro,w0:=h.w0,w1:=h.w1 }
 ·have key:∀ c:Bool,0≤(if c=true then n.dist+W.abs s.mid else n.dist)∧(if c=true then n.dist+W.abs s.mid else n.dist)≤16777216*n.cycle:=fun c=>by
   cases c
   ·rw [if_neg (by simp)];omega
   ·rw [if_pos rfl];omega
  exact key _
 ·intro hon
  have hl':l.Perm (if n.place.on then (n.place.move n.t s).1 else n.place).set.list:=hl
  show PlB n.t { (if n.place.on then (n.place.move n.t s).1 else n.place) with set:=⟨(if n.place.on then (n.place.move n.t s).1 else n.place).set.from_,l⟩ }
  have hon':(if n.place.on then (n.place.move n.t s).1 else n.place).on=true:=hon
  have key:∀ p:W.Place,PlB n.t p→l.Perm p.set.list→PlB n.t { p with set:=⟨p.set.from_,l⟩ }:=fun p hp hl=>⟨hp.grp,SGood.perm (l:=p.set.list) hp.set hl,hp.lo,hp.hi,hp.est⟩
  by_cases h0:n.place.on=true
  ·rw [if_pos h0] at hl' hon' ⊢
   exact key _ (move_b h.tk (h.pl h0) hon').1 hl'
  ·rw [if_neg h0] at hon';exact absurd hon' h0
theorem begin_good{t:W.Trk}{g:Nat}(ht:TrkOk t)(hg:g<t.grps.length):SGood t (W.begin_ (t.grps.getD g default).seg (t.grps.getD g default).offset):=by
 obtain⟨g1,g2,g3,g4,g5⟩:=(ht.gr hg).1
 have hl:=ht.len (t.grps.getD g default).seg.toNat (by omega)
 have e:t.len (t.grps.getD g default).seg=(t.segs.getD (t.grps.getD g default).seg.toNat default).length:=rfl
 have hn:=ht.n
 refine⟨⟨g3.1,by show (t.grps.getD g default).offset≤_;omega⟩,fun x hx=>?_,by show 1≤16;omega⟩
 obtain rfl:x=⟨1,W.zeros12.set 0 (t.grps.getD g default).seg⟩:=by simpa [W.begin_] using hx
 refine⟨⟨rfl,by show (1:Int)≤1;omega,by show (1:Int)≤12;omega,fun i hi=>?_⟩,?_⟩
 ·have hp:(⟨1,W.zeros12.set 0 (t.grps.getD g default).seg⟩:W.Rt).path=[(t.grps.getD g default).seg]:=rfl
  rw [hp] at hi ⊢
  obtain rfl:i=0:=by simpa using hi
  exact g2
 ·refine⟨by show W.I64 1;unfold W.I64;omega,fun i=>?_⟩
  show W.I64 ((W.zeros12.set 0 (t.grps.getD g default).seg).getD i 0)
  have hz:∀ j,W.zeros12.getD j 0=0:=fun j=>by
   unfold W.zeros12
   match j with
   |0|1|2|3|4|5|6|7|8|9|10|11=>rfl
   |_+12=>rfl
  cases i with
  |zero=>show W.I64 (t.grps.getD g default).seg;unfold W.I64;omega
  |succ i =>
   have:(W.zeros12.set 0 (t.grps.getD g default).seg).getD (i+1) 0=W.zeros12.getD (i+1) 0:=rfl
   rw [this,hz]
   unfold W.I64;omega
theorem reset_b{c:W.Conf}{t:W.Trk}{g:Nat}{s:W.Sp}(hc:ConfB c)(ht:TrkOk t)(hg:g<t.grps.length)(hs:SpeedB c s):PlB t (W.resetAt c (t.grps.getD g default) g s):=by
 obtain⟨g1,g2,g3,g4,g5⟩:=(ht.gr hg).1
 have h1:=hc.antenna
 have h2:=hc.maxSpeed
 obtain⟨h3,h4,h5⟩:=hs
 refine⟨⟨by show (0:Int)≤g;omega,by show (g:Int) < _;omega⟩,begin_good ht hg,?_,?_,?_⟩
 ·show _≤-((t.grps.getD g default).acc+c.antenna)+min 0 s.lo∧-((t.grps.getD g default).acc+c.antenna)+min 0 s.lo≤_;omega
 ·show _≤((t.grps.getD g default).acc+c.antenna)+max 0 s.hi∧((t.grps.getD g default).acc+c.antenna)+max 0 s.hi≤_;omega
 ·show W.I64 (W.mid (-((t.grps.getD g default).acc+c.antenna)+min 0 s.lo) (((t.grps.getD g default).acc+c.antenna)+max 0 s.hi))
  unfold W.mid W.I64
  omega
theorem SpI.learnOwn{c:W.Sp}{r:W.Sp×Bool}(hc:SpI c)(hr:SpI r.1):SpI (W.learnOwn c r):=by
 unfold W.learnOwn
 split
 ·split
  ·exact hc.meet hr
  ·exact hc
 ·exact hc
theorem SpI.reckoned{w:W.Sp}{p n:Int}:SpI (W.reckoned w p n).1:=by
 unfold W.reckoned
 split
 ·exact SpI.zero
 ·exact⟨divQ_i64 _ _ _ _,divQ_i64 _ _ _ _⟩
theorem SpI.learn{c w:W.Sp}{p n:Int}(hc:SpI c):SpI (W.learn c w p n):=by
 unfold W.learn
 split
 ·split
  ·exact hc.learnOwn .reckoned
  ·exact hc
 ·exact hc.learnOwn .reckoned
theorem learn_keep(n:W.Nav)(a:Int):∃ c0 c1,n.learn a={ n with circ0:=c0,circ1:=c1 }∧(SpI n.circ0→SpI c0)∧(SpI n.circ1→SpI c1):=by
 unfold W.Nav.learn
 dsimp only
 split
 ·exact⟨_,_,rfl,id,id⟩
 ·split
  ·exact⟨_,_,rfl,id,id⟩
  ·exact⟨_,_,rfl,fun h=>h.learn,fun h=>h.learn⟩
theorem LookR.grp{n:W.Nav}{m:Ml.M}{was:W.Place}{s:W.Sp}{x:W.Found}(h:LookR n m was s x)(ha:x.accepted=true):∃ i:Nat,x.group=i∧i<n.t.grps.length∧(n.t.grps.getD i default).id=m.val 5∧m.has 5=true:=by
 rcases h with ⟨_,rfl⟩|⟨_,_,rfl⟩|⟨h5,i,hf,h⟩
 ·cases ha
 ·cases ha
 ·have:=find_lt hf
  rcases h with ⟨_,l,_,rfl⟩|⟨_,rfl⟩<;>exact⟨i,rfl,this.1,this.2,h5⟩
theorem NavOk.accepted{n:W.Nav}{m:Ml.M}{was:W.Place}{x:W.Found}{f:W.Fused}(h:NavOk n)(hl:LookR n m was f.speed x)(hs:SpeedB n.c f.speed):NavOk (Y.accepted n x f):=by
 unfold Y.accepted
 split
 ·next ha =>
  obtain⟨i,e,hi,_⟩:=hl.grp ha
  have hp:PlB n.t (W.resetAt n.c (n.t.grp x.group) x.group f.speed):=by
   rw [e]
   exact reset_b h.cf h.tk hi hs
  have hpi:SpI (W.resetAt n.c (n.t.grp x.group) x.group f.speed).pos:=⟨by have:=hp.lo;unfold W.I64;omega,by have:=hp.hi;unfold W.I64;omega⟩
  unfold W.Nav.accept
  dsimp only
  obtain⟨c0,c1,e1,e2,e3⟩:=learn_keep { n with place:=W.resetAt n.c (n.t.grp x.group) x.group f.speed } (x.at_.getD 0 0)
  rw [e1]
  split
  ·exact { off:=h.off,cf:=h.cf,tk:=h.tk,en:=h.en,gr:=h.gr,cy:=h.cy,k0:=h.k0,k1:=h.k1,c0:=e2 h.c0,c1:=e3 h.c1,sp:=h.sp,di:=h.di,pl:=fun _=>hp,ori:=hpi,s0:=h.k0.sum,s1:=h.k1.sum,st:=h.st,ro:=h.ro,w0:=h.w0,w1:=h.w1 }
  ·exact { off:=h.off,cf:=h.cf,tk:=h.tk,en:=h.en,gr:=h.gr,cy:=h.cy,k0:=h.k0,k1:=h.k1,c0:=h.c0,c1:=h.c1,sp:=h.sp,di:=h.di,pl:=fun _=>hp,ori:=hpi,s0:=h.k0.sum,s1:=h.k1.sum,st:=h.st,ro:=h.ro,w0:=h.w0,w1:=h.w1 }
 ·exact h
theorem NavOk.watched{n:W.Nav}{f:W.Fused}{over acc:Bool}(h:NavOk n):NavOk (watched n f over acc):=by
 have h1:=h.w0
 have h2:=h.w1
 have h3:=h.cf.timeout
 have hc:∀ (k:Int) (b:Bool),0≤k→0≤W.wcount k (n.c.timeout+1) b∧W.wcount k (n.c.timeout+1) b≤1001:=fun k b hk=>by unfold W.wcount;split<;>omega
 have hw:NavOk { n with watch:=n.watch.next n.c f.fit f.conflict over acc }:={ off:=h.off,cf:=h.cf,tk:=h.tk,en:=h.en,gr:=h.gr,cy:=h.cy,k0:=h.k0,k1:=h.k1,c0:=h.c0,c1:=h.c1,sp:=h.sp,di:=h.di,pl:=h.pl,ori:=h.ori,s0:=h.s0,s1:=h.s1,st:=h.st,ro:=h.ro,w0:=hc _ _ h1.1,w1:=hc _ _ h2.1 }
 unfold Y.watched
 dsimp only
 split
 ·exact { off:=h.off,cf:=h.cf,tk:=h.tk,en:=h.en,gr:=h.gr,cy:=h.cy,k0:=h.k0,k1:=h.k1,c0:=h.c0,c1:=h.c1,sp:=h.sp,di:=h.di,pl:=(fun h=>by cases h),ori:=h.ori,s0:=h.s0,s1:=h.s1,st:=h.st,ro:=h.ro,w0:=hc _ _ h1.1,w1:=hc _ _ h2.1 }
 ·exact hw
theorem NavOk.rolled{n:W.Nav}{f:W.Fused}{cmd:Bool}(h:NavOk n):NavOk (rolled n f cmd):=by
 have h1:=h.st
 have h3:=h.cf.still
 refine { off:=h.off,cf:=h.cf,tk:=h.tk,en:=h.en,gr:=h.gr,cy:=h.cy,k0:=h.k0,k1:=h.k1,c0:=h.c0,c1:=h.c1,sp:=h.sp,di:=h.di,pl:=h.pl,ori:=h.ori,s0:=h.s0,s1:=h.s1,st:=?_,ro:=?_,w0:=h.w0,w1:=h.w1 }
 ·show 0≤(n.still.next n.c f.speed f.fit).count∧(n.still.next n.c f.speed f.fit).count≤1000
  unfold W.Still.next
  split
  ·dsimp only;omega
  ·dsimp only;omega
 ·show SpI (W.Roll.next _ _ _ _ _).moved
  unfold W.Roll.next
  split
  ·exact SpI.zero
  ·split
   ·exact SpI.zero
   ·dsimp only
    split
    ·exact SpI.add
    ·exact h.ro
theorem ended_c(n:W.Nav)(f:W.Fused)(over acc cmd:Bool):(ended n f over acc cmd).c=n.c∧(ended n f over acc cmd).t=n.t∧(ended n f over acc cmd).cycle=n.cycle∧(ended n f over acc cmd).circ0=n.circ0∧(ended n f over acc cmd).circ1=n.circ1∧(ended n f over acc cmd).dist=n.dist∧(ended n f over acc cmd).broken=n.broken:=by
 unfold ended rolled watched
 dsimp only
 split<;>exact⟨rfl,rfl,rfl,rfl,rfl,rfl,rfl⟩
theorem accepted_c(n:W.Nav)(x:W.Found)(f:W.Fused):(accepted n x f).c=n.c∧(accepted n x f).t=n.t∧(accepted n x f).cycle=n.cycle∧(accepted n x f).dist=n.dist:=by
 unfold accepted
 split
 ·unfold W.Nav.accept
  dsimp only
  obtain⟨c0,c1,e1,_⟩:=learn_keep { n with place:=W.resetAt n.c (n.t.grp x.group) x.group f.speed } (x.at_.getD 0 0)
  rw [e1]
  split<;>exact⟨rfl,rfl,rfl,rfl⟩
 ·exact⟨rfl,rfl,rfl,rfl⟩
theorem StepR.keep{n n':W.Nav}{m:Ml.M}{cmd:Bool}{r:W.Report}(h:StepR n m cmd n' r):n'.c=n.c∧n'.t=n.t∧n'.cycle=n.cycle+1:=by
 obtain⟨n2,over,x,⟨l,hl,rfl,rfl⟩,hk,rfl,_⟩:=h
 obtain⟨e1,e2,e3,_⟩:=ended_c (accepted (withL ((sensed n m).1.move (sensed n m).2.speed).1 l) x (sensed n m).2) (sensed n m).2 ((sensed n m).1.move (sensed n m).2.speed).2 x.accepted cmd
 obtain⟨g1,g2,g3,_⟩:=accepted_c (withL ((sensed n m).1.move (sensed n m).2.speed).1 l) x (sensed n m).2
 exact⟨e1.trans g1,e2.trans g2,e3.trans g3⟩
theorem StepR.ok{n n':W.Nav}{m:Ml.M}{cmd:Bool}{r:W.Report}(h:NavOk n)(hc:n.cycle<100000)(hs:StepR n m cmd n' r):NavOk n':=by
 obtain⟨n2,over,x,hm,hl,rfl,_⟩:=hs
 obtain⟨h1,h2⟩:=h.sensed (m:=m) hc
 have h3:=h1.moved (by show n.dist≤16777216*(n.cycle+1-1);have:=h.di;omega) h2 hm
 have hcc:n2.c=n.c:=by obtain⟨l,hl,rfl,rfl⟩:=hm;rfl
 exact((h3.accepted hl (by rw [hcc];exact h2)).watched).rolled
inductive RunTo(M:Nat→Ml.M)(C:Nat→Bool)(n0:W.Nav):Nat→W.Nav→List W.Report→Prop
 |zero:RunTo M C n0 0 n0 []
 |step {k:Nat} {n n':W.Nav} {rs:List W.Report} {r:W.Report}:RunTo M C n0 k n rs→StepR n (M k) (C k) n' r→RunTo M C n0 (k+1) n' (rs++[r])
theorem RunTo.len{M:Nat→Ml.M}{C:Nat→Bool}{n0 n:W.Nav}{k:Nat}{rs:List W.Report}(h:RunTo M C n0 k n rs):rs.length=k:=by
 induction h with
 |zero=>rfl
 |step _ _ ih=>simp [ih]
theorem RunTo.ok{M:Nat→Ml.M}{C:Nat→Bool}{n0 n:W.Nav}{k:Nat}{rs:List W.Report}(h:RunTo M C n0 k n rs)(h0:NavOk n0)(hc:n0.cycle=0)(hk:k≤1000):NavOk n∧n.cycle=k∧n.c=n0.c∧n.t=n0.t:=by
 induction h with
 |zero=>exact⟨h0,by omega,rfl,rfl⟩
 |step _ hs ih =>
  obtain⟨h1,h2,h3,h4⟩:=ih (by omega)
  have hk:=hs.keep
  exact⟨StepR.ok h1 (by omega) hs,by omega,hk.1.trans h3,hk.2.1.trans h4⟩
theorem RunTo.at_{M:Nat→Ml.M}{C:Nat→Bool}{n0 n:W.Nav}{k:Nat}{rs:List W.Report}(h:RunTo M C n0 k n rs):∀ j,j<k→∃ nj nj' rj,RunTo M C n0 j nj (rs.take j)∧StepR nj (M j) (C j) nj' rj∧RunTo M C n0 (j+1) nj' (rs.take (j+1))∧rs[j]?=some rj:=by
 induction h with
 |zero=>intro j hj;omega
 |@step k n n' rs r h hs ih =>
  intro j hj
  have hl:=h.len
  by_cases e:j=k
  ·subst e
   refine⟨n,n',r,?_,hs,?_,?_⟩
   ·rw [List.take_append_of_le_length (by omega),List.take_of_length_le (by omega)];exact h
   ·rw [List.take_of_length_le (by simp;omega)];exact .step h hs
   ·rw [List.getElem?_append_right (by omega),hl];simp
  ·obtain⟨nj,nj',rj,g1,g2,g3,g4⟩:=ih j (by omega)
   refine⟨nj,nj',rj,?_,g2,?_,?_⟩
   ·rw [List.take_append_of_le_length (by omega)];exact g1
   ·rw [List.take_append_of_le_length (by omega)];exact g3
   ·rw [List.getElem?_append_left (by omega)];exact g4
theorem ended_on{n:W.Nav}{f:W.Fused}{over acc cmd:Bool}(h:(ended n f over acc cmd).place.on=true):(ended n f over acc cmd).place=n.place∧(ended n f over acc cmd).watch.failed=false:=by
 unfold ended rolled watched at h ⊢
 dsimp only at h ⊢
 split at h
 ·cases h
 ·next hf=>rw [if_neg hf];exact⟨rfl,by simpa using hf⟩
theorem tell_acc{n:W.Nav}{r r':W.Report}{f:W.Fused}(h:TellR n r f r'):r'.accepted=r.accepted:=by
 obtain⟨pm,ov,rfl⟩:=h
 show (n.tell r f).accepted=_
 unfold W.Nav.tell
 dsimp only
 split<;>rfl
end Y
section
namespace W
def firstI(p:Nat→Bool)(n:Nat):Int:=match (List.range n).find? p with|some i=>i|none=>-1
theorem firstI_hit{p:Nat→Bool}{n k:Nat}(h:∀ j,j<k→p j=false)(hk:k<n)(hp:p k=true):firstI p n=k:=by
 have e:(List.range n).find? p=some k:=by
  rw [List.find?_range_eq_some]
  exact⟨hp,List.mem_range.2 hk,fun j hj=>by simp [h j hj]⟩
 unfold firstI;rw [e]
theorem firstI_none{p:Nat→Bool}{n:Nat}(h:∀ j,j<n→p j=false):firstI p n=-1:=by
 have e:(List.range n).find? p=none:=by
  rw [List.find?_range_eq_none]
  exact fun j hj=>by simp [h j hj]
 unfold firstI;rw [e]
def allB(p:Nat→Bool)(n:Nat):Bool:=(List.range n).all p
theorem allB_yes{p:Nat→Bool}{n:Nat}(h:∀ j,j<n→p j=true):allB p n=true:=by
 unfold allB;rw [List.all_eq_true];exact fun j hj=>h j (List.mem_range.1 hj)
theorem allB_no{p:Nat→Bool}{n k:Nat}(hk:k<n)(hp:p k=false):allB p n=false:=by
 unfold allB;rw [List.all_eq_false];exact⟨k,List.mem_range.2 hk,by simp [hp]⟩
theorem allB_at{p:Nat→Bool}{n:Nat}(h:allB p n=true)(k:Nat)(hk:k<n):p k=true:=by
 unfold allB at h;exact List.all_eq_true.1 h k (List.mem_range.2 hk)
theorem all_step{p:Nat→Bool}{k:Nat}{b:Bool}(h:∀ j,j<k→p j=b)(hk:p k=b):∀ j,j<k+1→p j=b:=fun j hj=>by
 rcases Nat.lt_or_ge j k with h1|h1
 ·exact h j h1
 ·obtain rfl:j=k:=by omega
  exact hk
def far(x m:Int):Bool:=decide (x < -m∨m<x)
def down(a b:Int):Int:=a/b
def upR(a b:Int):Int:=-((-a)/b)
def Conf.errorR(c:Conf)(r:Int):Int:=c.radBase+(if r<0 then -r else r)*c.radPart/1048576
def Conf.growth(c:Conf):Int×Int:=(4*up (1048576*(c.circHi-c.circLo)) c.circLo+6*c.radPart,12*up c.circHi c.pulses+6*c.radBase+9)
def deltaR(a b:Int):Int:=let d:=(b-a+65536)%65536;if 32768≤d then d-65536 else d
def radarR(c:Conf)(r:Int):Int×Int:=(r-c.errorR r,r+c.errorR r)
def tachoR(d lo hi pulses:Int):Int×Int:=(if d<1 then down ((d-1)*hi) pulses else down ((d-1)*lo) pulses,if d < -1 then upR ((d+1)*lo) pulses else upR ((d+1)*hi) pulses)
def pieceAt(l:List Piece)(i:Nat):Piece:=l.getD i default
def mayAt(l:List Piece)(length:Int)(i:Nat):Bool:=decide (-1048576≤(pieceAt l i).grade∧(pieceAt l i).grade≤1048576∧(pieceAt l i).from_<length∧(i=0∨(pieceAt l (i-1)).from_<(pieceAt l i).from_))
def may(l:List Piece)(length:Int):Bool:=decide (1≤l.length∧l.length≤64∧(pieceAt l 0).from_=0)&&allB (mayAt l length) l.length
def gradeAt(l:List Piece)(at_:Int):Nat→Int
 |0=>(pieceAt l 0).grade
 |k+1=>if (pieceAt l k).from_≤at_ then (pieceAt l k).grade else gradeAt l at_ k
def nextAt(s:Seg)(many:Int)(i:Nat):Bool:=decide (0≤s.next.getD i 0∧s.next.getD i 0<many)
def segMay(s:Seg)(many:Int):Bool:=decide (1≤s.length∧s.length≤1099511627776)&&may s.pieces s.length&&decide (s.next.length≤2)&&allB (nextAt s many) s.next.length&&decide (s.next.length<2∨s.next.getD 0 0<s.next.getD 1 0)
def Trk.sg(t:Trk)(i:Nat):Seg:=t.segs.getD i default
def Trk.gp(t:Trk)(i:Nat):Grp:=t.grps.getD i default
def lastId(t:Trk):Nat→Int
 |0=>0
 |k+1=>(t.gp k).id
def grpMay(t:Trk)(i:Nat):Bool :=
 decide (lastId t i<(t.gp i).id∧(t.gp i).id≤65535∧0≤(t.gp i).seg∧(t.gp i).seg<t.segs.length∧0≤(t.gp i).offset∧(t.gp i).offset≤t.len (t.gp i).seg∧0≤(t.gp i).acc∧(t.gp i).acc≤1048576∧0≤(t.gp i).slack∧(t.gp i).slack≤16777216)
def Trk.checkR(t:Trk):Int×Int :=
 if t.segs.length<1∨200<t.segs.length∨400<t.grps.length then (13,0) else
 if 0≤firstI (fun i=>!segMay (t.sg i) t.segs.length) t.segs.length then (11,firstI (fun i=>!segMay (t.sg i) t.segs.length) t.segs.length) else
 if 0≤firstI (fun i=>!grpMay t i) t.grps.length then (16,firstI (fun i=>!grpMay t i) t.grps.length) else (0,0)
def follows(t:Trk)(a b:Int):Bool:=decide (0≤a)&&decide (a<t.segs.length)&&(List.range (t.seg a).next.length).any fun i=>decide ((t.seg a).next.getD i 0=b)
def Conf.wrongR(c:Conf):Int :=
 if c.pulses<1∨1024<c.pulses then 1 else
 if c.circLo<131072∨8388608<c.circLo∨c.circHi<c.circLo∨8388608<c.circHi then 2 else
 if c.circLo<(c.circHi-c.circLo)*16 then 3 else
 if c.radBase<0∨1048576<c.radBase∨c.radPart<0∨65536<c.radPart then 4 else
 if c.accErr<0∨1048576<c.accErr then 5 else
 if c.maxSpeed<1∨16777216<c.maxSpeed∨c.maxAccel<1∨1048576<c.maxAccel then 6 else
 if 32000*c.circLo<c.maxSpeed*c.pulses then 7 else
 if c.antenna<0∨1048576<c.antenna then 8 else
 if c.still<1∨1000<c.still∨c.timeout<1∨1000<c.timeout then 9 else
 if c.stillSpeed<up c.circHi c.pulses∨c.stillSpeed<3*c.radBase∨16777216<c.stillSpeed then 10 else
 if c.roll<0∨1073741824<c.roll then 11 else
 if c.brake<1∨1048576<c.brake then 12 else 0
def fitAtR(c:Conf)(t:Trk)(i:Nat):Bool:=decide (c.reach (t.gp i)≤(t.gp i).offset∧c.reach (t.gp i)≤t.len (t.gp i).seg-(t.gp i).offset)
def fitsR(c:Conf)(t:Trk):Int×Int :=
 if c.wrongR≠0 then (50,0) else
 if t.checkR.1≠0 then (51,0) else
 if 0≤firstI (fun i=>!fitAtR c t i) t.grps.length then (11,firstI (fun i=>!fitAtR c t i) t.grps.length) else (0,0)
structure Tick where
 v:Int
 slip0:Int
 slip1:Int
 rad:Int
 acc:Int
 lost0:Int
 lost1:Int
 lost2:Int
 lost3:Int
 junk:List (List Nat)
 command:Int
deriving Inhabited
structure Read where
 cycle:Int
 index:Int
 group:Int
 point:Int
deriving Inhabited,DecidableEq
structure Script where
 route:List Int
 start:Int
 v0:Int
 circ0:Int
 circ1:Int
 phase0:Int
 phase1:Int
 ticks:List Tick
 reads:List Read
def Script.tick(s:Script)(k:Nat):Tick:=s.ticks.getD k default
def Script.read(s:Script)(k:Nat):Read:=s.reads.getD k default
def Script.place(s:Script):Nat→Int
 |0=>s.start
 |k+1=>s.place k+(s.tick k).v
def startOf(t:Trk)(route:List Int):Nat→Int
 |0=>0
 |k+1=>startOf t route k+t.len (route.getD k 0)
def findId(t:Trk)(id:Int):Int:=firstI (fun i=>decide ((t.gp i).id=id)) t.grps.length
def gradeHere(t:Trk)(route:List Int)(at_:Int)(i:Nat):Bool:=decide (at_<startOf t route (i+1)∨i+1=route.length)
def gradeOn(t:Trk)(route:List Int)(at_:Int):Int :=
 let i:=firstI (gradeHere t route at_) route.length
 if 0≤i then gradeAt (t.seg (route.getD i.toNat 0)).pieces (at_-startOf t route i.toNat) (t.seg (route.getD i.toNat 0)).pieces.length else 0
def nominal(t:Trk)(s:Script)(r:Read):Int×Bool :=
 if findId t r.group<0∨r.index<0∨(s.route.length:Int)≤r.index∨s.route.getD r.index.toNat 0≠(t.grp (findId t r.group)).seg then (0,false) else
 (startOf t s.route r.index.toNat+(t.grp (findId t r.group)).offset,true)
def Script.circ(s:Script)(i:Nat):Int:=if i=0 then s.circ0 else s.circ1
def Script.phase(s:Script)(i:Nat):Int:=if i=0 then s.phase0 else s.phase1
def Tick.slip(y:Tick)(i:Nat):Int:=if i=0 then y.slip0 else y.slip1
def Tick.lost(y:Tick)(i:Nat):Int:=if i=0 then y.lost0 else if i=1 then y.lost1 else if i=2 then y.lost2 else y.lost3
def Script.turned(s:Script)(pulses:Int)(i:Nat):Nat→Int
 |0=>s.phase i
 |k+1=>s.turned pulses i k+pulses*(s.tick k).v+(s.tick k).slip i
def Script.count(s:Script)(pulses:Int)(i k:Nat):Int:=down (s.turned pulses i k) (s.circ i)
def routeAt(t:Trk)(l:List Int)(i:Nat):Bool:=decide (0≤l.getD i 0∧l.getD i 0<t.segs.length)&&(decide (i=0)||follows t (l.getD (i-1) 0) (l.getD i 0))
def routeMay(t:Trk)(l:List Int):Bool:=decide (1≤l.length∧l.length≤400)&&allB (routeAt t l) l.length
def onAt(s:Script)(end_:Int)(i:Nat):Bool:=!far (s.tick i).v end_&&decide (0≤s.place (i+1)∧s.place (i+1)≤end_)
def onMay(t:Trk)(s:Script):Bool :=
 let e:=startOf t s.route s.route.length
 decide (s.ticks.length≤4096∧0≤s.start∧s.start≤e)&&allB (onAt s e) s.ticks.length
def Script.ahead(s:Script):Nat→Int
 |0=>s.v0
 |k+1=>(s.tick k).v
def speedAt(c:Conf)(s:Script)(i:Nat):Bool:=!far (s.tick i).v c.maxSpeed && !far ((s.tick i).v-s.ahead i) c.maxAccel
def speedsMay(c:Conf)(s:Script):Bool:=!far s.v0 c.maxSpeed&&allB (speedAt c s) s.ticks.length
def circMay(c:Conf)(x p:Int):Bool:=decide (c.circLo≤x∧x≤c.circHi∧0≤p∧p<x)
def tickMay(c:Conf)(y:Tick):Bool:=!far y.slip0 1099511627776 && !far y.slip1 1099511627776 && !far y.rad 1073741824 && !far y.acc c.accErr
def numbersMay(c:Conf)(s:Script):Int :=
 if !circMay c s.circ0 s.phase0 || !circMay c s.circ1 s.phase1 then 5 else
 if allB (fun i=>tickMay c (s.tick i)) s.ticks.length then 0 else 6
def fitS(s:Script)(i k:Nat):Bool:=!decide ((s.tick k).lost i=1)&&(decide (i=2)||(decide (0<k)&&decide ((s.tick (k-1)).lost i=0)))
def saysS(c:Conf)(s:Script)(i k:Nat):Int×Int :=
 if i=2 then radarR c ((s.tick k).v+(s.tick k).rad) else
 tachoR (deltaR (s.count c.pulses i k%65536) (s.count c.pulses i (k+1)%65536)) c.circLo c.circHi c.pulses
def wrongS(c:Conf)(s:Script)(i k:Nat):Bool:=if i=2 then far (s.tick k).rad (c.errorR ((s.tick k).v+(s.tick k).rad)) else decide ((s.tick k).slip i≠0)
def commonS(a b c:Int×Int):Bool:=decide (max a.1 (max b.1 c.1)≤min a.2 (min b.2 c.2))
def b2n(b:Bool):Nat:=if b then 1 else 0
def sensorsMay(c:Conf)(s:Script)(k:Nat):Bool :=
 let fit:=b2n (fitS s 0 k)+b2n (fitS s 1 k)+b2n (fitS s 2 k)
 let wrong:=b2n (fitS s 0 k&&wrongS c s 0 k)+b2n (fitS s 1 k&&wrongS c s 1 k)+b2n (fitS s 2 k&&wrongS c s 2 k)
 if wrong=0 then true else if 1<wrong∨fit<3 then false else !commonS (saysS c s 0 k) (saysS c s 1 k) (saysS c s 2 k)
def readMay(c:Conf)(t:Trk)(s:Script)(r:Read):Bool :=
 if (nominal t s r).2 then
  let a:=s.place r.cycle.toNat
  let b:=s.place (r.cycle+1).toNat
  let g:=t.grp (findId t r.group)
  decide (min a b≤r.point)&&decide (r.point≤max a b) && !far (r.point-(nominal t s r).1) (g.acc+c.antenna)
 else false
def readAt(c:Conf)(t:Trk)(s:Script)(i:Nat):Bool :=
 decide (0≤(s.read i).cycle∧(s.read i).cycle<s.ticks.length∧(i=0∨(s.read (i-1)).cycle<(s.read i).cycle))&&readMay c t s (s.read i)
def readsMay(c:Conf)(t:Trk)(s:Script):Bool:=allB (readAt c t s) s.reads.length
def junkText(k:Nat)(b:List Nat):Bool:=!(decide ((Fr.get b).err=0)&&decide ((Fr.get b).seq=(k%256:Nat)))
def junkAt(s:Script)(k:Nat):Bool:=decide ((s.tick k).junk.length≤27)&&allB (fun i=>junkText k ((s.tick k).junk.getD i [])) (s.tick k).junk.length
def junkMay(s:Script):Bool:=allB (junkAt s) s.ticks.length
def admits(c:Conf)(t:Trk)(s:Script):Int :=
 if (fitsR c t).1≠0 then 1 else
 if !routeMay t s.route then 2 else
 if !onMay t s then 3 else
 if !speedsMay c s then 4 else
 if numbersMay c s≠0 then numbersMay c s else
 if !allB (sensorsMay c s) s.ticks.length then 7 else
 if !readsMay c t s then 8 else
 if !junkMay s then 9 else 0
end W
end
namespace Y
open Go Go.RowKit Go.Sort
def okB(kind seq v:Int):Bool:=decide (0≤seq∧seq≤255)&&(if Fr.sz kind=4 then decide (-2147483648≤v∧v≤2147483647) else decide (0≤v∧v≤65535))
theorem okB_ok{kind seq v:Int}(h:okB kind seq v=true):Fr.ok kind seq v:=by
 unfold okB at h
 simp only [Bool.and_eq_true,decide_eq_true_eq] at h
 refine⟨h.1,fun e=>?_,fun e=>?_⟩
 ·rw [e,if_neg (by decide)] at h
  simpa using h.2
 ·rw [e,if_pos rfl] at h
  simpa using h.2
def sendB(kind seq v:Int):List (List Nat):=if Fr.sz kind≠0∧okB kind seq v=true then [Fr.bytes kind seq v] else []
def sendR(s:W.Script)(k i:Nat):List (List Nat):=if (s.read i).cycle=(k:Int) then sendB 5 ((k%256:Nat):Int) (s.read i).group else []
def sentL(t:W.Trk)(pulses:Int)(s:W.Script)(k:Nat):List (List Nat) :=
 (s.tick k).junk++((if (s.tick k).lost 0=0 then sendB 1 ((k%256:Nat):Int) (s.count pulses 0 (k+1)%65536) else [])++((if (s.tick k).lost 1=0 then sendB 2 ((k%256:Nat):Int) (s.count pulses 1 (k+1)%65536) else []) ++
  ((if (s.tick k).lost 2=0 then sendB 3 ((k%256:Nat):Int) ((s.tick k).v+(s.tick k).rad) else [])++((if (s.tick k).lost 3=0 then sendB 4 ((k%256:Nat):Int) ((s.tick k).v-s.ahead k+W.gradeOn t s.route (s.place k)+(s.tick k).acc) else []) ++
   (List.range s.reads.length).flatMap (sendR s k)))))
def Hd(b:Nat)(vs:List Value)(w:World):Prop:=Rx w b 0 vs
def stepH(T:Tab)(tm:Tm)(o:Oper)(i0:Nat)(cs:List AV)(K:AV→Prop):Prop :=
 match o.op with
 |.move x=>ev tm x K
 |.assign x=>ev tm x K
 |.load t x=>match look T.tk t with
  |some k=>ev tm x fun
   |.own i off=>bif Nat.beq i i0 then dropK off cs fun cs=>ldK k cs fun v=>flat v=true∧K v else False
   |_=>False
  |none=>False
 |.nilCheck x=>ev tm x fun
  |.own i off=>K (.own i off)
  |_=>False
 |.fieldAddr s x f=>match (look T.fo s).bind (nth · f) with
  |some d=>ev tm x fun
   |.own i off=>lit (off+d.1) fun off=>K (.own i off)
   |_=>False
  |none=>False
 |.build t ⟨parts⟩=>match look T.zr t with
  |some z=>bif bldB T t then partsK tm (placeOf T t) parts (zAv z) fun z=>K (.agg z) else False
  |none=>False
 |_=>False
def WE(T:Tab)(N:Nat)(i0:Nat)(cs:List AV):List Oper→(Tm→Prop)→Tm→Prop
 |[],K,tm=>K tm
 |o::l,K,tm=>stepH T tm o i0 cs fun v=>put N tm o.dst v fun tm=>WE T N i0 cs l K tm
def WI(T:Tab)(P:Program)(N:Nat)(E:En)(all:List Oper)(p i0:Nat)(cs:List AV):OT→(Tm→Ow→Prop)→Tm→Ow→Prop
 |.done,K,tm,own=>K tm own
 |.go i t,K,tm,own=>match nth all i with
  |some o=>step T P N E o (fun tm own=>nth own i0=some (.blk cs)∧look tm p=some (.own i0 0)∧WI T P N E all p i0 cs t K tm own) tm own
  |none=>False
 |.alt a b,K,tm,own=>Both (WI T P N E all p i0 cs a K tm own) (WI T P N E all p i0 cs b K tm own)
def takeB(l:List Oper):List Nat→Array Bool→Bool
 |[],_=>true
 |k::ks,listed=>Region.free .any l.toArray listed k&&(Region.ready .any l.toArray listed).contains k&&takeB l ks (listed.setIfInBounds k true)
def listsB:List Nat→Array Bool→Array Bool
 |[],listed=>listed
 |k::ks,listed=>listsB ks (listed.setIfInBounds k true)
def heldB(l:List Oper)(p:Nat)(ke:List Nat)(t:OT)(m:Nat):Bool :=
 Region.noSelect l.toArray&&l.all (fun o=>(match o.dst with|some d=>!Nat.beq d p|none=>true)&&o.guard.isNone)&&ke.all (fun k=>decide (k<l.length))&&takeB l ke (Array.replicate l.length false) &&
 t.node l.toArray (listsB ke (Array.replicate l.length false))&&t.sub l.toArray (listsB ke (Array.replicate l.length false))&&t.len m
theorem stepH_sound{P:Program}{T:Tab}(hT:TabOk P T){o:Oper}{i0 b:Nat}{cs:List AV}{K:AV→Prop}{tm:Tm}(hf:flatL cs=true)(h:stepH T tm o i0 cs K) :
  ∃ v,K v∧∀ S n ids a,Sl S n ids tm a→nth ids i0=some (Loc.at_ b)→∃ V,R S n ids v V∧∀ w,Hd b (valL cs) w→(execOp a.eval o).run P w=.ok (.value V) w:=by
 unfold stepH at h
 split at h
 ·rename_i x ho
  obtain⟨v,h1,h2⟩:=ev_sound h
  exact⟨v,h1,fun S n ids a hs hi=>⟨_,h2 S n ids a hs,fun w hp=>by unfold execOp;simp only [ho];rfl⟩⟩
 ·rename_i x ho
  obtain⟨v,h1,h2⟩:=ev_sound h
  exact⟨v,h1,fun S n ids a hs hi=>⟨_,h2 S n ids a hs,fun w hp=>by unfold execOp;simp only [ho];rfl⟩⟩
 ·rename_i t x ho
  split at h
  ·rename_i k hk
   obtain⟨v,h1,h2⟩:=ev_sound h
   split at h1
   ·rename_i i off
    cases hq:Nat.beq i i0 with
    |false=>rw [hq] at h1;exact absurd h1 (by simp)
    |true =>
     rw [hq] at h1
     obtain rfl:=Nat.eq_of_beq_eq_true hq
     simp only [cond_true] at h1
     rw [dropK_iff] at h1
     obtain⟨hle,h1⟩:=h1
     obtain⟨v,⟨h6,h6'⟩,h7⟩:=ldK_sound (P:=P) hT hk h1
     refine⟨v,h6',fun S n ids a hs hi=>⟨val v,R_flat h6,fun w hw=>?_⟩⟩
     obtain⟨b',g1,g2⟩:=(h2 S n ids a hs).own
     obtain rfl:=Loc.at_inj (Option.some.inj (g1.symm.trans hi))
     have hcs:all2 (R1 S w ids) cs (valL cs):=(PL_iff.1 ((flatL_iff (S:=S) (w:=w) hf).2 rfl)).imp fun _ _ h=>P1_R1 h
     have hw':Rx w b' off ((valL cs).drop off):=by
      have:=Rx.sub (show Rx w b' 0 (valL cs) from hw) off
      simpa using this
     obtain⟨V,g6,g7⟩:=h7 S w ids b' off _ (hcs.drop off) hw'
     have hV:V=val v:=by
      have:=(R_pu (a:=v) (v:=V) (S:=S) (w:=w) (ids:=ids) (flat_pu h6)).1 g6
      exact(flat_iff h6).1 this
     subst hV
     unfold execOp
     simp only [ho,g2,Sem.run_bind,g7 w (Below.refl _ _)]
     rfl
   ·cases h1
  ·cases h
 ·rename_i x ho
  obtain⟨v,h1,h2⟩:=ev_sound h
  split at h1
  ·rename_i i off
   refine⟨_,h1,fun S n ids a hs hi=>?_⟩
   obtain⟨b',g1,g2⟩:=(h2 S n ids a hs).own
   exact⟨_,⟨b',g1,rfl⟩,fun w hp=>by unfold execOp;simp only [ho,g2];rfl⟩
  ·cases h1
 ·rename_i s x f ho
  split at h
  ·rename_i d hd
   obtain⟨v,h1,h2⟩:=ev_sound h
   split at h1
   ·rename_i i off
    rw [lit_iff] at h1
    refine⟨_,h1,fun S n ids a hs hi=>?_⟩
    obtain⟨b',g1,g2⟩:=(h2 S n ids a hs).own
    exact⟨_,⟨b',g1,rfl⟩,fun w hp=>by unfold execOp;simp only [ho,g2,Sem.run_bind,run_fieldAt hT hd];rfl⟩
   ·cases h1
  ·cases h
 ·rename_i t parts ho
  split at h
  ·rename_i z hz
   cases hb:bldB T t with
   |false=>rw [hb] at h;exact absurd h (by simp)
   |true =>
    rw [hb] at h
    obtain⟨z',h1,h2⟩:=partsK_sound (by simpa using h)
    refine⟨_,h1,fun S n ids a hs hi=>?_⟩
    obtain⟨zv',g1,g2⟩:=h2 S n ids a hs z ((PL_iff.1 (PL_av1 S n z)).imp fun _ _ h=>P1_R1 h)
    refine⟨.agg ⟨zv'⟩,⟨zv',rfl,g1⟩,fun w hp=>?_⟩
    have hbt:P.built t (parts.map fun p=>(p.1,a.eval p.2))=some ⟨zv'⟩:=placeOf_sound hT hz (fun place hp=>g2 place hp) hb
    unfold execOp
    simp only [ho]
    show Sem.run P (Functor.map Next.value (Instr.build t ((⟨parts⟩:Array (Nat×Operand)).map fun x=>(x.1,a.eval x.2)))) w=_
    have hr:=run_build (P:=P) w t (parts.map fun x=>(x.1,a.eval x.2)).toArray ⟨zv'⟩ (by simpa using hbt)
    simp [hr]
  ·cases h
 ·exact h.elim
theorem wp_slot{P:Program}{o:Oper}{a:Act}{w:World}{K:Act→World→Prop}{Q:Exit→Act→World→Prop}{p:Nat}(hd:o.dst≠some p)(h:o.wp P a w K Q):o.wp P a w (fun a' w'=>K a' w'∧a'.tmps[p]?=a.tmps[p]?) Q:=by
 have hput:∀ (a:Act) v,(a.put o.dst v).tmps[p]?=a.tmps[p]?:=fun a v=>by
  cases e:o.dst with
  |none=>rfl
  |some d =>
   have:d≠p:=fun e'=>hd (by rw [e,e'])
   simp only [Act.put]
   rw [Array.getElem?_setIfInBounds_ne this]
 unfold Oper.wp at *
 generalize (execOp a.eval o).run P w=r at *
 cases r with
 |ok n w' =>
  cases n<;>simp only [Oper.upon] at h ⊢
  case value u=>exact⟨h,hput _ _⟩
  case skip=>exact⟨h,hput _ _⟩
  case defer d=>exact⟨h,hput _ _⟩
  case enter f args =>
   refine Calls.mono h fun e w'' he=>?_
   cases e with
   |returned u=>exact⟨he,hput _ _⟩
   |panicked c=>exact he
   |outgrown=>exact he
  case row row args=>exact Rows.mono h fun u w'' he=>⟨he,hput _ _⟩
 |halt x w'=>cases x<;>exact h
theorem WI_head{T:Tab}{P:Program}{N:Nat}{E:En}{all:List Oper}{p i0:Nat}{cs:List AV}{K:Tm→Ow→Prop}{tm:Tm}{own:Ow}{listed:Array Bool}{n:Nat}:∀ {t:OT} {i:Nat},i∈t.heads→WI T P N E all p i0 cs t K tm own→t.sub all.toArray listed=true→t.len n=true→∃ t',WI T P N E all p i0 cs (.go i t') K tm own∧(OT.go i t').sub all.toArray listed=true∧(OT.go i t').len n=true
 |.done,i,h,_,_,_=>by simp [OT.heads] at h
 |.go j t,i,h,h1,h2,h3=>by
  simp only [OT.heads,List.mem_singleton] at h
  subst h
  exact⟨t,h1,h2,h3⟩
 |.alt a b,i,h,h1,h2,h3=>by
  simp only [OT.heads,List.mem_append] at h
  simp only [OT.sub,Bool.and_eq_true] at h2
  simp only [OT.len,Bool.and_eq_true] at h3
  rcases h with h|h
  ·exact WI_head h h1.1 h2.1 h3.1
  ·exact WI_head h h1.2 h2.2 h3.2
theorem WI_zero{T:Tab}{P:Program}{N:Nat}{E:En}{all:List Oper}{p i0:Nat}{cs:List AV}{K:Tm→Ow→Prop}{tm:Tm}{own:Ow}{listed:Array Bool}:∀ {t:OT},WI T P N E all p i0 cs t K tm own→t.sub all.toArray listed=true→t.len 0=true→K tm own∧(Region.ready .any all.toArray listed).isEmpty=true
 |.done,h1,h2,_=>⟨h1,h2⟩
 |.go j t,_,_,h3=>by simp [OT.len] at h3
 |.alt a b,h1,h2,h3=>by
  simp only [OT.sub,Bool.and_eq_true] at h2
  simp only [OT.len,Bool.and_eq_true] at h3
  exact WI_zero h1.1 h2.1 h3.1
theorem Sim.held{N:Nat}{E:En}{tm:Tm}{own:Ow}{S:Nat→Prop}{ids:List Loc}{a:Act}{w:World}{p i0 b:Nat}{cs:List AV}(hs:Sim N E tm own S ids a w)(hf:flatL cs=true)(ho:nth own i0=some (.blk cs))(hp:look tm p=some (.own i0 0))(hb:a.tmps[p]?=some (.pointer (some ⟨b,0,none⟩))):nth ids i0=some (Loc.at_ b)∧Hd b (valL cs) w:=by
 obtain⟨V0,e0,hV0⟩:=hs.sl p _ hp
 obtain⟨b',g1,rfl⟩:=hV0.own
 rw [hb] at e0
 obtain rfl:b=b':=by simpa using e0
 obtain⟨b2,vs,g3,g4,g5⟩:=hs.blk ho
 obtain rfl:=Loc.at_inj (Option.some.inj (g1.symm.trans g3))
 have hpu:puL cs=true:=flatL_pu hf
 have:vs=valL cs:=(flatL_iff hf).1 ((RL_pu hpu).1 (R1L_R g4))
 subst this
 have h:=Rx_of (o:=0) g5
 exact⟨g1,by simpa [Hd] using h⟩
theorem wpAnyH_tree{T:Tab}{P:Program}(hT:TabOk P T){N:Nat}{E:En}{all:List Oper}{K:Tm→Ow→Prop}{Q:Exit→Act→World→Prop}{p i0 b:Nat}{cs:List AV}(hf:flatL cs=true)(hall:∀ o∈all,o.dst≠some p∧o.guard=none)(hQ:∀ a n,After N E K a n→Q .normal a n) :
  ∀ (n:Nat) (t:OT) (listed:Array Bool) (tm:Tm) (own:Ow) (S:Nat→Prop) (ids:List Loc) (a:Act) (w:World),t.node all.toArray listed=true→t.sub all.toArray listed=true→t.len n=true→WI T P N E all p i0 cs t K tm own→Sim N E tm own S ids a w→a.tmps[p]?=some (.pointer (some ⟨b,0,none⟩))→wpAnyH P .any all.toArray Q (Hd b (valL cs)) n listed a w
 |0,t,listed,tm,own,S,ids,a,w,h1,h2,h3,h4,hs,hb=>by
  obtain⟨g1,g2⟩:=WI_zero h4 h2 h3
  exact⟨by simpa using g2,hQ _ _ ⟨tm,own,S,ids,g1,hs⟩⟩
 |n+1,t,listed,tm,own,S,ids,a,w,h1,h2,h3,h4,hs,hb=>by
  simp only [OT.node,OT.len_done h3,Bool.false_or,Bool.and_eq_true] at h1
  obtain⟨q1,q2⟩:=h1
  refine⟨fun h0=>by rw [h0] at q2;simp at q2,fun i hi=>?_⟩
  have hih:i∈t.heads:=by
   have:=List.all_eq_true.1 q1 i hi
   simpa using this
  obtain⟨t',g1,g2,g3⟩:=WI_head hih h4 h2 h3
  simp only [OT.sub,Bool.and_eq_true] at g2
  simp only [OT.len] at g3
  simp only [WI] at g1
  cases ho:nth all i with
  |none=>rw [ho] at g1;exact g1.elim
  |some o =>
   rw [ho] at g1
   have ho':all.toArray[i]?=some o:=by rw [nth_eq] at ho;simpa using ho
   have hom:o∈all:=by rw [nth_eq] at ho;exact List.mem_of_getElem? ho
   obtain⟨k1,k2⟩:=hall o hom
   unfold wpOp
   simp only [ho']
   rw [if_pos (by simp [Region.wanted,k2])]
   refine .inl (Oper.wp_mono (fun a' w' ⟨⟨tm',own',S',ids',⟨e1,e2,e3⟩,hs'⟩,e4⟩=>?_) (wp_slot k1 (step_sound hT g1 hs Q)))
   have hb':a'.tmps[p]?=some (.pointer (some ⟨b,0,none⟩)):=e4.trans hb
   exact⟨(Sim.held hs' hf e1 e2 hb').2,wpAnyH_tree hT hf hall hQ n t' _ tm' own' S' ids' a' w' g2.1 g2.2 g3 e3 hs' hb'⟩
theorem put_sound2{N:Nat}{tm:Tm}{dst:Option Nat}{v:AV}{K:Tm→Prop}(h:put N tm dst v K):∃ tm',K tm'∧(∀ q,dst≠some q→look tm' q=look tm q)∧∀ E own S ids a n V,Sim N E tm own S ids a n→R S n ids v V→Sim N E tm' own S ids (a.put dst V) n:=by
 cases dst with
 |none=>exact⟨tm,h,fun _ _=>rfl,fun E own S ids a n V hs _=>hs⟩
 |some d =>
  unfold put at h
  dsimp only at h
  cases e:Nat.ble (d+1) N with
  |false=>rw [e] at h;exact absurd h (by simp)
  |true =>
   rw [e] at h
   simp only [cond_true,fc_iff] at h
   have h2:put N tm (some d) v (fun t=>t=(d,v)::tm):=by
    unfold put
    dsimp only
    rw [e]
    simp only [cond_true,fc_iff]
   obtain⟨tm',e',h3⟩:=put_sound h2
   subst e'
   refine⟨_,h,fun q hq=>?_,h3⟩
   have hne:Nat.beq d q=false:=by
    cases hb:Nat.beq d q with
    |false=>rfl
    |true=>exact absurd (by rw [Nat.eq_of_beq_eq_true hb]) hq
   show look ((d,v)::tm) q=look tm q
   conv=>lhs;unfold look
   rw [hne];rfl
theorem wpAnyH_takes{T:Tab}{P:Program}(hT:TabOk P T){N:Nat}{E:En}{all:List Oper}{Kt:Tm→Prop}{Q:Exit→Act→World→Prop}{p i0 b:Nat}{cs:List AV}(hf:flatL cs=true)(hall:∀ o∈all,o.dst≠some p∧o.guard=none)(hsel:Region.noSelect all.toArray=true)(hpan:∀ c a d v w,Q (.panic c) (a.put (some d) v) w→Q (.panic c) a w){own:Ow}(ho:nth own i0=some (.blk cs))(m:Nat) :
  ∀ (ke:List Nat) (listed:Array Bool) (tm:Tm) (S:Nat→Prop) (ids:List Loc) (a:Act) (w:World),(∀ k∈ke,k<all.length)→takeB all ke listed=true→WE T N i0 cs (opsK all ke) Kt tm→look tm p=some (.own i0 0)→Sim N E tm own S ids a w→a.tmps[p]?=some (.pointer (some ⟨b,0,none⟩)) →
   (∀ tm S ids a,Kt tm→look tm p=some (.own i0 0)→Sim N E tm own S ids a w→a.tmps[p]?=some (.pointer (some ⟨b,0,none⟩))→wpAnyH P .any all.toArray Q (Hd b (valL cs)) m (listsB ke listed) a w)→wpAnyH P .any all.toArray Q (Hd b (valL cs)) (ke.length+m) listed a w
 |[],listed,tm,S,ids,a,w,_,_,h2,h3,h4,h5,h6=>by
  rw [List.length_nil,Nat.zero_add]
  exact h6 tm S ids a h2 h3 h4 h5
 |k::ke,listed,tm,S,ids,a,w,hk,h1,h2,h3,h4,h5,h6=>by
  have hkl:=hk k List.mem_cons_self
  have e:opsK all (k::ke)=all[k]::opsK all ke:=by
   unfold opsK
   rw [List.map_cons]
   congr 1
   simp [List.getD,hkl]
  rw [e] at h2
  simp only [WE] at h2
  generalize hoo:all[k]=o at h2
  have hom:o∈all:=by rw [← hoo];exact List.getElem_mem hkl
  have ho':all.toArray[k]?=some o:=by simp [hkl,hoo]
  obtain⟨k1,k2⟩:=hall o hom
  simp only [takeB,Bool.and_eq_true] at h1
  obtain⟨⟨b1,b2⟩,b3⟩:=h1
  obtain⟨v,g1,g2⟩:=stepH_sound (b:=b) hT hf h2
  obtain⟨q1,q2⟩:=Sim.held h4 hf ho h3 h5
  obtain⟨V,g3,g4⟩:=g2 S w ids a h4.sl q1
  obtain⟨tm',k3,k5,k4⟩:=put_sound2 g1
  have hs':=k4 E own S ids a w V h4 g3
  rw [List.length_cons,show ke.length+1+m=(ke.length+m)+1 by omega]
  have hpan':∀ c a w,Q (.panic c) (a.put o.dst V) w→Q (.panic c) a w:=fun c a w hq=>by
   cases ed:o.dst with
   |none=>rw [ed] at hq;exact hq
   |some d=>rw [ed] at hq;exact hpan c a d V w hq
  have hput:(a.put o.dst V).tmps[p]?=a.tmps[p]?:=by
   cases e:o.dst with
   |none=>rfl
   |some d =>
    have:d≠p:=fun e'=>k1 (by rw [e,e'])
    simp only [Act.put]
    rw [Array.getElem?_setIfInBounds_ne this]
  have hlk:look tm' p=some (.own i0 0):=(k5 p k1).trans h3
  refine wpAnyH_take (v:=V) ho' hsel b1 b2 hpan' (.inl ⟨by simp [Region.wanted,k2],g4⟩) q2 ?_
  exact wpAnyH_takes hT hf hall hsel hpan ho m ke _ tm' S ids _ w (fun x hx=>hk x (List.mem_cons_of_mem _ hx)) b3 k3 hlk hs' (hput.trans h5) h6
theorem Drw.held{T:Tab}{P:Program}(hT:TabOk P T){N:Nat}{E:En}{id:Nat}{l:List Oper}{K:Exit→Tm→Ow→Prop}{tm:Tm}{own:Ow}(p i0:Nat){cs:List AV}(ke:List Nat)(t:OT)(m:Nat)(hl:l.length=ke.length+m)(ho:nth own i0=some (.blk cs))(hf:flatL cs=true)(hp:look tm p=some (.own i0 0))(hB:heldB l p ke t m=true)
  (hk:opsC l ke fun le=>WE T N i0 cs le (fun tm=>WI T P N E l p i0 cs t (K .normal) tm own) tm):Drw T P N E (.region id ⟨l⟩ true) l K tm own:=by
 refine .sem ⟨fun S ids a w hs Q hQ hpan=>?_⟩
 simp only [heldB,Bool.and_eq_true] at hB
 obtain⟨⟨⟨⟨⟨⟨b1,b2⟩,b3⟩,b4⟩,b5⟩,b6⟩,b7⟩:=hB
 have hall:∀ o∈l,o.dst≠some p∧o.guard=none:=fun o hom=>by
  have:=List.all_eq_true.1 b2 o hom
  simp only [Bool.and_eq_true,Option.isNone_iff_eq_none] at this
  refine⟨fun e=>?_,this.2⟩
  have h1:=this.1
  rw [e] at h1
  dsimp only at h1
  have:Nat.beq p p=true:=Nat.beq_refl p
  rw [this] at h1
  cases h1
 have hke:∀ k∈ke,k<l.length:=fun k hk=>by simpa using List.all_eq_true.1 b3 k hk
 have hk1:=opsC_out hk
 obtain⟨V0,e0,hV0⟩:=hs.sl p _ hp
 obtain⟨b,g1,rfl⟩:=hV0.own
 have hp':Past w { w with drawn:=w.drawn+1 }:=Past.draw w
 refine wp_region_held (S:=Hd b (valL cs)) hT.mixed ?_
 have:=wpAnyH_takes (P:=P) (E:=E) (all:=l) (Q:=Q) (b:=b) hT hf hall b1 hpan ho m ke (Array.replicate l.length false) tm S ids a _ hke b4 hk1 hp (hs.past hp') e0 (fun tm' S' ids' a' h1 h2 h3 h4 =>
  wpAnyH_tree hT hf hall (fun a n h=>hQ .normal a n h) m t _ tm' own S' ids' a' _ b5 b6 b7 h1 h3 h4)
 rw [← hl] at this
 simpa using this
theorem Drw.join{T:Tab}{P:Program}(hT:TabOk P T){N:Nat}{E:En}{id:Nat}{l:List Oper}{K:Exit→Tm→Ow→Prop}{tm:Tm}{own:Ow}(tmJ:Tm)(ownJ:Ow)(h1:okT ownJ.length tmJ=true)(h2:okO ownJ.length ownJ=true)(h3:E.gs.length≤ownJ.length)(h:Drw T P N E (.region id ⟨l⟩ true) l (fun e tm own=>e=.normal∧Sub tmJ tm∧Pre ownJ own) tm own)(hK:K .normal tmJ ownJ):Drw T P N E (.region id ⟨l⟩ true) l K tm own:=by
 refine .sem ⟨fun S ids a n hs Q hQ hpan=>?_⟩
 exact WC_sound hT (.region id ⟨l⟩ true) (show WC T P N E _ _ tm own from h) (Q:=Q) ⟨fun e a n ⟨tm',own',S',ids',⟨he,h4,h5⟩,hs'⟩=>by
  subst he
  exact hQ _ _ _ ⟨tmJ,ownJ,S',_,hK,hs'.weak h4 h5 h1 h2 h3⟩,hpan⟩ hs
theorem wpAny_drawE2{P:Program}{N:Nat}{E:En}{all:List Oper}{ks:List Nat}{ia:Nat}{z:List Value}{tm tm':Tm}{own:Ow}{vs:List AV}{Q:Exit→Act→World→Prop}(hks:∀ k∈ks,k<all.length)(kc:List Nat)(hia:ia∈ks)(hTr:Tr (GoA P all own) N all (opsK all ks) tm vs tm')
  (hend:∀ J,J∈subl (ks.filter fun k=>!kc.contains k)→∀ S ids a n,Sim N E (dropT (dstK all J) tm') (if ia∈J then own else own++[.blk (zAv z)]) S ids a n→wpAny P .any all.toArray Q (J.length+(all.length-ks.length)) (listedK all.length (lateK ks J)) a n) {f:Nat}
  (listed:Array Bool) (a:Act) (n:World) (hinv:DInvA N E all ks ia (zAv z) tm own vs listed a n) (hf:(ks.filter fun j=>!listed.getD j false).length=f) (hdone:∀ j∈kc,listed.getD j false=true):wpAny P .any all.toArray Q (f+(all.length-ks.length)) listed a n:=by
 have hJ:(ks.filter fun j=>!listed.getD j false)∈subl (ks.filter fun k=>!kc.contains k):=by
  have e:(ks.filter fun j=>!listed.getD j false)=(ks.filter fun k=>!kc.contains k).filter fun j=>!listed.getD j false:=by
   rw [List.filter_filter]
   refine List.filter_congr fun j hj=>?_
   cases e1:listed.getD j false with
   |true=>simp
   |false =>
    have:¬ j∈kc:=fun h=>by rw [hdone j h] at e1;cases e1
    simp [this]
  rw [e]
  exact filter_subl _ _
 have hl:listed=listedK all.length (lateK ks (ks.filter fun j=>!listed.getD j false)):=by
  apply Array.ext
  ·rw [hinv.hi.size];simp [listedK]
  ·intro j h1 h2
   have e1:listed.getD j false=listed[j]:=by simp [Array.getD,h1]
   have e2:(listedK all.length (lateK ks (ks.filter fun j=>!listed.getD j false)))[j]=(lateK ks (ks.filter fun j=>!listed.getD j false)).contains j:=by simp [listedK]
   rw [e2,← e1,Bool.eq_iff_iff]
   simp only [lateK,List.contains_iff_mem,List.mem_filter,Bool.not_eq_eq_eq_not,Bool.not_true,List.contains_eq_mem,decide_eq_false_iff_not,not_and,decide_eq_true_eq]
   refine⟨fun h=>?_,fun ⟨h1,h2⟩=>?_⟩
   ·have hj:j∈ks:=by
     by_cases hj:j∈ks
     ·exact hj
     ·rw [hinv.out j hj] at h;cases h
    exact⟨hj,fun _=>by rw [h];simp⟩
   ·have:=h2 h1
    simpa using this
 have h:=hend _ hJ
 rw [← hl,hf] at h
 obtain⟨S,ids,h1,h2,h3⟩:=hinv.st
 have hcur:(if listed.getD ia false=true then own++[OB.blk (zAv z)] else own)=(if ia∈ks.filter (fun j=>!listed.getD j false) then own else own++[OB.blk (zAv z)]):=by
  by_cases hl:listed.getD ia false=true
  ·rw [if_pos hl,if_neg (by rw [List.mem_filter,hl];simp)]
  ·rw [if_neg hl,if_pos (List.mem_filter.2 ⟨hia,by simpa using hl⟩)]
 rw [hcur] at h1
 refine h S ids a n (h1.with fun t v hv=>?_)
 obtain⟨g1,g2⟩:=look_dropT hv
 rcases hTr.end_ t v g2 with ⟨p,oj,q1,q2,q3,q4,_⟩|⟨q1,q2⟩
 ·obtain⟨k,k1,k2⟩:=(opsK_get hks).1 q2
  refine h3 p k oj t v k1 ?_ k2 q3 q4
  cases e:listed.getD k false with
  |true=>rfl
  |false=>exact absurd (mem_dstK (List.mem_filter.2 ⟨List.mem_of_getElem? k1,by rw [e];rfl⟩) k2 q3) g1
 ·exact h2 t v q1 fun j oj hj hoj=>by
   obtain⟨p,hp,e⟩:=List.getElem_of_mem hj
   exact q2 p oj ((opsK_get hks).2 ⟨j,by simp [hp,e],hoj⟩)
theorem wpAny_drawL2{P:Program}{N:Nat}{E:En}{all:List Oper}{ks:List Nat}{ia:Nat}{oa:Oper}{ta:TypeId}{z:List Value}{tm tm':Tm}{own:Ow}{vs:List AV}{Q:Exit→Act→World→Prop}(hks:∀ k∈ks,k<all.length)(hnd:ks.Nodup)
  (kc:List Nat) (hkc:∀ k∈kc,k∈ks) (hup:upKc all ks kc=true) (huse:useB all ks=true) (hback:backB all ks=true) (hdist:distB all ks=true) (hTr:Tr (GoA P all own) N all (opsK all ks) tm vs tm') (hia:ia∈ks) (hoa:all[ia]?=some oa) (hal:∀ (e:Operand→Value) (w:World),(execOp e oa).run P w=.ok (.value (.pointer (some ⟨w.heap.size,0,none⟩))) (w.alloc (.cells z.toArray ta))) (hag:oa.guard=none) (haa:isAll oa=true) (hne:∀ (j:Nat) (oj:Oper),j∈ks→all[j]?=some oj→isAll oj=true→j=ia) (hok:okO own.length own=true) (hgs:E.gs.length≤own.length)
  (hend:∀ J,J∈subl (ks.filter fun k=>!kc.contains k)→∀ S ids a n,Sim N E (dropT (dstK all J) tm') (if ia∈J then own else own++[.blk (zAv z)]) S ids a n→wpAny P .any all.toArray Q (J.length+(all.length-ks.length)) (listedK all.length (lateK ks J)) a n) :
  ∀ (f:Nat) (listed:Array Bool) (a:Act) (n:World),DInvA N E all ks ia (zAv z) tm own vs listed a n→(ks.filter fun j=>!listed.getD j false).length=f→wpAny P .any all.toArray Q (f+(all.length-ks.length)) listed a n:=by
 intro f
 induction f with
 |zero=>exact fun listed a n hinv hf=>wpAny_drawE2 hks kc hia hTr hend listed a n hinv hf (fun j hj=>by
   have:=List.length_eq_zero_iff.1 hf
   rw [List.filter_eq_nil_iff] at this
   simpa using this j (hkc j hj))
 |succ f ih =>
  intro listed a n hinv hf
  by_cases hdone:∀ j∈kc,listed.getD j false=true
  ·exact wpAny_drawE2 hks kc hia hTr hend listed a n hinv hf hdone
  rw [show f+1+(all.length-ks.length)=(f+(all.length-ks.length))+1 by omega]
  obtain⟨i0,hi0,hu0⟩:∃ i,i∈kc∧listed.getD i false=false:=by
   by_cases hex:∃ i,i∈kc∧listed.getD i false=false
   ·exact hex
   ·refine absurd (fun j hj=>?_) hdone
    cases e:listed.getD j false with
    |true=>rfl
    |false=>exact absurd ⟨j,hj,e⟩ hex
  have hsz:=hinv.hi.size
  have gD:∀ j,j<all.length→listed.getD j true=listed.getD j false:=fun j hj=>by simp [Array.getD,hsz,hj]
  have hready:∀ m,m≤ks.length→(∃ i,i∈ks.take m∧listed.getD i false=false)→∃ i,i∈Region.ready .any all.toArray listed:=by
   intro m
   induction m with
   |zero=>rintro _ ⟨i,hi,_⟩;simp at hi
   |succ m ih =>
    intro hm ⟨i,hi,hui⟩
    by_cases hex:∃ i,i∈ks.take m∧listed.getD i false=false
    ·exact ih (by omega) hex
    ·have him:ks[m]?=some i:=by
      rw [List.take_add_one] at hi
      rcases List.mem_append.1 hi with h|h
      ·exact absurd ⟨i,h,hui⟩ hex
      ·cases e:ks[m]? with
       |none=>rw [e] at h;simp at h
       |some q=>rw [e] at h;simp at h;rw [h]
     have hil:i<all.length:=hks i (List.mem_of_getElem? him)
     refine⟨i,mem_ready.2 ⟨by rw [gD i hil];exact hui,all[i],by simp [hil],fun e he hb=>?_⟩⟩
     have hlt:=backB_spec hback him (List.getElem?_eq_getElem hil) e he hb
     cases hg:listed.getD e.on false with
     |true=>rfl
     |false=>exact absurd ⟨e.on,hlt,hg⟩ hex
  refine⟨fun h0=>?_,fun i hi=>?_⟩
  ·obtain⟨i,hi⟩:=hready ks.length (Nat.le_refl _) ⟨i0,by rw [List.take_length];exact hkc i0 hi0,hu0⟩
   rw [h0] at hi;cases hi
  ·have hih:i∈ks:=upKc_wait hup hinv.hi hi0 hu0 hi
   obtain⟨p,hp,ep⟩:=List.getElem_of_mem hih
   have hip:ks[p]?=some i:=by simp [hp,ep]
   obtain⟨hun,o,ho',hdeps⟩:=mem_ready.1 hi
   have hil:i<all.length:=hks i hih
   have ho:all[i]?=some o:=by simpa using ho'
   have hun':listed.getD i false=false:=by rw [← gD i hil];exact hun
   obtain⟨hvl,hTa⟩:=hTr.at_
   obtain⟨v,d,tmi,g1,g2,g3,g4,g5⟩:=hTa p o ((opsK_get hks).2 ⟨i,hip,ho⟩)
   obtain⟨S,ids,h1,h2,h3⟩:=hinv.st
   have hsl:Sl S n ids (rst tmi (useTs all o)) a:=fun t u hu=>by
    obtain⟨q1,q2⟩:=rst_look hu
    rcases g5 t u q2 with ⟨q,oj,p1,p2,p3,p4,_⟩|⟨p1,p2⟩
    ·obtain⟨j,k1,k2⟩:=(opsK_get hks).1 p2
     obtain⟨r1,r2⟩:=useB_spec huse hip ho q1 k2 p3
     exact h3 q j oj t u k1 (up_ready hinv.hi r2 hi) k2 p3 p4
    ·refine h2 t u p1 fun j oj hj hoj e=>?_
     obtain⟨r1,r2⟩:=useB_spec huse hip ho q1 hoj e
     obtain⟨q,hq,eq⟩:=List.getElem_of_mem r1
     rw [List.getElem_take] at eq
     have hql:q<p:=by simp at hq;omega
     exact p2 q oj hql ((opsK_get hks).2 ⟨j,by rw [← eq];exact List.getElem?_eq_getElem (by omega),hoj⟩) e
   have hlist:∀ j,(listed.setIfInBounds i true).getD j false=if j=i then true else listed.getD j false:=fun j=>by
    by_cases e:j=i
    ·subst e;simp [Array.getD,hsz,hil]
    ·rw [getD_set_ne false (fun e'=>e e'.symm),if_neg e]
   have hcount:(ks.filter fun j=>!(listed.setIfInBounds i true).getD j false).length=f:=by
    have e1:(ks.filter fun j=>!(listed.setIfInBounds i true).getD j false)=(ks.filter fun j=>!listed.getD j false).erase i:=by
     rw [List.Nodup.erase_eq_filter (hnd.filter _),List.filter_filter]
     refine List.filter_congr fun j _=>?_
     rw [hlist]
     by_cases e:j=i
     ·subst e;simp
     ·simp [e]
    rw [e1,List.length_erase_of_mem (List.mem_filter.2 ⟨hih,by rw [hun'];rfl⟩),hf];rfl
   have hnext:∀ V S' n' ids',Ids ids ids'→Sim N E [] (if (listed.setIfInBounds i true).getD ia false=true then own++[.blk (zAv z)] else own) S' ids' a n'→R S' n' ids' v V→Past n n'→(∀ b,S b→S' b)→(∀ b,S' b→b<n.heap.size→S b)→(∀ b,S' b→b<n'.heap.size)→DInvA N E all ks ia (zAv z) tm own vs (listed.setIfInBounds i true) (a.put (some d) V) n':=fun V S' n' ids' hII h4 hV hp k1 k2 k3=>by
    have hkp:Kp S S' n n':=⟨hp.size,k1,fun b hb _=>hp.block b hb⟩
    have hget:∀ t,t≠d→(a.put (some d) V).tmps[t]?=a.tmps[t]?:=fun t ht=>by
     simp only [Act.put];rw [Array.getElem?_setIfInBounds_ne (fun e=>ht e.symm)]
    refine⟨hinv.hi.set hi,fun j hj=>by rw [hlist,if_neg ((fun e=>hj (by rw [e];exact hih)))];exact hinv.out j hj,S',ids',?_,fun t u hu hno=>?_,fun q j oj d' u hj hl hoj hd' hu=>?_⟩
    ·exact { h4 with size:=by simp [Act.put,h4.size],defers:=h4.defers,sl:=fun t v hv=>by simp [look] at hv }
    ·obtain⟨U,q1,q2⟩:=h2 t u hu hno
     have hne:t≠d:=fun e=>hno i o hih ho (by rw [g2,e])
     exact⟨U,by rw [hget t hne];exact q1,(q2.kp hkp).ids hII⟩
    ·rw [hlist] at hl
     by_cases e:j=i
     ·subst e
      have hqp:q=p:=(List.getElem?_inj (List.getElem?_eq_some_iff.1 hj).1 hnd).1 (hj.trans hip.symm)
      subst hqp
      obtain rfl:o=oj:=Option.some.inj (ho.symm.trans hoj)
      obtain rfl:d=d':=Option.some.inj (g2.symm.trans hd')
      obtain rfl:v=u:=Option.some.inj (g1.symm.trans hu)
      exact⟨V,by simp [Act.put,h1.size,g3],hV⟩
     ·rw [if_neg e] at hl
      obtain⟨U,q1,q2⟩:=h3 q j oj d' u hj hl hoj hd' hu
      have hne:d'≠d:=fun e'=>e (distB_spec hdist (List.mem_of_getElem? hj) hih hoj ho (by rw [hd',e']) g2)
      exact⟨U,by rw [hget d' hne];exact q1,(q2.kp hkp).ids hII⟩
   unfold wpOp
   simp only [ho']
   rcases g4 with ⟨e1,e2⟩|⟨e1,e2,g4⟩
   ·
    have hii:i=ia:=hne i o hih ho e1
    subst hii
    obtain rfl:oa=o:=Option.some.inj (hoa.symm.trans ho)
    have hwant:Region.wanted oa (yielded all.toArray a.tmps)=true:=by simp [Region.wanted,hag]
    rw [if_pos hwant]
    refine .inl ?_
    rw [if_neg (by rw [hun'];simp)] at h1
    unfold Oper.wp
    rw [hal,Oper.upon_value,g2]
    have hp:Past n (n.alloc (.cells z.toArray ta)):=bself n _
    have h4:=h1.new (zAv z) z ta ((PL_iff.1 (PL_av1 S n z)).imp fun _ _ h=>P1_R1 h)
    have hlen1:ids.length=own.length:=h1.len
    refine ih _ _ _ (hnext (.pointer (some ⟨n.heap.size,0,none⟩)) S _ (ids++[Loc.at_ n.heap.size]) (Ids.push _ _) ?_ ?_ hp (fun _ h=>h) (fun _ h _=>h) (fun b hb=>Nat.lt_of_lt_of_le (h1.slt b hb) hp.size)) hcount
    ·rw [if_pos (by rw [hlist,if_pos rfl])];exact h4
    ·rw [e2];exact R.new_own hlen1 n.heap.size
   ·
    have hii:i≠ia:=fun e=>by subst e;rw [Option.some.inj (ho.symm.trans hoa)] at e1;rw [haa] at e1;cases e1
    have hcur:(if (listed.setIfInBounds i true).getD ia false=true then own++[OB.blk (zAv z)] else own)=(if listed.getD ia false=true then own++[OB.blk (zAv z)] else own):=by
     have e0:(listed.setIfInBounds i true).getD ia false=listed.getD ia false:=by rw [hlist];exact if_neg (fun e=>hii e.symm)
     rw [e0]
    obtain⟨ids0,hI0,hs0⟩:∃ ids0,Ids ids0 ids∧Sim N E (rst tmi (useTs all o)) own S ids0 a n:=by
     by_cases hl:listed.getD ia false=true
     ·rw [if_pos hl] at h1
      have h5:=(h1.weak (l:=[]) (lo:=own) trivial (Pre.app own _) rfl hok hgs).with (tm':=rst tmi (useTs all o)) (fun t u hu=>by obtain⟨U,q1,q2⟩:=hsl t u hu;exact⟨U,q1,q2.take (okT_of e2 hu)⟩)
      refine⟨_,⟨fun q b hq=>?_,fun q L hq hf=>?_⟩,h5⟩
      ·rw [nth_eq,List.getElem?_take] at hq
       split at hq
       ·rw [nth_eq];exact hq
       ·cases hq
      ·refine⟨L,?_,hf,.inl rfl⟩
       rw [nth_eq,List.getElem?_take] at hq
       split at hq
       ·rw [nth_eq];exact hq
       ·cases hq
     ·rw [if_neg hl] at h1
      exact⟨ids,Ids.refl _,h1.with hsl⟩
    rcases g4 N E S ids0 a n hs0 with ⟨w1,w2⟩|⟨w1,w2⟩
    ·rw [if_pos w1]
     refine .inl (Oper.wp_mono (fun a' n' ⟨V,S',e,k0,k1,k2,k3,k4⟩=>?_) (w2 Q))
     subst e
     rw [g2]
     exact ih _ _ _ (hnext V S' n' ids (Ids.refl _) (by rw [hcur];exact h1.grow k1 k2 k3 k4) (k0.ids hI0) k1 k2 k3 k4) hcount
    ·rw [if_neg (by rw [w1];simp)]
     subst w2
     rw [g2]
     exact ih _ _ _ (hnext undef S n ids (Ids.refl _) (by rw [hcur];exact h1) rfl (Below.refl _ _) (fun _ h=>h) (fun _ h _=>h) h1.slt) hcount
def drawR(all:List Oper)(ks kc:List Nat)(ia:Nat)(tA tB:OT)(m:Nat):Bool :=
 Region.noSelect all.toArray&&ks.all (fun k=>decide (k<all.length))&&nodupB ks&&(opsK all ks).all (fun o=>o.dst.isSome)&&upKc all ks kc&&useB all ks&&backB all ks&&distB all ks&&Nat.beq (all.length-ks.length) m &&
 tA.node all.toArray (listedK all.length ks)&&tA.sub all.toArray (listedK all.length ks)&&tA.len m&&tB.node all.toArray (listedK all.length (lateK ks [ia]))&&tB.sub all.toArray (listedK all.length (lateK ks [ia]))&&tB.len (m+1)&&kc.all (fun k=>ks.contains k)
theorem Drw.allocR{T:Tab}{P:Program}(hT:TabOk P T){N:Nat}{E:En}{id:Nat}{l:List Oper}{K:Exit→Tm→Ow→Prop}{tm:Tm}{own:Ow}(ks kc:List Nat)(ia:Nat)(tA tB:OT)(m:Nat)(hJl:(ks.filter fun k=>!kc.contains k)=[ia])(hB:drawR l ks kc ia tA tB m=true)(hA:allB T l ks ia=true)(hok:okO own.length own=true)(hgs:E.gs.length≤own.length)
  (hk:opsC l ks fun lo=>WDA T P N l own lo (fun tm=>Both (zavC (zrAt T l ia) fun z=>pushK own (.blk z) fun _ own=>WT T P N E l tA (K .normal) tm own) (dropJ l [ia] tm fun tm=>WT T P N E l tB (K .normal) tm own)) tm):Drw T P N E (.region id ⟨l⟩ true) l K tm own:=by
 refine .sem ⟨fun S ids a n hs Q hQ hpan=>?_⟩
 simp only [drawR,Bool.and_eq_true] at hB
 obtain⟨⟨⟨⟨⟨⟨⟨⟨⟨⟨⟨⟨⟨⟨⟨b1,b2⟩,b2'⟩,b3⟩,b4⟩,b5⟩,b6⟩,b7⟩,bm⟩,t1⟩,t2⟩,t3⟩,t4⟩,t5⟩,t6⟩,b9⟩:=hB
 have hm:=Nat.eq_of_beq_eq_true bm
 have hks:∀ k∈ks,k<l.length:=fun k hk=>by simpa using List.all_eq_true.1 b2 k hk
 have hnd:=nodupB_spec b2'
 have hia:ia∈ks:=by
  have:ia∈ks.filter fun k=>!kc.contains k:=by rw [hJl];exact List.mem_cons_self
  exact(List.mem_filter.1 this).1
 obtain⟨vs,tm',h1,hAB⟩:=WDA_tr hT (fun o ho=>List.all_eq_true.1 b3 o ho) (opsC_out hk)
 obtain⟨h2,h3⟩:=hAB
 rw [zavC_iff] at h2
 unfold allB at hA
 split at hA
 ·rename_i oa hoa
  split at hA
  ·rename_i ta hop
   simp only [Bool.and_eq_true,Option.isNone_iff_eq_none] at hA
   obtain⟨⟨⟨c1,c2⟩,c3⟩,c4⟩:=hA
   split at c3
   ·rename_i z hz
    obtain⟨ti,tv,z1,z2,z3⟩:=hT.zr ta z hz
    have hzr:zrAt T l ia=z:=by unfold zrAt;rw [hoa];simp only [hop,hz];rfl
    rw [hzr,pushK_iff] at h2
    refine wp_region_any hT.mixed ?_
    have hp:Past n { n with drawn:=n.drawn+1 }:=Past.draw n
    have hs':=hs.past hp
    have hf:(ks.filter fun j=>!(Array.replicate l.length false).getD j false).length=ks.length:=by
     rw [List.filter_eq_self.2 (fun j hj=>by simp [Array.getD])]
    have:=wpAny_drawL2 (P:=P) (N:=N) (E:=E) (all:=l) (ks:=ks) (Q:=Q) (oa:=oa) (ta:=ta) (z:=z) hks hnd kc (fun k hk=>by simpa using List.all_eq_true.1 b9 k hk) b4 b5 b6 b7 h1 hia hoa (fun e w=>by
      unfold execOp
      simp only [hop,Instr.alloc]
      have hv:tv.cells=⟨z⟩:=by rw [← z3]
      simp [zeroValue,typeInfo,z1,z2,Sem.run_bind,newVar,newRow,hv]) c1 (by simp [isAll,hop]) (fun j oj hj hoj hjj=>by
      have:=List.all_eq_true.1 c4 j hj
      simp only [hoj,hjj] at this
      simpa using this) hok hgs (fun J hJ S ids a n hs=>by
      rw [hJl] at hJ
      have hJ2:J=[]∨J=[ia]:=by simpa [subl] using hJ
      rcases hJ2 with rfl|rfl
      ·have e:lateK ks []=ks:=by unfold lateK;rw [List.filter_eq_self.2];intro k _;rfl
       rw [e,List.length_nil,Nat.zero_add,hm]
       rw [if_neg (by simp)] at hs
       exact wpAny_tree hT (fun a n h=>hQ .normal a n h) m tA _ tm' _ S ids a n t1 t2 t3 h2 hs
      ·rw [List.length_singleton,hm,Nat.add_comm]
       rw [if_pos (by simp)] at hs
       exact wpAny_tree hT (fun a n h=>hQ .normal a n h) (m+1) tB _ _ _ S ids a n t4 t5 t6 (dropJ_iff (K:=fun tm=>WT T P N E l tB (K .normal) tm own) h3) hs) ks.length (Array.replicate l.length false) a _ ⟨⟨by simp,fun j oj _ hl=>by simp [Array.getD] at hl⟩,fun j hj=>by simp [Array.getD],S,ids,by rw [if_neg (by simp [Array.getD])];exact hs'.nil,fun t v hv _=>hs'.sl t v hv,fun p j oj d v _ hl=>by simp [Array.getD] at hl⟩ hf
    have hle:ks.length≤l.length:=by
     have:=hnd.length_le_of_subset (l₂:=List.range l.length) (fun k hk=>List.mem_range.2 (hks k hk))
     simpa using this
    rw [show ks.length+(l.length-ks.length)=l.length by omega] at this
    simpa using this
   ·cases c3
  ·cases hA
 ·cases hA
theorem flat_ones:∀ (l:List AV),(l.map fun x=>[x]).flatten=l
 |[]=>rfl
 |x::l=>by simp [flat_ones l]
theorem OpAt.bsG{P:Program}{T:Tab}(hT:TabOk P T){N:Nat}{E:En}{o:Oper}{K:Tm→Ow→Prop}{tm:Tm}{own:Ow}{t e len:Nat}{z:List Value}{parts:List (Nat×Operand)}(ho:o.op=.buildSlice t len ⟨parts⟩)(hsl:look T.sl t=some e)(hk:look T.tk e=some .sc)(hz:look T.zr e=some z)(hb:(Nat.beq z.length 1&&Nat.ble 1 len&&Nat.ble len 16777216)=true)
  (h:partsK tm (fun i=>some (i*1,.sc)) parts (zsOf (len*1) z) fun cs=>puL cs=true∧cs.length=len∧put N tm o.dst (.gro own.length len) fun tm=>K tm (own++[.buf e 1 (cs.map fun x=>[x])])):OpAt P N E o K tm own:=by
 refine⟨fun S ids a n hsim Q=>?_⟩
 simp only [Bool.and_eq_true] at hb
 obtain⟨⟨hb1,hb2⟩,hb3⟩:=hb
 obtain⟨z',⟨g1,g1',g1''⟩,g2⟩:=partsK_sound h
 obtain⟨zv',g3,g4⟩:=g2 S n ids a hsim.sl _ (zsOf_R1 S n ids z (len*1))
 have hf:=g4 (fun i=>some (i*szOf .sc,szOf .sc)) (fun i d hd=>by cases hd;rfl)
 have hr:=run_buildSlice (P:=P) hT (t:=t) (len:=len) (parts:=(parts.map fun p=>(p.1,a.eval p.2)).toArray) hsl hk hz (Nat.eq_of_beq_eq_true hb1) (by simpa [szOf] using nLe hb2) (by simpa [szOf] using nLe hb3) (by simpa [szOf] using hf) n
 have hp:Past n (n.alloc (.cells zv'.toArray e)):=bself n _
 have hlt:n.heap.size<(n.alloc (.cells zv'.toArray e)).heap.size:=(Bx.new n zv' e _ rfl).lt
 have hlen:zv'.length=len:=by rw [g3.len,g1']
 have hcm:len≤maxLen:=by have:=nLe hb3;simp only [maxLen];omega
 have hpl:PL S n z' zv':=(RL_pu g1).1 (R1L_R g3)
 have hown:(n.alloc (.cells zv'.toArray e)).ownsRow 0 e 1 (.slice (some ⟨n.heap.size,0,none⟩) (z'.map fun x=>[x]).length len) (z'.map fun x=>[x]).length zv' :=
  ⟨by simp [hlen,g1'],.inr ⟨n.heap.size,len,zv'.toArray,rfl,Nat.zero_le _,heap_alloc_new n _,by simp [g1'],hcm,by simp [hlen],by simp [g1',← hlen]⟩⟩
 have hmm:(z'.map fun x=>[x]).length=len:=by simp [g1']
 have h1:=(hsim.past hp).push (o:=.buf e 1 (z'.map fun x=>[x])) (L:=⟨false,some n.heap.size,.slice (some ⟨n.heap.size,0,none⟩) len len,len⟩)
  ⟨some ⟨n.heap.size,0,none⟩,len,zv',by rw [hmm];rfl,(fun x hx=>by obtain⟨y,_,rfl⟩:=List.mem_map.1 hx;rfl),hown,by rw [flat_ones];exact hpl.kp (.past hp)⟩
  (fun b hb=>by
   obtain rfl:n.heap.size=b:=by simpa using hb
   exact⟨fun hS=>by have:=hsim.slt _ hS;omega,hlt,hsim.fr.size⟩)
  (fun j o' L' b g1 g2 g3 g4 e=>by
   obtain rfl:n.heap.size=b:=by simpa using e
   have:=hsim.lt g1 g2 g3 g4
   omega)
 obtain⟨tm',k1,k2⟩:=put_sound g1''
 have:=k2 E _ _ _ a _ (.slice (some ⟨n.heap.size,0,none⟩) len len) h1 ⟨_,by rw [← hsim.len,nth_append_new],rfl,Nat.le_refl _,⟨_,len,len,rfl⟩,fun _=>rfl⟩
 unfold Oper.wp execOp
 simp only [ho]
 show (match Sem.run P (Functor.map Next.value (Instr.buildSlice t len ((⟨parts⟩:Array (Nat×Operand)).map fun x=>(x.1,a.eval x.2)))) n with|_=>_)
 rw [Sem.run_map]
 rw [show ((⟨parts⟩:Array (Nat×Operand)).map fun x=>(x.1,a.eval x.2))=(parts.map fun p=>(p.1,a.eval p.2)).toArray by simp,hr]
 exact⟨tm',_,_,_,k1,this⟩
theorem SGood.end_b{t:W.Trk}{s:W.RSet}(ht:TLen t)(hs:SGood t s){k:Nat}(hk:k<s.list.length):ROk t (s.list.getD k ⟨0,[]⟩):=(hs.at_ hk).toROk
theorem below_(n:W.Nav)(h:NavOk n):Ret Tryz.prog 136 [.ptr (navC n)] (·=spV n.below):=by
 have ht:=h.tk.len
 refine enterO tabOk (N:=75) (gs:=[]) (args:=[_]) Tryz.func136 rfl rfl rfl (nLe rfl) (fun E hE=>?_)
 cases hon:n.place.on
 ·have hnot:(!n.place.on)=true:=by rw [hon];rfl
  conv=>whnf
  repeat' ((first|refine Br.ot (by assumption) ?_|refine FinAt.val rfl ?_);conv=>whnf)
  show spV n.grades=spV n.below
  unfold W.Nav.below
  rw [hon];rfl
 ·have hp:=h.pl hon
  have hs:=hp.set
  have hsn:=hs.n
  have hnot:(!n.place.on)=false:=by rw [hon];rfl
  have key:∀ k,k≤n.place.set.list.length→(∀ j,j<k→¬ n.place.set.end_ n.t (n.place.set.list.getD j ⟨0,[]⟩)=n.place.pos.hi)→(k<n.place.set.list.length→n.place.set.end_ n.t (n.place.set.list.getD k ⟨0,[]⟩)=n.place.pos.hi)→n.below=if k<n.place.set.list.length then n.grades else if (n.place.set.grades n.t n.place.pos).2 then (n.place.set.grades n.t n.place.pos).1 else n.grades:=fun k hk h1 h2=>by
   unfold W.Nav.below
   rw [hon]
   have hnn:¬ ((!true)=true):=by simp
   rw [if_neg hnn]
   by_cases hlt:k<n.place.set.list.length
   ·rw [if_pos hlt,if_pos]
    rw [List.any_eq_true]
    refine⟨n.place.set.list.getD k ⟨0,[]⟩,by simp [List.getD,hlt],by simpa using h2 hlt⟩
   ·rw [if_neg hlt,if_neg]
    rw [Bool.not_eq_true,List.any_eq_false]
    intro r hr
    obtain⟨j,hj,e⟩:=List.getElem_of_mem hr
    have:=h1 j (by omega)
    simp only [List.getD,List.getElem?_eq_getElem hj,Option.getD_some,e] at this
    simpa using this
  conv=>whnf
  repeat' ((refine Br.of (by assumption) ?_);conv=>whnf)
  refine LoopAt.rule tabOk [(0,_),(2,_),(22,_),(23,_)] (fun (i:Nat)=>[(24,.int .i64 (i:Int))]) (fun (i:Nat)=>[.blk [I 0,I 0]]) (fun (i:Nat)=>i≤n.place.set.list.length∧∀ j,j<i→¬ n.place.set.end_ n.t (n.place.set.list.getD j ⟨0,[]⟩)=n.place.pos.hi) (fun (i:Nat)=>n.place.set.list.length-i) 0 (by trivial) ⟨Nat.zero_le _,fun j hj=>absurd hj (by omega)⟩ (by trivial) (by trivial) (fun _=>⟨rfl,rfl,rfl,by simp [hE]⟩) (fun i hk=>?_)
  obtain⟨hk,hno⟩:=hk
  by_cases hlt:i<n.place.set.list.length
  ·conv=>whnf
   repeat' (first|((first|refine Br.pt (by omega) ?_|refine CallX.pu (end_ n.t n.place.set _ ht hs.f (hs.end_b ht hlt)) rfl rfl ?_|refine Ob.mk (by omega) ?_|refine Ob.mk (by unfold W.I64 at *;omega) ?_|refine Drw.loose (by kernel_rfl) ?_|refine Ix.nat _ ?_|refine FinAt.val rfl ?_);conv=>whnf)|((refine Br.d (fun h=>?_) (fun h=>?_))<;>conv=>whnf))
   ·show spV n.grades=spV n.below
    rw [key i hk hno (fun _=>by assumption),if_pos hlt]
   ·refine⟨i+1,⟨by omega,fun j hj=>?_⟩,by omega,(by trivial),(by trivial),(by trivial)⟩
    rcases Nat.lt_or_ge j i with q|q
    ·exact hno j q
    ·obtain rfl:j=i:=by omega
     assumption
  ·obtain rfl:i=n.place.set.list.length:=by omega
   have hk2:=key _ hk hno (fun q=>absurd q (by omega))
   rw [if_neg (by omega)] at hk2
   conv=>whnf
   repeat' (first|((first|(refine Drw.len 21 19 rfl rfl ?_;refine Drw.allocM tabOk [0,1,2,3,4,5,6,7,8,9,10,11,12,13,14,15,16,18,17] [0,1,2,3,4,5,6,7,8,9,10,11,12,13,14,15,16,18] [[],[17]] [19,20] 18 (by kernel_rfl) (by kernel_rfl) (by kernel_rfl) (by kernel_rfl) rfl (by simp [hE]) ?_)|refine Br.pf (by omega) ?_|refine CallD.pu (grades_ n.t n.place.set n.place.pos ht h.tk.nok.2.2 hs.ok) rfl ?_|refine FinAt.val rfl ?_);conv=>whnf)|((first|refine Br.mk (fun h=>?_) (fun h=>?_)|refine Both.mk ?_ ?_)<;>conv=>whnf))
   all_goals first
    |(
      show spV (n.place.set.grades n.t n.place.pos).1=spV n.below
      rw [hk2,if_pos (by assumption)])
    |(
      show spV n.grades=spV n.below
      rw [hk2,if_neg (by simp_all)])
theorem grade_b{t:W.Trk}(ht:TrkOk t)(i k:Nat):W.I64 ((t.segs.getD i default).pieces.getD k default).grade:=by
 by_cases hi:i<t.segs.length
 ·have:=ht.seg i hi
  unfold W.segOk at this
  simp only [Bool.and_eq_true,decide_eq_true_eq] at this
  have hp:=this.1.1.2
  unfold W.piecesOk at hp
  simp only [Bool.and_eq_true,List.all_eq_true,List.mem_range,decide_eq_true_eq] at hp
  by_cases hk:k<(t.segs.getD i default).pieces.length
  ·have:=hp.2 k hk
   unfold W.I64;omega
  ·have e:(t.segs.getD i default).pieces.getD k default=default:=by rw [List.getD_eq_getElem?_getD,List.getElem?_eq_none (by omega)];rfl
   rw [e];show W.I64 0;unfold W.I64;omega
 ·have e:t.segs.getD i default=default:=by rw [List.getD_eq_getElem?_getD,List.getElem?_eq_none (by omega)];rfl
  rw [e];show W.I64 0;unfold W.I64;omega
theorem bounds_i64{l:List W.Piece}{s:W.Sp}(h:∀ k,W.I64 (l.getD k default).grade):SpI (W.bounds l s).1:=by
 have key:∀ n,SpI (W.it (W.boundsStep l s) (⟨0,0⟩,false) n).1:=fun n=>by
  induction n with
  |zero=>exact SpI.zero
  |succ n ih =>
   show SpI (W.boundsStep l s n _).1
   unfold W.boundsStep
   split
   ·exact ih
   ·dsimp only
    have hg:SpI ⟨(l.getD n default).grade,(l.getD n default).grade⟩:=⟨h n,h n⟩
    split
    ·exact ih.hull hg
    ·exact hg.hull hg
 exact key _
theorem below_i64(n:W.Nav)(h:NavOk n):SpI n.below:=by
 unfold W.Nav.below
 split
 ·exact h.gr
 ·split
  ·exact h.gr
  ·split
   ·have key:∀ (vs:List (Int×Int)) (st:W.Sp×Bool),SpI st.1→SpI (vs.foldl (W.gradeStep n.t n.place.pos) st).1:=by
     intro vs
     induction vs with
     |nil=>exact fun _ h=>h
     |cons v vs ih =>
      intro st hst
      rw [List.foldl_cons]
      refine ih _ ?_
      unfold W.gradeStep
      dsimp only
      have hb:=bounds_i64 (l:=(n.t.seg v.1).pieces) (s:=⟨(n.place.pos.meet ⟨v.2,v.2+n.t.len v.1⟩).1.lo-v.2,(n.place.pos.meet ⟨v.2,v.2+n.t.len v.1⟩).1.hi-v.2⟩) (grade_b h.tk v.1.toNat)
      split
      ·dsimp only
       split
       ·exact hst.hull hb
       ·exact hb.hull hb
      ·exact hst
    exact key _ _ SpI.zero
   ·exact h.gr
theorem accel_(n:W.Nav)(m:Ml.M)(hN:NavOk n)(hm:Ml.fit m):Ret Tryz.prog 93 [.ptr (navC n),.agg (mlC m)] (·=.agg (snC (n.accelS m))):=by
 have hc:=hN.cf
 have hb:=below_i64 n hN
 have hv:=hm 4
 have hms:=hc.maxSpeed
 have hsp:=hN.sp
 have h1:=hsp.lo
 have h2:=hsp.hi
 have h3:=hsp.right
 have ha:SpI (W.accel n.c (m.val 4) n.below):=SpI.grow
 refine enterO tabOk (N:=29) (gs:=[]) (args:=[_,_]) Tryz.func93 rfl rfl rfl (nLe rfl) (fun E hE=>?_)
 conv=>whnf
 repeat' (first|((first|refine CallS.q (of_ m 4 (by omega) (by omega)) rfl ?_|refine CallX.pu (below_ n hN) rfl rfl ?_|refine CallX.pu (accel n.c (m.val 4) n.below.lo n.below.hi hc.accErr.1 hc.accErr.2 (by first|assumption|omega|(unfold W.I64 at *;omega)) hb.1 hb.2) rfl rfl ?_|refine CallX.pu (from_ _ _ _ _ (by first|assumption|omega|(unfold W.I64 at *;omega)) (by first|assumption|omega|(unfold W.I64 at *;omega)) ha.1 ha.2) rfl rfl ?_|refine Drw.loose (by kernel_rfl) ?_|refine FinAt.val rfl ?_);conv=>whnf)|((refine Br.mk (fun h=>?_) (fun h=>?_))<;>conv=>whnf))
 all_goals
  show AV.agg _=AV.agg _
  unfold W.Nav.accelS
  first|rw [if_pos (show m.has 4=true by simpa using h)]|rw [if_neg (show ¬ m.has 4=true by simpa using h)]
theorem CtB.ok{k:W.Counter}{c:Int}(h:CtB k c)(hc:0≤c∧c≤100000):CtOk k:=⟨h.l.1,h.l.2,by have:=h.sum;unfold W.I64;omega⟩
theorem together_i64(n:W.Nav)(m:Ml.M)(a b:W.Counter×Int×Bool)(c:W.Nav):SpI (W.together (W.fitOf (W.tachoSensor n.circ0 n.c.pulses a) (W.tachoSensor n.circ1 n.c.pulses b) (c.radarS m))).1 :=
 SpI.together (fitOf_i64 SpI.tachoS SpI.tachoS (SpI.radarS c m))
theorem CallX.blk0{f:Nat}{xs c:List AV}{r:AV}{K:AV→Prop}{tm:Tm}{own:Ow}(h:Ret Tryz.prog f (.ptr c::xs) (·=r))(hb:nth own 0=some (.blk c))(hc:puL c=true)(hx:puL xs=true)(hf:flat r=true)(hK:K r):CallX Tryz.prog f (.own 0 0::xs) tm own K :=
 .of [0] (RvL.cons (Rv.ownP (by simp) hb (by rw [List.drop_zero];exact RvL.pu hc)) (RvL.pu hx)) (Als.cons hb rfl (Als.nil _)) h hf hK
theorem sense_(n:W.Nav)(m:Ml.M)(hk0:CtOk n.k0)(hk1:CtOk n.k1)(hN:NavOk (n.sense m).1)(hm:Ml.fit m):RetO Tryz.prog 55 [.blk (navC n)] [.own 0 0,.agg (mlC m)] (fun r gs'=>r=.agg (fusedC (n.sense m).2)∧gs'=[.blk (navC (n.sense m).1)]):=by
 have hc:ConfB n.c:=hN.cf
 have hc0:SpI n.circ0:=hN.c0
 have hc1:SpI n.circ1:=hN.c1
 have hpl:=hc.pulses
 have hsp:SpeedB n.c n.speed:=hN.sp
 have hs1:=hsp.lo
 have hs2:=hsp.hi
 have hs3:=hsp.right
 have hms:=hc.maxSpeed
 have hma:=hc.maxAccel
 have hv1:=hm 1
 have hv2:=hm 2
 have hv3:=hm 3
 obtain⟨a,ha⟩:∃ a,a=n.k0.next (m.val 1) (m.has 1):=⟨_,rfl⟩
 obtain⟨b,hb⟩:∃ b,b=n.k1.next (m.val 2) (m.has 2):=⟨_,rfl⟩
 have hN2:NavOk { n with k0:=a.1,k1:=b.1 }:=by rw [ha,hb];exact hN
 have t0:=tacho0 n m hk0 hc0 (by unfold W.I64;omega) (by unfold W.I64;omega)
 rw [← ha] at t0
 have t1:=tacho1 { n with k0:=a.1 } m hk1 hc1 (show W.I64 n.c.pulses by unfold W.I64;omega) (by unfold W.I64;omega)
 dsimp only at t1
 rw [← hb] at t1
 have t2:=radar_ { n with k0:=a.1,k1:=b.1 } m hc.radBase.1 hc.radBase.2 hc.radPart.1 hc.radPart.2 (by omega) (by omega)
 have t3:=accel_ { n with k0:=a.1,k1:=b.1 } m hN2 hm
 have hT:SpI (W.together (W.fitOf (W.tachoSensor n.circ0 n.c.pulses a) (W.tachoSensor n.circ1 n.c.pulses b) (n.radarS m))).1:=together_i64 n m a b n
 refine enterO tabOk (N:=30) (gs:=[_]) (args:=[_,_]) Tryz.func55 rfl rfl rfl (nLe rfl) (fun E hE=>?_)
 conv=>whnf
 repeat' (first|((first|refine CallX.blk0 t3 rfl rfl rfl rfl ?_|refine Drw.held tabOk 3 1 [0,1,3,4,6,7] (.alt (.go 2 (.alt (.go 5 (.alt (.go 8 (.alt (.go 9 (.go 10 (.go 11 .done))) (.go 10 (.go 9 (.go 11 .done))))) (.go 10 (.go 8 (.go 9 (.go 11 .done)))))) (.go 10 (.go 5 (.go 8 (.go 9 (.go 11 .done))))))) (.go 10 (.go 2 (.go 5 (.go 8 (.go 9 (.go 11 .done))))))) 6 rfl rfl rfl rfl (by kernel_rfl) ?_|refine And.intro rfl ?_|refine CallS.call (CallN.updE [0] [] (RvJL.cons (RvJ.ownP rfl) (RvJL.pu rfl)) (Als.nil _) (by simp) (Giv.one rfl (by simp) (RcJ.pu rfl)) (t0) ?_)|refine CallS.call (CallN.updE [0] [] (RvJL.cons (RvJ.ownP rfl) (RvJL.pu rfl)) (Als.nil _) (by simp) (Giv.one rfl (by simp) (RcJ.pu rfl)) (t1) ?_)|refine CallS.call (CallN.updE [0] [] (RvJL.cons (RvJ.ownP rfl) (RvJL.pu rfl)) (Als.nil _) (by simp) (Giv.one rfl (by simp) (RcJ.pu rfl)) (t2) ?_)|refine CallX.pu (prior n.c n.speed.lo n.speed.hi (by omega) hms.2 (by omega) hma.2 (by unfold W.I64;omega) (by unfold W.I64;omega)) rfl rfl ?_|refine CallX.pu (fuse (W.prior n.c n.speed) (W.tachoSensor n.circ0 n.c.pulses a) (W.tachoSensor n.circ1 n.c.pulses b) (n.radarS m) (n.accelS m) hT) rfl rfl ?_|refine Drw.loose (by kernel_rfl) ?_);conv=>whnf)|((refine Both.mk ?_ ?_)<;>conv=>whnf))
 all_goals
  refine FinAt.asis [] (RvL.pu rfl) (by simp) (by show 1≤_;simp) rfl ⟨?_,?_⟩
  ·subst ha;subst hb;rfl
  ·subst ha;subst hb;rfl
end Y
end Go.Proofs.YtllemifiammnnaaGreat
