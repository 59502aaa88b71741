/- Part 8 of the proof. No condition. -/
import Derived.Test.YtllemifiammnnaaGreatProg
import Derived.Deep.LoopGhost
import Derived.Laws.BitsAllLaws
import Derived.Laws.OwnMore
import Derived.Laws.AppendOwn
import Derived.Laws.CopyOwn
import Derived.OwnWalk
import Derived.Laws.MakeOwn
import Derived.Deep.DeepCutAuto
import Derived.Laws.BytesArg
import Derived.Test.YtllemifiammnnaaGreatR07
import Derived.Test.YtllemifiammnnaaGreatR03
import Derived.Test.YtllemifiammnnaaGreatR00
set_option linter.unusedVariables false
set_option linter.unusedSimpArgs false
set_option maxRecDepth 100000
set_option maxHeartbeats 4000000
namespace Go.Proofs.YtllemifiammnnaaGreat
namespace Y
open Go Go.RowKit Go.Sort
def encN:Nat→Nat→List Nat
 |0,_=>[]
 |n+1,v=>encN n (v/256)++[v%256]
theorem encN_len:∀ n v,(encN n v).length=n
 |0,_=>rfl
 |n+1,v=>by simp [encN,encN_len n]
theorem encN_b:∀ n v,∀ x∈encN n v,x<256
 |0,_,x,h=>by simp [encN] at h
 |n+1,v,x,h=>by
  rw [encN,List.mem_append] at h
  rcases h with h|h
  ·exact encN_b n _ x h
  ·simp at h;subst h;exact Nat.mod_lt _ (by decide)
theorem encN_be:∀ n v,v<256 ^ n→W.be (encN n v)=v
 |0,v,h=>by simp at h;subst h;rfl
 |n+1,v,h=>by
  rw [encN,be_snoc,encN_be n (v/256) (by rw [Nat.pow_succ] at h;omega)]
  omega
section
variable{N:Nat}{E:En}{o:Oper}{f:Nat}{xs:List AV}{a b:List Nat}{r:AV}{K:Tm→Ow→Prop}{tm:Tm}{own:Ow}
theorem CallN.rd{dst:Option Nat}(h:RetO Tryz.prog f [.blk [bytesV a,.bool false]] (.own 0 0::xs) (fun v gs'=>v=r∧gs'=[.blk [bytesV b,.bool false]]))(hp:puL xs=true)(hb:nth own 0=some (.blk [bytesV a,.bool false]))
  (hK:put N tm dst r fun tm=>K tm (own.set 0 (.blk [bytesV b,.bool false]))):CallN Tryz.prog N E f (.own 0 0::xs) dst K tm own:=by
 refine CallN.upd [0] [] (RvJL.cons (RvJ.ownP rfl) (RvJL.pu hp)) (Als.nil _) (by simp) (Giv.one hb (by simp) (RcJ.pu rfl)) h (fun v gs' hp' _=>?_)
 obtain⟨rfl,rfl⟩:=hp'
 exact hK
theorem CallN.rdF{dst:Option Nat}{g:Nat}{m:Int}(h:RetO Tryz.prog f [.blk [bytesV a,.bool false]] [I m,.fn g [.own 0 0] []] (fun v gs'=>v=r∧gs'=[.blk [bytesV b,.bool false]]))(hb:nth own 0=some (.blk [bytesV a,.bool false]))
  (hK:put N tm dst r fun tm=>K tm (own.set 0 (.blk [bytesV b,.bool false]))):CallN Tryz.prog N E f [I m,.fn g [.own 0 0] []] dst K tm own:=by
 refine CallN.upd [0] [] (RvJL.cons (RvJ.pu rfl) (RvJL.cons (RvJ.fn (R0J.ownP rfl R0J.nil) R0J.nil) RvJL.nil)) (Als.nil _) (by simp) (Giv.one hb (by simp) (RcJ.pu rfl)) h (fun v gs' hp' _=>?_)
 obtain⟨rfl,rfl⟩:=hp'
 exact hK
end
theorem numV(n v:Nat)(rest:List Nat)(h8:n≤8)(hv:v<256 ^ n)(hv2:v<9223372036854775808)(m:Int)(hm:m=n) :
  RetO Tryz.prog 115 [.blk [bytesV (encN n v++rest),.bool false]] [.own 0 0,I m] (fun r gs'=>r=I (v:Int)∧gs'=[.blk [bytesV rest,.bool false]]):=by
 have:=numC (encN n v) rest m (by rw [encN_len];exact hm.symm) (by rw [encN_len];exact h8) (encN_b n v) (by rw [encN_be n v hv];exact hv2)
 rw [encN_be n v hv] at this
 exact this
theorem countV(n v:Nat)(rest:List Nat)(h8:n≤8)(hv:v<256 ^ n)(hv2:v<9223372036854775808)(m most:Int)(hm:m=n)(hmost:(v:Int)≤most) :
  RetO Tryz.prog 77 [.blk [bytesV (encN n v++rest),.bool false]] [.own 0 0,I m,I most] (fun r gs'=>r=I (v:Int)∧gs'=[.blk [bytesV rest,.bool false]]):=by
 refine enterO tabOk (N:=18) (gs:=[_]) (args:=[_,_,_]) Tryz.func77 rfl rfl rfl (nLe rfl) (fun E hE=>?_)
 conv=>whnf
 repeat' ((first|refine CallS.call (CallN.rd (numV n v rest h8 hv hv2 m hm) rfl rfl ?_)|refine Br.pf (by omega) ?_);conv=>whnf)
 exact FinAt.asis (ars:=[I (v:Int)]) [] (RvL.pu rfl) (by simp) (by show 1≤_;simp) rfl ⟨rfl,rfl⟩
theorem nextV(v:Nat)(rest:List Nat)(hv:v<256) :
  RetO Tryz.prog 119 [.blk [bytesV (encN 1 v++rest),.bool false]] [.own 0 0] (fun r gs'=>r=I (v:Int)∧gs'=[.blk [bytesV rest,.bool false]]):=by
 have q1:=fun rest=>numV 1 v rest (by decide) (by omega) (by omega) 1 rfl
 refine enterO tabOk (N:=5) (gs:=[_]) (args:=[_]) Tryz.func119 rfl rfl rfl (nLe rfl) (fun E hE=>?_)
 conv=>whnf
 repeat' ((refine CallS.call (CallN.rd (q1 rest) rfl rfl ?_));conv=>whnf)
 exact FinAt.asis (ars:=[I (v:Int)]) [] (RvL.pu rfl) (by simp) (by show 1≤_;simp) rfl ⟨rfl,rfl⟩
def u32(x:Int):Nat:=(x%4294967296).toNat
def encPiece(p:W.Piece):List Nat:=encN 8 p.from_.toNat++encN 4 (u32 p.grade)
def PcOk(p:W.Piece):Prop:=0≤p.from_∧p.from_<9223372036854775808∧-2147483648≤p.grade∧p.grade<2147483648
theorem pieceV(p:W.Piece)(rest:List Nat)(hp:PcOk p) :
  RetO Tryz.prog 117 [.blk [bytesV (encPiece p++rest),.bool false]] [.own 0 0] (fun r gs'=>r=.agg (pcC p)∧gs'=[.blk [bytesV rest,.bool false]]):=by
 obtain⟨h1,h2,h3,h4⟩:=hp
 have hu:u32 p.grade<4294967296:=by unfold u32;omega
 have hw:IntKind.i32.wrap (u32 p.grade:Int)=p.grade:=by
  simp only [IntKind.wrap,IntKind.bits,IntKind.signed,u32]
  simp
  omega
 have e256:256 ^ 8=18446744073709551616:=by decide
 have e2564:256 ^ 4=4294967296:=by decide
 unfold encPiece
 rw [List.append_assoc]
 have q1:=fun rest=>numV 8 p.from_.toNat rest (by decide) (by omega) (by omega) 8 rfl
 refine enterO tabOk (N:=12) (gs:=[_]) (args:=[_]) Tryz.func117 rfl rfl rfl (nLe rfl) (fun E hE=>?_)
 conv=>whnf
 repeat' ((first|refine CallS.call (CallN.rd (q1 _) rfl rfl ?_)|refine CallS.call (CallN.rd (numV 4 (u32 p.grade) rest (by decide) (by omega) (by omega) 4 rfl) rfl rfl ?_)|refine Ob.mk (by unfold W.I64 at *;omega) ?_);conv=>whnf)
 refine FinAt.asis (ars:=[.agg [I (p.from_.toNat:Int),I (IntKind.i32.wrap (u32 p.grade:Int))]]) [] (RvL.pu rfl) (by simp) (by show 1≤_;simp) rfl ⟨?_,rfl⟩
 rw [hw,Int.toNat_of_nonneg h1]
 rfl
def encG(g:W.Grp):List Nat:=encN 2 g.id.toNat++(encN 1 g.seg.toNat++(encN 8 g.offset.toNat++(encN 4 g.acc.toNat++encN 4 g.slack.toNat)))
structure GrB(g:W.Grp):Prop where
 id:0≤g.id∧g.id<65536
 seg:0≤g.seg∧g.seg<256
 off:0≤g.offset∧g.offset<9223372036854775808
 acc:0≤g.acc∧g.acc<4294967296
 slack:0≤g.slack∧g.slack<4294967296
theorem groupV(g:W.Grp)(rest:List Nat)(hg:GrB g) :
  RetO Tryz.prog 80 [.blk [bytesV (encG g++rest),.bool false]] [.own 0 0] (fun r gs'=>r=.agg (gpC g)∧gs'=[.blk [bytesV rest,.bool false]]):=by
 obtain⟨⟨a1,a2⟩,⟨b1,b2⟩,⟨c1,c2⟩,⟨d1,d2⟩,⟨e1,e2⟩⟩:=hg
 have p8:256 ^ 8=18446744073709551616:=by decide
 have p4:256 ^ 4=4294967296:=by decide
 have p2:256 ^ 2=65536:=by decide
 unfold encG
 simp only [List.append_assoc]
 have q1:=fun rest=>numV 2 g.id.toNat rest (by decide) (by omega) (by omega) 2 rfl
 have q2:=fun rest=>numV 1 g.seg.toNat rest (by decide) (by omega) (by omega) 1 rfl
 have q3:=fun rest=>numV 8 g.offset.toNat rest (by decide) (by omega) (by omega) 8 rfl
 have q4:=fun rest=>numV 4 g.acc.toNat rest (by decide) (by omega) (by omega) 4 rfl
 have q5:=fun rest=>numV 4 g.slack.toNat rest (by decide) (by omega) (by omega) 4 rfl
 refine enterO tabOk (N:=19) (gs:=[_]) (args:=[_]) Tryz.func80 rfl rfl rfl (nLe rfl) (fun E hE=>?_)
 conv=>whnf
 repeat' ((first|refine CallS.call (CallN.rd (q1 _) rfl rfl ?_)|refine CallS.call (CallN.rd (q2 _) rfl rfl ?_)|refine CallS.call (CallN.rd (q3 _) rfl rfl ?_)|refine CallS.call (CallN.rd (q4 (encN 4 g.slack.toNat++rest)) rfl rfl ?_)|refine CallS.call (CallN.rd (q5 rest) rfl rfl ?_));conv=>whnf)
 refine FinAt.asis (ars:=[.agg [I (g.id.toNat:Int),I (g.seg.toNat:Int),I (g.offset.toNat:Int),I (g.acc.toNat:Int),I (g.slack.toNat:Int)]]) [] (RvL.pu rfl) (by simp) (by show 1≤_;simp) rfl ⟨?_,rfl⟩
 rw [Int.toNat_of_nonneg a1,Int.toNat_of_nonneg b1,Int.toNat_of_nonneg c1,Int.toNat_of_nonneg d1,Int.toNat_of_nonneg e1]
 rfl
def encS(s:W.Seg):List Nat:=encN 8 s.length.toNat++(encN 1 s.pieces.length++(s.pieces.flatMap encPiece++(encN 1 s.next.length++s.next.flatMap fun x=>encN 1 x.toNat)))
structure SgB(s:W.Seg):Prop where
 len:0≤s.length∧s.length<9223372036854775808
 pc:∀ p∈s.pieces,PcOk p
 pn:s.pieces.length≤64
 nx:∀ x∈s.next,0≤x∧x<256
 nn:s.next.length≤2
theorem drop_get{α:Type}{l:List α}{k:Nat}(h:k<l.length)(d:α):l.drop k=l.getD k d::l.drop (k+1):=by
 rw [List.drop_eq_getElem_cons h]
 simp [List.getD,h]
theorem segmentV(s:W.Seg)(rest:List Nat)(hs:SgB s) :
  RetO Tryz.prog 78 [.blk [bytesV (encS s++rest),.bool false]] [.own 0 0] (fun r gs'=>r=.agg (sgC s)∧gs'=[.blk [bytesV rest,.bool false]]):=by
 obtain⟨⟨a1,a2⟩,hpc,hpn,hnx,hnn⟩:=hs
 have p8:256 ^ 8=18446744073709551616:=by decide
 unfold encS
 simp only [List.append_assoc]
 have hP:=manyPiece s.pieces (fun k=>(s.pieces.drop k).flatMap encPiece++(encN 1 s.next.length++((s.next.flatMap fun x=>encN 1 x.toNat)++rest))) (fun k hk=>by
  rw [drop_get hk default,List.flatMap_cons,List.append_assoc]
  exact pieceV _ _ (hpc _ (by simp [List.getD,hk]))) (by omega)
 have hN:=manyInt s.next (fun k=>((s.next.drop k).flatMap fun x=>encN 1 x.toNat)++rest) (fun k hk=>by
  have hm:s.next.getD k 0∈s.next:=by simp [List.getD,hk]
  have hb:=hnx _ hm
  have:=nextV (s.next.getD k 0).toNat (((s.next.drop (k+1)).flatMap fun x=>encN 1 x.toNat)++rest) (by omega)
  rw [Int.toNat_of_nonneg hb.1] at this
  rw [drop_get hk 0,List.flatMap_cons,List.append_assoc]
  exact this) (by omega)
 simp only [List.drop_length,List.flatMap_nil,List.nil_append,List.drop_zero] at hP hN
 have q1:=fun rest=>numV 8 s.length.toNat rest (by decide) (by omega) (by omega) 8 rfl
 have q2:=fun rest=>countV 1 s.pieces.length rest (by decide) (by omega) (by omega) 1 64 rfl (by omega)
 have q3:=fun rest=>countV 1 s.next.length rest (by decide) (by omega) (by omega) 1 2 rfl (by omega)
 refine enterO tabOk (N:=20) (gs:=[_]) (args:=[_]) Tryz.func78 rfl rfl rfl (nLe rfl) (fun E hE=>?_)
 conv=>whnf
 repeat' ((first|refine CallS.call (CallN.rd (q1 _) rfl rfl ?_)|refine CallS.call (CallN.rd (q2 _) rfl rfl ?_)|refine CallS.call (CallN.rd (q3 _) rfl rfl ?_)|refine CallS.call (CallN.rdF hP rfl ?_)|refine CallS.call (CallN.rdF hN rfl ?_));conv=>whnf)
 refine FinAt.asis (ars:=[.agg [I (s.length.toNat:Int),pcsV s.pieces,isV s.next]]) [] (RvL.pu rfl) (by simp) (by show 1≤_;simp) rfl ⟨?_,rfl⟩
 rw [Int.toNat_of_nonneg a1]
 rfl
end Y
section
namespace Crc
def bit(b:Bool):V:=if b then 1#16 else 0#16
def astp(r:V)(b:Bool):V:=stp r ^^^ bit b
def left(u:Nat→Bool):Nat→V
 |0=>0
 |k+1=>astp (left u k) (u k)
def reg(m:Nat→Bool):Nat→V
 |0=>65535#16
 |k+1=>stp (reg m k ^^^ (if m k then 32768#16 else 0#16))
def win(m:Nat→Bool)(k:Nat):Nat→V
 |0=>0
 |j+1=>(win m k j <<< 1) ^^^ bit (m (k+j))
theorem bit_get(b:Bool)(i:Nat):(bit b).getLsbD i=(decide (i=0)&&b):=by
 unfold bit
 cases b
 ·simp
 ·by_cases hi:i=0
  ·subst hi;rfl
  ·simp [hi]
theorem win_get(m:Nat→Bool)(k j i:Nat)(hi:i<16):(win m k j).getLsbD i=(decide (i<j)&&m (k+j-1-i)):=by
 induction j generalizing i with
 |zero=>simp [win]
 |succ j ih =>
  rw [win,BitVec.getLsbD_xor,BitVec.getLsbD_shiftLeft,bit_get]
  cases i with
  |zero=>simp
  |succ i =>
   rw [show i+1-1=i by omega,ih i (by omega)]
   simp [show ¬ (i+1<1) by omega,show i+1<16 from hi,show k+(j+1)-1-(i+1)=k+j-1-i by omega]
   rw [show k+j-1-i=k+j-(i+1) by omega]
theorem ext16{x y:V}(h:∀ i,i<16→x.getLsbD i=y.getLsbD i):x=y:=by
 ext i hi
 simpa [BitVec.getLsbD_eq_getElem,hi] using h i hi
theorem win_next(m:Nat→Bool)(k:Nat):win m (k+1) 16=(win m k 16 <<< 1) ^^^ bit (m (k+16)):=by
 apply ext16
 intro i hi
 rw [win_get _ _ _ _ hi,BitVec.getLsbD_xor,BitVec.getLsbD_shiftLeft,bit_get]
 cases i with
 |zero=>simp
 |succ i =>
  rw [show i+1-1=i by omega,win_get _ _ _ _ (by omega)]
  simp [show ¬ (i+1<1) by omega,hi,show i<16 by omega,show k+1+16-1-(i+1)=k+16-1-i by omega]
theorem stp_low(x:V)(h:x.msb=false):stp x=x <<< 1:=by unfold stp;rw [h];rfl
theorem left_first(u:Nat→Bool):∀ j,j≤16→left u j=win u 0 j:=by
 intro j
 induction j with
 |zero=>intro _;rfl
 |succ j ih =>
  intro hj
  rw [left,astp,ih (by omega),win,Nat.zero_add,stp_low]
  rw [BitVec.msb_eq_getLsbD_last,win_get _ _ _ _ (by omega)]
  simp;omega
theorem stp_split(x y:V):stp (x ^^^ y)=stp (x ^^^ (if y.msb then 32768#16 else 0#16)) ^^^ (y <<< 1):=by
 rw [stp_xor,stp_xor,BitVec.xor_assoc]
 congr 1
 have h1:stp 32768#16=P:=by decide
 have h2:stp (0#16)=0#16:=by decide
 unfold stp
 cases hm:y.msb
 ·simp
 ·simp
  show _=(stp 32768#16) ^^^ (y <<< 1)
  rw [h1,BitVec.xor_comm]
theorem win_msb(m:Nat→Bool)(k:Nat):(win m k 16).msb=m k:=by
 rw [BitVec.msb_eq_getLsbD_last,win_get _ _ _ _ (by omega)]
 simp
theorem left_reg(m u:Nat→Bool)(hu:∀ i,u i=if i<16 then !m i else m i):∀ k,left u (16+k)=reg m k ^^^ win m k 16:=by
 intro k
 induction k with
 |zero =>
  rw [left_first u (16+0) (by omega)]
  apply ext16
  intro i hi
  rw [win_get _ _ _ _ hi,BitVec.getLsbD_xor,win_get _ _ _ _ hi,hu]
  have h1:(reg m 0).getLsbD i=true:=by
   show (65535#16).getLsbD i=true
   have:∀ i:Fin 16,(65535#16).getLsbD i.val=true:=by decide
   exact this ⟨i,hi⟩
  rw [h1]
  simp [hi,show 0+(16+0)-1-i<16 by omega]
 |succ k ih =>
  have hu':u (16+k)=m (k+16):=by rw [hu,if_neg (by omega),Nat.add_comm]
  rw [show 16+(k+1)=(16+k)+1 by omega,left,astp,ih,stp_split,win_msb,win_next,hu',reg,BitVec.xor_assoc]
def bitOf(l:List Nat)(k:Nat):Bool:=decide (k<8*l.length)&&(l.getD (k/8) 0).testBit (7-k%8)
theorem win_none(l:List Nat):win (bitOf l) (8*l.length) 16=0:=by
 apply ext16
 intro i hi
 rw [win_get _ _ _ _ hi]
 simp [bitOf]
 intro _ h
 omega
theorem reg_byte(m:Nat→Bool)(k b:Nat)(hb:b<256)(hm:∀ i,i<8→m (k+i)=b.testBit (7-i)):reg m (k+8)=more (reg m k) b:=by
 have key:∀ i,i≤8→stpN i (reg m k ^^^ BitVec.ofNat 16 (b*256))=reg m (k+i) ^^^ (BitVec.ofNat 16 (b*256) <<< i):=by
  intro i
  induction i with
  |zero=>intro _;simp [stpN]
  |succ i ih =>
   intro hi
   rw [stpN_succ,ih (by omega),stp_split,← BitVec.shiftLeft_add]
   have h1:(BitVec.ofNat 16 (b*256) <<< i).msb=m (k+i):=by
    rw [hm i (by omega),BitVec.msb_eq_getLsbD_last,BitVec.getLsbD_shiftLeft,BitVec.getLsbD_ofNat]
    have e:b*256=2 ^ 8*b:=by omega
    rw [e,Nat.testBit_two_pow_mul]
    simp [show ¬ (15<i) by omega,show 15-i<16 by omega,show 8≤15-i by omega,show 15-i-8=7-i by omega]
   rw [h1]
   rfl
 have h8:=key 8 (by omega)
 unfold more
 rw [h8]
 have:BitVec.ofNat 16 (b*256) <<< 8=0:=by
  apply BitVec.eq_of_toNat_eq
  simp [BitVec.toNat_shiftLeft,Nat.shiftLeft_eq]
  omega
 rw [this]
 simp
theorem reg_go(l:List Nat)(hl:∀ x∈l,x<256):∀ j,j≤l.length→reg (bitOf l) (8*j)=sum (l.take j):=by
 intro j
 induction j with
 |zero=>intro _;rfl
 |succ j ih =>
  intro hj
  have hlt:j<l.length:=by omega
  rw [List.take_succ_eq_append_getElem hlt]
  show _=go 65535#16 (l.take j++[l[j]])
  rw [go_snoc]
  show _=more (sum (l.take j)) l[j]
  rw [← ih (by omega),show 8*(j+1)=8*j+8 by omega]
  refine reg_byte _ _ _ (hl _ (List.getElem_mem hlt)) (fun i hi=>?_)
  unfold bitOf
  rw [show (8*j+i)/8=j by omega,show (8*j+i)%8=i by omega]
  simp [List.getD,List.getElem?_eq_getElem hlt]
  omega
theorem left_sum(l:List Nat)(hl:∀ x∈l,x<256)(u:Nat→Bool)(hu:∀ i,u i=if i<16 then !bitOf l i else bitOf l i):left u (8*l.length+16)=sum l:=by
 rw [Nat.add_comm,left_reg (bitOf l) u hu,win_none]
 have:=reg_go l hl l.length (Nat.le_refl _)
 rw [List.take_length] at this
 rw [this]
 simp
end Crc
end
section
open Go.ChangeShapes Go.WideShapes Go.RowKit
theorem v_lt(x:Crc.V):x.toNat<65536:=x.isLt
theorem xor_v(x y:Crc.V):bits .xor .u16 (x.toNat:Int) (y.toNat:Int)=((x ^^^ y).toNat:Int):=by
 rw [u16_xor_nat _ _ (v_lt x) (v_lt y),BitVec.toNat_xor]
theorem and_v(x:Crc.V):(bits .and .u16 (x.toNat:Int) 32768 != 0)=x.msb:=by
 have h:=u16_and_nat x.toNat 32768 (v_lt x) (by omega)
 have e:((32768:Nat):Int)=32768:=rfl
 rw [e] at h
 rw [h,BitVec.msb_eq_getLsbD_last]
 have h2:x.toNat &&& 32768=if x.toNat.testBit 15 then 32768 else 0:=by
  apply Nat.eq_of_testBit_eq
  intro i
  have t:∀ i,Nat.testBit 32768 i=decide (15=i):=fun i=>by rw [show (32768:Nat)=2 ^ 15 by rfl,Nat.testBit_two_pow]
  rw [Nat.testBit_and,t]
  by_cases hi:15=i
  ·subst hi
   cases x.toNat.testBit 15<;>simp [t]
  ·cases x.toNat.testBit 15<;>simp [hi,t]
 rw [h2]
 show _=x.toNat.testBit 15
 cases x.toNat.testBit 15<;>simp
theorem dbl_v(x:Crc.V):IntKind.u16.wrap ((x.toNat:Int)*2)=((x <<< 1).toNat:Int):=by
 rw [IntKind.wrap_u16,BitVec.toNat_shiftLeft,Nat.shiftLeft_eq]
 omega
theorem byte_v(b:Nat)(hb:b<256):((b:Int)*256)=((BitVec.ofNat 16 (b*256)).toNat:Int):=by
 rw [BitVec.toNat_ofNat,Nat.mod_eq_of_lt (by omega)]
 omega
theorem more_any(s:Crc.V)(b:Nat)(w:World)(hb:b<256) :
  Calls Tryz.prog 156 #[.int .u16 s.toNat,.int .u8 b] w fun e w'=>e=.returned (.int .u16 (Crc.more s b).toNat)∧w=w':=by
 have hs:=v_lt s
 go_enter Tryz.func156,Tryz.ntmps156
 go_wp2
 rw [byte_v b hb,xor_v]
 generalize hy:s ^^^ BitVec.ofNat 16 (b*256)=y
 have HY:=Lib.hid hy;clear hy
 go_loop [0,10] (fun s0 i=>∃ (k:Nat),k≤8∧i=.int .i64 k∧s0=.int .u16 (Crc.stpN k y).toNat) (fun _ i=>8-(intOf i).toNat)
 case atStart=>exact⟨0,by omega,rfl,rfl⟩
 case round =>
  obtain⟨k,hk,rfl,rfl⟩:=hrel
  by_cases hlt:k<8
  ·have hstep:=Lib.hid (Crc.stpN_succ k y)
   generalize Crc.stpN k y=x at hstep
   have hx:=v_lt x
   have ha:=and_v x
   have HX:=Lib.hid (xor_v (x <<< 1) Crc.P)
   have HD:=Lib.hid (dbl_v x)
   cases hm:x.msb
   ·rw [hm] at ha
    have HM:=Lib.hid hm;clear hm
    go_wp2
    go_round
    case rel=>exact⟨k+1,by omega,by go_num,by rw [HD.out,hstep.out];unfold Crc.stp;rw [HM.out];rfl⟩
    case measure=>simp [intOf];omega
   ·rw [hm] at ha
    have HM:=Lib.hid hm;clear hm
    go_wp2
    go_round
    case rel=>exact⟨k+1,by omega,by go_num,by rw [HD.out,hstep.out];unfold Crc.stp;rw [HM.out];exact congrArg (Value.int IntKind.u16) HX.out⟩
    case measure=>simp [intOf];omega
  ·obtain rfl:k=8:=by omega
   go_wp2
   go_ret
   exact⟨ret_int (by show _=((Crc.stpN 8 (s ^^^ BitVec.ofNat 16 (b*256))).toNat:Int);rw [HY.out]),rfl⟩
structure RdB(w:World)(a:Option Addr)(l:List Nat):Prop where
 lt:∀ x∈l,x<256
 at_:0<l.length→∃ b off,a=some ⟨b,off,none⟩∧b<w.heap.size∧∀ i,i<l.length→w.cell? ⟨b,off+i,none⟩=some (.int .u8 (l.getD i 0:Nat))
theorem getD_lt256{l:List Nat}(h:∀ x∈l,x<256)(i:Nat):l.getD i 0<256:=by
 rcases Nat.lt_or_ge i l.length with hi|hi
 ·rw [List.getD,List.getElem?_eq_getElem hi];exact h _ (List.getElem_mem hi)
 ·rw [List.getD,List.getElem?_eq_none hi];decide
theorem take_snoc{l:List Nat}{k:Nat}(h:k<l.length):l.take (k+1)=l.take k++[l.getD k 0]:=by
 rw [List.take_succ_eq_append_getElem h,List.getD,List.getElem?_eq_getElem h];rfl
theorem go_any(s:Crc.V)(a:Option Addr)(l:List Nat)(cap:Nat)(w:World)(hl:RdB w a l)(hn:l.length≤1000000000000) :
  Calls Tryz.prog 114 #[.int .u16 s.toNat,.slice a l.length cap] w fun e w'=>e=.returned (.int .u16 (Crc.go s l).toNat)∧w=w':=by
 have HL:=Lib.hid hl;clear hl
 go_enter Tryz.func114,Tryz.ntmps114
 go_wp2
 go_loop [0,9] (fun s0 i=>∃ (k:Nat),k≤l.length∧i=.int .i64 k∧s0=.int .u16 (Crc.go s (l.take k)).toNat) (fun _ i=>l.length-(intOf i).toNat)
 case atStart=>exact⟨0,by omega,rfl,rfl⟩
 case round =>
  obtain⟨k,hk,rfl,rfl⟩:=hrel
  by_cases hlt:k<l.length
  ·obtain⟨b,off,rfl,hb,hc⟩:=HL.out.at_ (by omega)
   have h1:=hc k hlt
   have h2:=getD_lt256 HL.out.lt k
   have HS:=Lib.hid (congrArg (Crc.go s) (take_snoc hlt))
   clear hc
   generalize l.getD k 0=c at h1 h2 HS
   generalize hx:Crc.go s (l.take k)=x
   have HX:=Lib.hid hx;clear hx
   go_wp2_with (go_at_call 156;refine(more_any x c _ h2).mono ?_;rintro e w' ⟨rfl,rfl⟩)
   go_round
   case rel=>exact⟨k+1,by omega,by go_num,by rw [HS.out,Crc.go_snoc,HX.out]⟩
   case measure=>simp [intOf];omega
  ·obtain rfl:k=l.length:=by omega
   go_wp2
   go_ret
   exact⟨rfl,rfl⟩
theorem sum_any(a:Option Addr)(l:List Nat)(cap:Nat)(w:World)(hl:RdB w a l)(hn:l.length≤1000000000000) :
  Calls Tryz.prog 75 #[.slice a l.length cap] w fun e w'=>e=.returned (.int .u16 (Crc.sum l).toNat)∧w=w':=by
 have HL:=Lib.hid hl;clear hl
 go_enter Tryz.func75,Tryz.ntmps75
 go_wp2_with fail
 refine(go_any 65535#16 a l cap _ HL.out hn).mono ?_
 rintro e w' ⟨rfl,rfl⟩
 go_wp2_with fail
 go_ret
 exact⟨rfl,rfl⟩
end
section
open Go.ChangeShapes Go.WideShapes Go.RowKit
def bv(n:Nat):Value:=.int .u8 n
theorem RdB.below{w w':World}{a:Option Addr}{l:List Nat}(h:RdB w a l)(hb:Below w.heap.size w w'):RdB w' a l:=by
 refine⟨h.lt,fun h0=>?_⟩
 obtain⟨b,off,e,hlt,hc⟩:=h.at_ h0
 exact⟨b,off,e,Nat.lt_of_lt_of_le hlt hb.size,fun i hi=>(hb.cell (p:=⟨b,off+i,none⟩) hlt).trans (hc i hi)⟩
theorem RdB.take{w:World}{a:Option Addr}{l:List Nat}(h:RdB w a l)(n:Nat):RdB w a (l.take n):=by
 refine⟨fun x hx=>h.lt x (List.mem_of_mem_take hx),fun h0=>?_⟩
 have hl:0<l.length:=by rw [List.length_take] at h0;omega
 obtain⟨b,off,e,hlt,hc⟩:=h.at_ hl
 refine⟨b,off,e,hlt,fun i hi=>?_⟩
 rw [List.length_take] at hi
 rw [hc i (by omega)]
 simp [List.getD,List.getElem?_take,show i<n by omega]
structure Own(w:World)(base:Nat)(A:Option Addr)(c:Nat)(l:List Nat):Prop where
 row:w.ownsRow base 5 1 (.slice A l.length c) l.length (l.map bv)
 lt:∀ x∈l,x<256
theorem Own.lit(w:World)(l:List Nat)(hl:∀ x∈l,x<256)(hm:l.length≤maxLen):Own (w.alloc (.cells (l.map bv).toArray 5)) w.heap.size (some ⟨w.heap.size,0,none⟩) l.length l:=by
 refine⟨⟨by simp,.inr ⟨w.heap.size,l.length,_,rfl,Nat.le_refl _,heap_alloc_new w _,Nat.le_refl _,hm,by simp,?_⟩⟩,hl⟩
 simp only [Nat.mul_one]
 exact List.take_of_length_le (by simp)
end
section
open Go.ChangeShapes Go.WideShapes Go.RowKit
end
section
open Go.ChangeShapes Go.WideShapes Go.RowKit Go.Sort
theorem size_any(k:Int)(w:World):Calls Tryz.prog 172 #[.int .i64 k] w fun e w'=>e=.returned (.int .i64 (Fr.sz k:Int))∧w=w':=by
 go_enter Tryz.func172,Tryz.ntmps172
 rcases Fr.sz_cases k with ⟨e,h⟩|⟨e,rfl|rfl|rfl⟩|⟨e,rfl|rfl⟩
 ·have h1:(k==1)=false:=by simp;omega
  have h2:(k==2)=false:=by simp;omega
  have h3:(k==5)=false:=by simp;omega
  have h4:(k==3)=false:=by simp;omega
  have h5:(k==4)=false:=by simp;omega
  have E:=Lib.hid e;clear e h
  go_wp2
  go_ret
  exact⟨by rw [E.out];rfl,rfl⟩
 all_goals
  clear e
  go_wp2
  go_ret
  exact⟨rfl,rfl⟩
theorem signed_yes(k:Int)(w:World)(h:k=3∨k=4):Calls Tryz.prog 173 #[.int .i64 k] w fun e w'=>e=.returned (.bool true)∧w=w':=by
 go_enter Tryz.func173,Tryz.ntmps173
 rcases h with rfl|rfl
 all_goals
  go_wp2
  go_ret
  exact⟨rfl,rfl⟩
theorem signed_no(k:Int)(w:World)(h:¬ (k=3∨k=4)):Calls Tryz.prog 173 #[.int .i64 k] w fun e w'=>e=.returned (.bool false)∧w=w':=by
 have h4:(k==3)=false:=by simp;omega
 have h5:(k==4)=false:=by simp;omega
 clear h
 go_enter Tryz.func173,Tryz.ntmps173
 go_wp2
 go_ret
 exact⟨rfl,rfl⟩
end
section
open Go.ChangeShapes Go.WideShapes Go.RowKit Go.Sort
def gv(g:Fr.G):Value:=.tuple #[.agg #[.int .i64 g.kind,.int .i64 g.seq,.int .i64 g.value],.int .i64 g.err]
theorem get_short(a:Option Addr)(l:List Nat)(c:Nat)(w:World)(ha:RdB w a l)(h:l.length<5) :
  Calls Tryz.prog 123 #[.slice a l.length c] w fun e w'=>e=.returned (gv (Fr.get l))∧Below w.heap.size w w':=by
 have hg:Fr.get l=⟨0,0,0,14⟩:=by unfold Fr.get;rw [if_pos h]
 rw [hg]
 clear hg
 go_enter Tryz.func123,Tryz.ntmps123
 go_wp2_with fail
 exact bodyPost_ret (v:=gv ⟨0,0,0,14⟩) (by simp [results,Tryz.results123,go_sem,gv]) rfl ⟨rfl,bself _ _⟩
theorem get_kind(a:Option Addr)(l:List Nat)(c:Nat)(w:World)(ha:RdB w a l)(h:5≤l.length)(hm:l.length≤1000000)(hk:Fr.sz (l.getD 0 0)=0) :
  Calls Tryz.prog 123 #[.slice a l.length c] w fun e w'=>e=.returned (gv (Fr.get l))∧Below w.heap.size w w':=by
 have hg:Fr.get l=⟨0,0,0,30⟩:=by unfold Fr.get;rw [if_neg (by omega),if_pos hk]
 rw [hg]
 clear hg
 obtain⟨b,off,rfl,hbl,hcell⟩:=ha.at_ (by omega)
 have hc0:=hcell 0 (by omega)
 rw [Nat.add_zero] at hc0
 have hS:∀ w,Calls Tryz.prog 172 #[.int .i64 ((l.getD 0 0:Nat):Int)] w fun e w'=>e=.returned (.int .i64 0)∧w=w':=fun w=>by
  have:=size_any ((l.getD 0 0:Nat):Int) w
  rw [hk] at this
  exact this
 have hlt:=getD_lt256 ha.lt 0
 generalize l.getD 0 0=k at hc0 hS hlt
 have HS:=Lib.hid hS;clear hS hcell hk ha
 go_enter Tryz.func123,Tryz.ntmps123
 go_wp2_with ((go_at_call 172;refine(HS.out _).mono ?_;rintro e w' ⟨rfl,rfl⟩))
 exact bodyPost_ret (v:=gv ⟨0,0,0,30⟩) (by simp [results,Tryz.results123,go_sem,gv]) rfl ⟨rfl,bself _ _⟩
theorem get_form(a:Option Addr)(l:List Nat)(c:Nat)(w:World)(ha:RdB w a l)(h:5≤l.length)(hm:l.length≤1000000)(hk:Fr.sz (l.getD 0 0)≠0)(hf:l.getD 2 0≠Fr.sz (l.getD 0 0)∨l.length≠5+Fr.sz (l.getD 0 0)) :
  Calls Tryz.prog 123 #[.slice a l.length c] w fun e w'=>e=.returned (gv (Fr.get l))∧Below w.heap.size w w':=by
 have hg:Fr.get l=⟨0,0,0,11⟩:=by unfold Fr.get;rw [if_neg (by omega),if_neg hk,if_pos hf]
 rw [hg]
 clear hg
 obtain⟨b,off,rfl,hbl,hcell⟩:=ha.at_ (by omega)
 have hc0:=hcell 0 (by omega)
 have hc2:=hcell 2 (by omega)
 rw [Nat.add_zero] at hc0
 have hS:∀ w,Calls Tryz.prog 172 #[.int .i64 ((l.getD 0 0:Nat):Int)] w fun e w'=>e=.returned (.int .i64 (Fr.sz ((l.getD 0 0:Nat):Int):Int))∧w=w':=fun w=>size_any _ w
 have hn:Fr.sz ((l.getD 0 0:Nat):Int)≤4:=by rcases Fr.sz_cases ((l.getD 0 0:Nat):Int) with h|h|h<;>omega
 have hlt:=getD_lt256 ha.lt 0
 have hlt2:=getD_lt256 ha.lt 2
 generalize Fr.sz ((l.getD 0 0:Nat):Int)=n at hS hn hk hf
 generalize l.getD 0 0=k at hc0 hS hlt
 generalize l.getD 2 0=m at hc2 hlt2 hf
 have hn0:((n:Int)==0)=false:=by simp;omega
 have HS:=Lib.hid hS;clear hS hcell hk ha
 by_cases h2:m=n
 ·have d1:((m:Int) != (n:Int))=false:=by simp;omega
  have d2:((l.length:Int) != 3+(n:Int)+2)=true:=by simp;omega
  clear hf h2
  go_enter Tryz.func123,Tryz.ntmps123
  go_wp2_with ((go_at_call 172;refine(HS.out _).mono ?_;rintro e w' ⟨rfl,rfl⟩))
  exact bodyPost_ret (v:=gv ⟨0,0,0,11⟩) (by simp [results,Tryz.results123,go_sem,gv]) rfl ⟨rfl,bself _ _⟩
 ·have d1:((m:Int) != (n:Int))=true:=by simp;omega
  clear hf h2
  go_enter Tryz.func123,Tryz.ntmps123
  go_wp2_with ((go_at_call 172;refine(HS.out _).mono ?_;rintro e w' ⟨rfl,rfl⟩))
  exact bodyPost_ret (v:=gv ⟨0,0,0,11⟩) (by simp [results,Tryz.results123,go_sem,gv]) rfl ⟨rfl,bself _ _⟩
end
section
open Go.ChangeShapes Go.WideShapes Go.RowKit Go.Sort
theorem get_sum(a:Option Addr)(l:List Nat)(c:Nat)(w:World)(ha:RdB w a l)(h:5≤l.length)(hm:l.length≤1000000)(hk:Fr.sz (l.getD 0 0)≠0)(hf:¬ (l.getD 2 0≠Fr.sz (l.getD 0 0)∨l.length≠5+Fr.sz (l.getD 0 0)))(hs:Crc.sum l≠0) :
  Calls Tryz.prog 123 #[.slice a l.length c] w fun e w'=>e=.returned (gv (Fr.get l))∧Below w.heap.size w w':=by
 have hg:Fr.get l=⟨0,0,0,31⟩:=by unfold Fr.get;rw [if_neg (by omega),if_neg hk,if_neg hf,if_pos hs]
 rw [hg]
 clear hg
 have HA:=Lib.hid ha
 obtain⟨b,off,rfl,hbl,hcell⟩:=ha.at_ (by omega)
 have hc0:=hcell 0 (by omega)
 have hc2:=hcell 2 (by omega)
 rw [Nat.add_zero] at hc0
 have hS:∀ w,Calls Tryz.prog 172 #[.int .i64 ((l.getD 0 0:Nat):Int)] w fun e w'=>e=.returned (.int .i64 (Fr.sz ((l.getD 0 0:Nat):Int):Int))∧w=w':=fun w=>size_any _ w
 have hn:Fr.sz ((l.getD 0 0:Nat):Int)≤4:=by rcases Fr.sz_cases ((l.getD 0 0:Nat):Int) with h|h|h<;>omega
 have hlt:=getD_lt256 ha.lt 0
 have hlt2:=getD_lt256 ha.lt 2
 generalize Fr.sz ((l.getD 0 0:Nat):Int)=n at hS hn hk hf
 generalize l.getD 0 0=k at hc0 hS hlt
 generalize l.getD 2 0=m at hc2 hlt2 hf
 have hn0:((n:Int)==0)=false:=by simp;omega
 have d1:((m:Int) != (n:Int))=false:=by simp;omega
 have d2:((l.length:Int) != 3+(n:Int)+2)=false:=by simp;omega
 have d3:(((Crc.sum l).toNat:Int) != 0)=true:=by
  rw [bne_iff_ne]
  intro h
  apply hs
  apply BitVec.eq_of_toNat_eq
  simpa using h
 have HS:=Lib.hid hS;clear hS hcell hk ha hf hs
 go_enter Tryz.func123,Tryz.ntmps123
 go_wp2_with ((go_at_call 172;refine(HS.out _).mono ?_;rintro e w' ⟨rfl,rfl⟩))
 refine(sum_any _ l c _ (HA.out.below (bself _ _)) (by omega)).mono ?_
 rintro e w' ⟨rfl,rfl⟩
 go_wp2_with fail
 exact bodyPost_ret (v:=gv ⟨0,0,0,31⟩) (by simp [results,Tryz.results123,go_sem,gv]) rfl ⟨rfl,bself _ _⟩
theorem Fr.val_lt(l:List Nat)(hl:∀ x∈l,x<256):Fr.val l<256 ^ l.length:=by
 suffices H:∀ (l:List Nat) (a:Nat),(∀ x∈l,x<256)→l.foldl (fun v c=>v*256+c) a<(a+1)*256 ^ l.length by
  have:=H l 0 hl
  simpa [Fr.val] using this
 intro l
 induction l with
 |nil=>intro a _;simp
 |cons x l ih =>
  intro a h
  have h1:=ih (a*256+x) (fun y hy=>h y (List.mem_cons_of_mem _ hy))
  have hx:=h x (List.mem_cons_self ..)
  rw [List.foldl_cons,List.length_cons,Nat.pow_succ]
  calc _<(a*256+x+1)*256 ^ l.length:=h1
   _≤((a+1)*256)*256 ^ l.length:=Nat.mul_le_mul_right _ (by omega)
   _=_:=by rw [Nat.mul_assoc,Nat.mul_comm 256]
theorem or_byte(u c:Nat)(hc:c<256):u*256 ||| c=u*256+c:=by
 have:=Nat.two_pow_add_eq_or_of_lt (i:=8) (b:=c) (by simpa using hc) u
 rw [show (2:Nat) ^ 8=256 by rfl] at this
 rw [Nat.mul_comm,this]
theorem get_ok2(a:Option Addr)(l:List Nat)(c:Nat)(w:World)(ha:RdB w a l)(hcl:l.length≤c)(hcm:c≤maxLen)(h:l.length=5+2)(hk:Fr.sz (l.getD 0 0)=2)(hf:l.getD 2 0=2)(hs:Crc.sum l=0) :
  Calls Tryz.prog 123 #[.slice a l.length c] w fun e w'=>e=.returned (gv (Fr.get l))∧Below w.heap.size w w':=by
 have hg:Fr.get l=⟨l.getD 0 0,l.getD 1 0,Fr.sgn 2 (Fr.val ((l.drop 3).take 2)),0⟩:=by
  unfold Fr.get;rw [if_neg (by omega),hk,if_neg (by omega),if_neg (by omega),if_neg (by simp [hs])]
 rw [hg]
 clear hg
 have hkk:(l.getD 0 0=1∨l.getD 0 0=2∨l.getD 0 0=5)∨(l.getD 0 0=3∨l.getD 0 0=4):=by
  rcases Fr.sz_cases ((l.getD 0 0:Nat):Int) with h|h|h<;>omega
 have hkn:l.getD 0 0=1∨l.getD 0 0=2∨l.getD 0 0=5:=by
  rcases Fr.sz_cases ((l.getD 0 0:Nat):Int) with h|h|h<;>omega
 clear hkk
 have HA:=Lib.hid ha
 obtain⟨b,off,rfl,hbl,hcell⟩:=ha.at_ (by omega)
 have HCell:=Lib.hid hcell
 have hc0:=hcell 0 (by omega)
 have hc1:=hcell 1 (by omega)
 have hc2:=hcell 2 (by omega)
 rw [Nat.add_zero] at hc0
 rw [hf] at hc2
 have hS:∀ w,Calls Tryz.prog 172 #[.int .i64 ((l.getD 0 0:Nat):Int)] w fun e w'=>e=.returned (.int .i64 2)∧w=w':=fun w=>by
  have:=size_any ((l.getD 0 0:Nat):Int) w
  rw [hk] at this
  exact this
 have hlt:=getD_lt256 ha.lt 0
 have hlt1:=getD_lt256 ha.lt 1
 have hltd:∀ x∈(l.drop 3).take 2,x<256:=fun x hx=>ha.lt x (List.mem_of_mem_drop (List.mem_of_mem_take hx))
 have hvl:=Fr.val_lt ((l.drop 3).take 2) hltd
 rw [show ((l.drop 3).take 2).length=2 by rw [List.length_take,List.length_drop];omega] at hvl
 have HVL:=Lib.hid hvl;clear hvl
 clear hk
 generalize l.getD 0 0=k at hc0 hS hlt hkn
 generalize l.getD 1 0=q at hc1 hlt1
 have e0:(Crc.sum l).toNat=0:=by rw [hs];rfl
 have h':(l.length:Int)=5+2:=by omega
 have hlen:=Lib.hid h
 have d2:((l.length:Int) != 7)=false:=by simp;omega
 have HS:=Lib.hid hS
 have HSum:=Lib.hid e0
 have hcm':=hcm
 clear hS hcell ha hf hs h h' e0
 have hl5:5≤l.length:=by have:=hlen.out;omega
 have hlu:l.length≤7:=by have:=hlen.out;omega
 have hlu2:7≤l.length:=by have:=hlen.out;omega
 go_enter Tryz.func123,Tryz.ntmps123
 go_wp2_with ((go_at_call 172;refine(HS.out _).mono ?_;rintro e w' ⟨rfl,rfl⟩))
 refine(sum_any _ l c _ (HA.out.below (bself _ _)) (by omega)).mono ?_
 rintro e w' ⟨rfl,rfl⟩
 rw [HSum.out]
 go_wp2_with fail
 go_loopg [6,50] 2 (fun r s6 s50 wr=>∃ (i u:Nat),Hid (i+r=2)∧i≤2∧s50=.int .i64 i∧s6=.int .u32 u∧Hid (u=Fr.val ((l.drop 3).take i))∧wr=w.alloc (.cells #[.int .i64 0,.int .i64 0,.int .i64 0] 247))
 case atStart=>exact⟨0,0,by simp [Hid],by omega,rfl,rfl,by simp [Hid,Fr.val],rfl⟩
 case round =>
  obtain⟨i,u,hi,hin,rfl,rfl,HU,rfl⟩:=hrel
  by_cases hlt':i<2
  ·have hx:=HCell.out (3+i) (by omega)
   have hx2:(w.alloc (.cells #[.int .i64 0,.int .i64 0,.int .i64 0] 247)).cell? ⟨b,off+3+i,none⟩=some (.int .u8 (l.getD (3+i) 0:Nat)):=by
    rw [World.cell?_alloc_lt _ _ _ (by simpa using hbl),Nat.add_assoc]
    exact hx
   have lx:=getD_lt256 HA.out.lt (3+i)
   have hsn:(l.drop 3).take (i+1)=(l.drop 3).take i++[l.getD (3+i) 0]:=by
    rw [take_snoc (by rw [List.length_drop];omega)]
    congr 2
    simp [List.getD,List.getElem?_drop]
   have HSN:=Lib.hid hsn;clear hsn hx
   have hub:u<16777216:=by
    have h1:=Fr.val_lt ((l.drop 3).take i) (fun x hx=>HA.out.lt x (List.mem_of_mem_drop (List.mem_of_mem_take hx)))
    rw [← show u=_ from HU.out] at h1
    have h2:((l.drop 3).take i).length≤3:=by rw [List.length_take];omega
    have h3:256 ^ ((l.drop 3).take i).length≤256 ^ 3:=Nat.pow_le_pow_right (by omega) h2
    omega
   generalize l.getD (3+i) 0=x at hx2 lx HSN
   obtain⟨u',hu'⟩:∃ u':Nat,u'=u*256+x:=⟨_,rfl⟩
   have e1:bits .or .u32 ((u:Int)*256) (x:Int)=(u':Int):=by
    have h1:=u32_or_nat (u*256) x (by omega) (by omega)
    rw [or_byte u x lx,← hu'] at h1
    rw [← h1]
    congr 1
   have HU':=Lib.hid hu';clear hu'
   go_wp2_with fail
   go_roundg (gk-1)
   case measure=>have:=hi.out;omega
   case rel =>
    refine⟨i+1,u',show i+1+(gk-1)=2 by have:=hi.out;omega,by omega,by go_num,rfl,?_,rfl⟩
    show u'=_
    rw [HSN.out,Fr.val_snoc,← show u=_ from HU.out]
    exact HU'.out
  ·obtain rfl:i=2:=by omega
   have hub:u<65536:=by rw [show u=_ from HU.out];exact HVL.out
   have hub':(u:Int)<65536:=by omega
   clear hub
   have hsg:Fr.sgn 2 (Fr.val ((l.drop 3).take 2))=(u:Int):=by
    rw [← show u=_ from HU.out]
    unfold Fr.sgn
    rw [if_neg (by omega)]
   have HSG:=Lib.hid hsg;clear hsg
   go_wp2_with ((go_at_call 173;refine(signed_no (k:Int) _ (by omega)).mono ?_;rintro e w' ⟨rfl,rfl⟩))
   exact bodyPost_ret (v:=gv ⟨k,q,(u:Int),0⟩) (by simp [results,Tryz.results123,go_sem,gv]) rfl ⟨by rw [HSG.out],bself2 _ _ _⟩
theorem get_ok4(a:Option Addr)(l:List Nat)(c:Nat)(w:World)(ha:RdB w a l)(hcl:l.length≤c)(hcm:c≤maxLen)(h:l.length=5+4)(hk:Fr.sz (l.getD 0 0)=4)(hf:l.getD 2 0=4)(hs:Crc.sum l=0) :
  Calls Tryz.prog 123 #[.slice a l.length c] w fun e w'=>e=.returned (gv (Fr.get l))∧Below w.heap.size w w':=by
 have hg:Fr.get l=⟨l.getD 0 0,l.getD 1 0,Fr.sgn 4 (Fr.val ((l.drop 3).take 4)),0⟩:=by
  unfold Fr.get;rw [if_neg (by omega),hk,if_neg (by omega),if_neg (by omega),if_neg (by simp [hs])]
 rw [hg]
 clear hg
 have hkk:(l.getD 0 0=1∨l.getD 0 0=2∨l.getD 0 0=5)∨(l.getD 0 0=3∨l.getD 0 0=4):=by
  rcases Fr.sz_cases ((l.getD 0 0:Nat):Int) with h|h|h<;>omega
 have hkn:l.getD 0 0=3∨l.getD 0 0=4:=by
  rcases Fr.sz_cases ((l.getD 0 0:Nat):Int) with h|h|h<;>omega
 clear hkk
 have HA:=Lib.hid ha
 obtain⟨b,off,rfl,hbl,hcell⟩:=ha.at_ (by omega)
 have HCell:=Lib.hid hcell
 have hc0:=hcell 0 (by omega)
 have hc1:=hcell 1 (by omega)
 have hc2:=hcell 2 (by omega)
 rw [Nat.add_zero] at hc0
 rw [hf] at hc2
 have hS:∀ w,Calls Tryz.prog 172 #[.int .i64 ((l.getD 0 0:Nat):Int)] w fun e w'=>e=.returned (.int .i64 4)∧w=w':=fun w=>by
  have:=size_any ((l.getD 0 0:Nat):Int) w
  rw [hk] at this
  exact this
 have hlt:=getD_lt256 ha.lt 0
 have hlt1:=getD_lt256 ha.lt 1
 have hltd:∀ x∈(l.drop 3).take 4,x<256:=fun x hx=>ha.lt x (List.mem_of_mem_drop (List.mem_of_mem_take hx))
 have hvl:=Fr.val_lt ((l.drop 3).take 4) hltd
 rw [show ((l.drop 3).take 4).length=4 by rw [List.length_take,List.length_drop];omega] at hvl
 have HVL:=Lib.hid hvl;clear hvl
 clear hk
 generalize l.getD 0 0=k at hc0 hS hlt hkn
 generalize l.getD 1 0=q at hc1 hlt1
 have e0:(Crc.sum l).toNat=0:=by rw [hs];rfl
 have h':(l.length:Int)=5+4:=by omega
 have hlen:=Lib.hid h
 have d2:((l.length:Int) != 9)=false:=by simp;omega
 have HS:=Lib.hid hS
 have HSum:=Lib.hid e0
 have hcm':=hcm
 clear hS hcell ha hf hs h h' e0
 have hl5:5≤l.length:=by have:=hlen.out;omega
 have hlu:l.length≤9:=by have:=hlen.out;omega
 have hlu2:9≤l.length:=by have:=hlen.out;omega
 go_enter Tryz.func123,Tryz.ntmps123
 go_wp2_with ((go_at_call 172;refine(HS.out _).mono ?_;rintro e w' ⟨rfl,rfl⟩))
 refine(sum_any _ l c _ (HA.out.below (bself _ _)) (by omega)).mono ?_
 rintro e w' ⟨rfl,rfl⟩
 rw [HSum.out]
 go_wp2_with fail
 go_loopg [6,50] 4 (fun r s6 s50 wr=>∃ (i u:Nat),Hid (i+r=4)∧i≤4∧s50=.int .i64 i∧s6=.int .u32 u∧Hid (u=Fr.val ((l.drop 3).take i))∧wr=w.alloc (.cells #[.int .i64 0,.int .i64 0,.int .i64 0] 247))
 case atStart=>exact⟨0,0,by simp [Hid],by omega,rfl,rfl,by simp [Hid,Fr.val],rfl⟩
 case round =>
  obtain⟨i,u,hi,hin,rfl,rfl,HU,rfl⟩:=hrel
  by_cases hlt':i<4
  ·have hx:=HCell.out (3+i) (by omega)
   have hx2:(w.alloc (.cells #[.int .i64 0,.int .i64 0,.int .i64 0] 247)).cell? ⟨b,off+3+i,none⟩=some (.int .u8 (l.getD (3+i) 0:Nat)):=by
    rw [World.cell?_alloc_lt _ _ _ (by simpa using hbl),Nat.add_assoc]
    exact hx
   have lx:=getD_lt256 HA.out.lt (3+i)
   have hsn:(l.drop 3).take (i+1)=(l.drop 3).take i++[l.getD (3+i) 0]:=by
    rw [take_snoc (by rw [List.length_drop];omega)]
    congr 2
    simp [List.getD,List.getElem?_drop]
   have HSN:=Lib.hid hsn;clear hsn hx
   have hub:u<16777216:=by
    have h1:=Fr.val_lt ((l.drop 3).take i) (fun x hx=>HA.out.lt x (List.mem_of_mem_drop (List.mem_of_mem_take hx)))
    rw [← show u=_ from HU.out] at h1
    have h2:((l.drop 3).take i).length≤3:=by rw [List.length_take];omega
    have h3:256 ^ ((l.drop 3).take i).length≤256 ^ 3:=Nat.pow_le_pow_right (by omega) h2
    omega
   generalize l.getD (3+i) 0=x at hx2 lx HSN
   obtain⟨u',hu'⟩:∃ u':Nat,u'=u*256+x:=⟨_,rfl⟩
   have e1:bits .or .u32 ((u:Int)*256) (x:Int)=(u':Int):=by
    have h1:=u32_or_nat (u*256) x (by omega) (by omega)
    rw [or_byte u x lx,← hu'] at h1
    rw [← h1]
    congr 1
   have HU':=Lib.hid hu';clear hu'
   go_wp2_with fail
   go_roundg (gk-1)
   case measure=>have:=hi.out;omega
   case rel =>
    refine⟨i+1,u',show i+1+(gk-1)=4 by have:=hi.out;omega,by omega,by go_num,rfl,?_,rfl⟩
    show u'=_
    rw [HSN.out,Fr.val_snoc,← show u=_ from HU.out]
    exact HU'.out
  ·obtain rfl:i=4:=by omega
   have hub:u<4294967296:=by rw [show u=_ from HU.out];exact HVL.out
   have hub':(u:Int)<4294967296:=by omega
   clear hub
   have hsg:Fr.sgn 4 (Fr.val ((l.drop 3).take 4))=(wrap32 (u:Int)):=by
    rw [← show u=_ from HU.out]
    unfold Fr.sgn wrap32
    simp only [true_and];split<;>omega
   have HSG:=Lib.hid hsg;clear hsg
   go_wp2_with ((go_at_call 173;refine(signed_yes (k:Int) _ (by omega)).mono ?_;rintro e w' ⟨rfl,rfl⟩))
   exact bodyPost_ret (v:=gv ⟨k,q,(wrap32 (u:Int)),0⟩) (by simp [results,Tryz.results123,go_sem,gv];unfold wrap64 wrap32;omega) rfl ⟨by rw [HSG.out],bself2 _ _ _⟩
theorem get_any(a:Option Addr)(l:List Nat)(c:Nat)(w:World)(ha:RdB w a l)(hcl:l.length≤c)(hcm:c≤maxLen)(hm:l.length≤1000000) :
  Calls Tryz.prog 123 #[.slice a l.length c] w fun e w'=>e=.returned (gv (Fr.get l))∧Below w.heap.size w w':=by
 by_cases h:l.length<5
 ·exact get_short a l c w ha h
 by_cases hk:Fr.sz (l.getD 0 0)=0
 ·exact get_kind a l c w ha (by omega) hm hk
 by_cases hf:l.getD 2 0≠Fr.sz (l.getD 0 0)∨l.length≠5+Fr.sz (l.getD 0 0)
 ·exact get_form a l c w ha (by omega) hm hk hf
 by_cases hs:Crc.sum l=0
 ·have hf':l.getD 2 0=Fr.sz (l.getD 0 0)∧l.length=5+Fr.sz (l.getD 0 0):=by omega
  rcases Fr.sz_cases ((l.getD 0 0:Nat):Int) with h2|h2|h2
  ·exact absurd h2.1 hk
  ·exact get_ok2 a l c w ha hcl hcm (by omega) h2.1 (by omega) hs
  ·exact get_ok4 a l c w ha hcl hcm (by omega) h2.1 (by omega) hs
 ·exact get_sum a l c w ha (by omega) hm hk hf hs
end
section
open Go.ChangeShapes Go.WideShapes Go.RowKit
namespace Crc
theorem mod_next(n k:Nat):n%2 ^ (k+1)=n%2 ^ k+(if n/2 ^ k%2=1 then 2 ^ k else 0):=by
 rw [Nat.pow_succ,Nat.mod_mul]
 split
 ·rename_i h;rw [h,Nat.mul_one]
 ·rename_i h;rw [show n/2 ^ k%2=0 by omega,Nat.mul_zero]
theorem bit_next(a b k:Nat):(a ^^^ b)/2 ^ k%2=1↔a/2 ^ k%2≠b/2 ^ k%2:=by
 have h:∀ n:Nat,n/2 ^ k%2=1↔n.testBit k=true:=fun n=>by rw [Nat.testBit_eq_decide_div_mod_eq];simp
 have ha:=h a
 have hb:=h b
 rw [h,Nat.testBit_xor]
 cases hta:a.testBit k<;>cases htb:b.testBit k<;>simp [hta,htb] at ha hb ⊢ <;> omega
end Crc
theorem xor_any(a b:Nat)(w:World)(ha:a<65536)(hb:b<65536) :
  Calls Tryz.prog 87 #[.int .i64 a,.int .i64 b] w fun e w'=>e=.returned (.int .i64 ((a ^^^ b:Nat):Int))∧∃ n,w'=w.drewN n:=by
 go_enter Tryz.func87,Tryz.ntmps87
 go_wp2
 go_loopg [5,6,7] 16 (fun n s5 s6 s7 wr=>∃ (k out part:Nat),k+n=16∧s7=.int .i64 k∧s5=.int .i64 out∧s6=.int .i64 part∧1≤part∧part≤65536∧out≤65536∧Hid (out=(a ^^^ b)%2 ^ k∧part=2 ^ k)∧∃ m,wr=w.drewN m)
 case atStart=>exact⟨0,0,1,by omega,rfl,rfl,rfl,by omega,by omega,by omega,⟨by simp [Nat.mod_one],rfl⟩,0,rfl⟩
 case round =>
  obtain⟨k,out,part,hk,rfl,rfl,rfl,hp,hp',ho,H,m,rfl⟩:=hrel
  have HK:=Lib.hid hk
  by_cases hlt:k<16
  ·have hle:k≤16:=by omega
   clear hk
   obtain⟨qa,hqa⟩:∃ q:Nat,q=a/part:=⟨_,rfl⟩
   obtain⟨qb,hqb⟩:∃ q:Nat,q=b/part:=⟨_,rfl⟩
   have la:qa≤a:=by rw [hqa];exact Nat.div_le_self _ _
   have lb:qb≤b:=by rw [hqb];exact Nat.div_le_self _ _
   have e1:wrap64 ((a:Int)/(part:Int))=(qa:Int):=by
    have:(a:Int)/(part:Int)=(qa:Int):=by rw [hqa];exact(Int.natCast_ediv a part).symm
    rw [this];exact IntWalk.wrap64_in _ (by omega)
   have e2:wrap64 ((b:Int)/(part:Int))=(qb:Int):=by
    have:(b:Int)/(part:Int)=(qb:Int):=by rw [hqb];exact(Int.natCast_ediv b part).symm
    rw [this];exact IntWalk.wrap64_in _ (by omega)
   have HQ:=Lib.hid (And.intro hqa hqb);clear hqa hqb
   by_cases hd:qa%2=qb%2
   ·have HDn:=Lib.hid hd
    have ht:((qa:Int)%2 != (qb:Int)%2)=false:=by simp;omega
    clear hd
    go_wp2_with fail
    go_quiet (fail)
    go_wp2_with fail
    go_roundg (gk-1)
    case measure=>have:=HK.out;omega
    case rel =>
     have h1:=HK.out
     have h2:=HQ.out
     have h3:=HDn.out
     have hpk:=H.out.2
     have hbit:=Crc.bit_next a b k
     rw [← hpk,← h2.1,← h2.2] at hbit
     refine⟨k+1,out,2*part,by omega,by go_num,rfl,by go_num,by omega,?_,by omega,⟨?_,?_⟩,?_⟩
     ·rw [hpk,show 65536=2*2 ^ 15 by rfl]
      exact Nat.mul_le_mul_left _ (Nat.pow_le_pow_right (by omega) (by omega))
     ·rw [Crc.mod_next,← hpk,if_neg (by rw [hbit];omega),Nat.add_zero,hpk]
      exact H.out.1
     ·rw [Nat.pow_succ,hpk,Nat.mul_comm]
     ·exact⟨m+nq,by first|rfl|simp [World.drewN_drewN]⟩
   ·have HDn:=Lib.hid hd
    have ht:((qa:Int)%2 != (qb:Int)%2)=true:=by simp;omega
    clear hd
    go_wp2_with fail
    go_quiet (fail)
    go_wp2_with fail
    go_roundg (gk-1)
    case measure=>have:=HK.out;omega
    case rel =>
     have h1:=HK.out
     have h2:=HQ.out
     have h3:=HDn.out
     have hpk:=H.out.2
     have hbit:=Crc.bit_next a b k
     rw [← hpk,← h2.1,← h2.2] at hbit
     refine⟨k+1,out+part,2*part,by omega,by go_num,by go_num,by go_num,by omega,?_,?_,⟨?_,?_⟩,?_⟩
     ·rw [hpk,show 65536=2*2 ^ 15 by rfl]
      exact Nat.mul_le_mul_left _ (Nat.pow_le_pow_right (by omega) (by omega))
     ·have hb1:part≤2 ^ 15:=by rw [hpk];exact Nat.pow_le_pow_right (by omega) (by omega)
      have hb2:out<part:=by rw [show out=_ from H.out.1,hpk];exact Nat.mod_lt _ (Nat.two_pow_pos k)
      omega
     ·rw [Crc.mod_next,← hpk,if_pos (by rw [hbit];omega)]
      rw [← show out=(a ^^^ b)%part from by rw [hpk];exact H.out.1]
     ·rw [Nat.pow_succ,hpk,Nat.mul_comm]
     ·exact⟨m+nq,by first|rfl|simp [World.drewN_drewN]⟩
  ·obtain rfl:k=16:=by omega
   go_wp2_with fail
   go_ret
   refine⟨ret_int ?_,m,rfl⟩
   rw [show out=_ from H.out.1]
   rw [Nat.mod_eq_of_lt]
   exact Nat.xor_lt_two_pow ha hb
end
section
open Go.ChangeShapes Go.WideShapes Go.RowKit
namespace Crc
def inBit(l:List Nat)(i:Nat):Bool:=if i<16 then !bitOf l i else bitOf l i
def num(b:Bool):Nat:=if b then 1 else 0
theorem even_xor(x:Nat)(b:Bool):2*x ^^^ num b=2*x+num b:=by
 cases b
 ·simp [num]
 ·have h:=Nat.two_pow_add_eq_or_of_lt (i:=1) (b:=1) (by decide) x
  rw [show (2:Nat) ^ 1=2 by rfl] at h
  show 2*x ^^^ 1=2*x+1
  rw [h]
  apply Nat.eq_of_testBit_eq
  intro i
  rw [Nat.testBit_xor,Nat.testBit_or]
  cases i with
  |zero=>simp
  |succ i=>simp [Nat.testBit_succ]
theorem sh_bit(x:V)(b:Bool):(x <<< 1 ^^^ bit b).toNat=2*x.toNat%65536+num b:=by
 rw [BitVec.toNat_xor,BitVec.toNat_shiftLeft,Nat.shiftLeft_eq]
 have e:(bit b).toNat=num b:=by cases b<;>rfl
 rw [e,show x.toNat*2 ^ 1%2 ^ 16=2*(x.toNat%32768) by omega,even_xor]
 omega
theorem astp_lo(x:V)(b:Bool)(h:¬ 65536≤2*x.toNat+num b):(astp x b).toNat=2*x.toNat+num b:=by
 have hm:x.msb=false:=by
  rw [BitVec.msb_eq_decide];simp;omega
 unfold astp
 rw [stp_low x hm,sh_bit]
 omega
theorem astp_hi(x:V)(b:Bool)(h:65536≤2*x.toNat+num b):(astp x b).toNat=(2*x.toNat+num b-65536) ^^^ 4129:=by
 have hb:num b≤1:=by cases b<;>decide
 have hx:=x.isLt
 have hm:x.msb=true:=by
  rw [BitVec.msb_eq_decide];simp;omega
 unfold astp stp
 rw [hm]
 show ((x <<< 1 ^^^ P) ^^^ bit b).toNat=_
 rw [BitVec.xor_assoc,BitVec.xor_comm P,← BitVec.xor_assoc,BitVec.toNat_xor,sh_bit]
 have e:2*x.toNat%65536+num b=2*x.toNat+num b-65536:=by omega
 rw [e];rfl
theorem left_inBit(l:List Nat)(hl:∀ x∈l,x<256):left (inBit l) (8*l.length+16)=sum l:=left_sum l hl _ (fun _=>rfl)
theorem num_le(b:Bool):num b≤1:=by cases b<;>decide
theorem bit_byte(c j:Nat):c/2 ^ j%2=num (c.testBit j):=by
 rw [Nat.testBit_eq_decide_div_mod_eq]
 unfold num
 by_cases h:c/2 ^ j%2=1
 ·simp [h]
 ·simp [h];omega
end Crc
theorem xor_p(y:Nat)(w:World)(hy:y<65536) :
  Calls Tryz.prog 87 #[.int .i64 y,.int .i64 4129] w fun e w'=>e=.returned (.int .i64 ((y ^^^ 4129:Nat):Int))∧∃ n,w'=w.drewN n:=by
 have h:=xor_any y 4129 w hy (by omega)
 rw [show ((4129:Nat):Int)=4129 from rfl] at h
 exact h
theorem rsum_any(a:Option Addr)(l:List Nat)(cap:Nat)(w:World)(hl:RdB w a l)(hn:l.length≤1000000) :
  Calls Tryz.prog 53 #[.slice a l.length cap] w fun e w'=>e=.returned (.int .i64 ((Crc.sum l).toNat:Int))∧∃ n,w'=w.drewN n:=by
 have HL:=Lib.hid hl;clear hl
 go_enter Tryz.func53,Tryz.ntmps53
 go_wp2
 go_loopg [4,5] (8*l.length+16) (fun n s4 s5 wr=>∃ (k:Nat) (x:Crc.V),k+n=8*l.length+16∧s5=.int .i64 k∧s4=.int .i64 (x.toNat:Int)∧Hid (x=Crc.left (Crc.inBit l) k)∧∃ m,wr=w.drewN m)
 case atStart=>exact⟨0,0,by omega,rfl,rfl,rfl,0,rfl⟩
 case round =>
  obtain⟨k,x,hk,rfl,rfl,H,m,rfl⟩:=hrel
  have HK:=Lib.hid hk
  have hle:k≤8*l.length+16:=by omega
  clear hk
  have hx:=v_lt x
  by_cases hlt:k<8*l.length+16
  ·have hnn:=Crc.num_le (Crc.inBit l k)
   generalize hB:Crc.num (Crc.inBit l k)=B at hnn
   have HB:=Lib.hid hB;clear hB
   go_upto_if 20 with (fail)
   have hn0:=Crc.num_le (Crc.bitOf l k)
   generalize hB0:Crc.num (Crc.bitOf l k)=B0 at hn0
   have HB0:=Lib.hid hB0;clear hB0
   go_cut [6] (fun s6 wx=>s6=.int .i64 (B0:Int)∧wx=w.drewN m)
   case first =>
    by_cases h1:k<8*l.length
    ·obtain⟨b,off,rfl,hb,hc⟩:=HL.out.at_ (by omega)
     have hc1:=hc (k/8) (by omega)
     clear hc
     have h2:=getD_lt256 HL.out.lt (k/8)
     have hbo:Crc.bitOf l k=(l.getD (k/8) 0).testBit (7-k%8):=by unfold Crc.bitOf;simp [h1]
     generalize l.getD (k/8) 0=c at hc1 h2 hbo
     obtain⟨q,hq⟩:∃ q:Nat,q=c/2 ^ (7-k%8):=⟨_,rfl⟩
     have lq:q≤c:=by rw [hq];exact Nat.div_le_self _ _
     have hb2:=Crc.bit_byte c (7-k%8)
     rw [← hq,← hbo,HB0.out] at hb2
     have E3:=Lib.hid (show (q:Int)%2=(B0:Int) by omega)
     have e0:wrap64 ((c:Int)/2 ^ (7-k%8))=(q:Int):=by
      have:(c:Int)/2 ^ (7-k%8)=(q:Int):=by
       rw [hq,Int.natCast_ediv]
       congr 1
      rw [this];exact IntWalk.wrap64_in _ (by omega)
     clear hbo hb2 hq
     go_wp2_with fail
     go_meet
     exact⟨by rw [E3.out],rfl⟩
    ·have hbo:Crc.bitOf l k=false:=by unfold Crc.bitOf;simp [h1]
     have e3:B0=0:=by rw [← HB0.out,hbo];rfl
     subst e3
     clear hbo
     go_wp2_with fail
     go_meet
     exact⟨rfl,rfl⟩
   case rest =>
   obtain⟨rfl,rfl⟩:=hcut
   go_upto_if 34 with (fail)
   go_cut [6] (fun s6 wx=>s6=.int .i64 (B:Int)∧wx=w.drewN m)
   case first =>
    have hBB:=HB.out
    have hB0:=HB0.out
    unfold Crc.inBit at hBB
    generalize Crc.bitOf l k=t at hBB hB0
    clear HB HB0
    by_cases h3:k<16
    ·rw [if_pos h3] at hBB
     have E3:=Lib.hid (show (B:Int)=1-(B0:Int) by cases t<;>simp [Crc.num] at hBB hB0<;>omega)
     clear hBB hB0
     go_wp2_with fail
     go_meet
     exact⟨by rw [E3.out],rfl⟩
    ·rw [if_neg h3] at hBB
     have e3:B=B0:=by rw [← hBB,← hB0]
     subst e3
     clear hBB hB0
     go_wp2_with fail
     go_meet
     exact⟨rfl,rfl⟩
   case rest =>
   obtain⟨rfl,rfl⟩:=hcut
   by_cases h4:(65536:Int)≤2*(x.toNat:Int)+(B:Int)
   ·obtain⟨y,hy⟩:∃ y:Nat,(2*(x.toNat:Int)+(B:Int)-65536)=(y:Int):=⟨2*x.toNat+B-65536,by omega⟩
    have hy2:y<65536:=by omega
    have HY:=Lib.hid hy
    go_wp2_with (go_at_call 87;refine(xor_p y _ hy2).mono ?_;rintro e w' ⟨rfl,m',rfl⟩)
    go_roundg (gk-1)
    case measure=>have:=HK.out;omega
    case rel =>
     refine⟨k+1,Crc.astp x (Crc.inBit l k),by have:=HK.out;omega,by go_num,?_,?_,m+m',by simp [World.drewN_drewN]⟩
     ·have h6:=Crc.astp_hi x (Crc.inBit l k) (by rw [HB.out];omega)
      rw [h6,HB.out,show 2*x.toNat+B-65536=y by have:=HY.out;omega]
     ·show _=Crc.astp (Crc.left (Crc.inBit l) k) (Crc.inBit l k)
      rw [← show x=_ from H.out]
   ·go_wp2_with fail
    go_roundg (gk-1)
    case measure=>have:=HK.out;omega
    case rel =>
     refine⟨k+1,Crc.astp x (Crc.inBit l k),by have:=HK.out;omega,by go_num,?_,?_,m,rfl⟩
     ·have h6:=Crc.astp_lo x (Crc.inBit l k) (by rw [HB.out];omega)
      rw [h6,HB.out]
      go_num
     ·show _=Crc.astp (Crc.left (Crc.inBit l) k) (Crc.inBit l k)
      rw [← show x=_ from H.out]
  ·have hke:k=8*l.length+16:=by omega
   have HE:=Lib.hid hke;clear hke
   go_wp2_with fail
   go_ret
   refine⟨ret_int ?_,m,rfl⟩
   rw [← Crc.left_inBit l HL.out.lt,← HE.out,← show x=_ from H.out]
end
section
open Go.ChangeShapes Go.WideShapes Go.RowKit Go.Sort
theorem store3{w w1:World}{b:Nat}(hb0:Below w.heap.size w w1)(hb:w.heap.size≤b){x' y' z':Value}(h0:w1.cell? ⟨b,0,none⟩=some x')(h1:w1.cell? ⟨b,1,none⟩=some y')(h2:w1.cell? ⟨b,2,none⟩=some z')(x y z:Value) :
  ∃ wz,wz=(((w1.setCell ⟨b,0,none⟩ x).setCell ⟨b,1,none⟩ y).setCell ⟨b,2,none⟩ z)∧Below w.heap.size w wz∧wz.cell? ⟨b,0,none⟩=some x∧wz.cell? ⟨b,1,none⟩=some y∧wz.cell? ⟨b,2,none⟩=some z:=by
 refine⟨_,rfl,on_set (on_set (on_set hb0 hb _) hb _) hb _,?_,?_,?_⟩
 ·rw [World.cell?_setCell_other _ _ _ _ (by simp),World.cell?_setCell_other _ _ _ _ (by simp),World.cell?_setCell_same _ _ _ h0]
 ·rw [World.cell?_setCell_other _ _ _ _ (by simp)]
  exact World.cell?_setCell_same _ _ _ (by rw [World.cell?_setCell_other _ _ _ _ (by simp)];exact h1)
 ·exact World.cell?_setCell_same _ _ _ (by rw [World.cell?_setCell_other _ _ _ _ (by simp),World.cell?_setCell_other _ _ _ _ (by simp)];exact h2)
theorem after3{w w1:World}{t:TypeId}{x y z:Value}(hb1:Below (w.alloc (.cells #[x,y,z] t)).heap.size (w.alloc (.cells #[x,y,z] t)) w1) :
  w1.cell? ⟨w.heap.size,0,none⟩=some x∧w1.cell? ⟨w.heap.size,1,none⟩=some y∧w1.cell? ⟨w.heap.size,2,none⟩=some z:=by
 obtain⟨hc,_,_⟩:=bcell hb1
 refine⟨?_,?_,?_⟩<;>rw [hc _ _ (by simp)]<;>rw [World.cell?_alloc_mark]<;>rfl
theorem rsize_any(k:Int)(w:World):Calls Tryz.prog 67 #[.int .i64 k] w fun e w'=>e=.returned (.int .i64 (Fr.sz k:Int))∧Below w.heap.size w w':=by
 by_cases h:k<1∨k > 5
 ·have hs:Fr.sz k=0:=by rcases Fr.sz_cases k with h|h|h<;>omega
  rw [hs]
  go_enter Tryz.func67,Tryz.ntmps67
  rcases h with h|h
  ·go_wp2
   go_ret
   exact⟨rfl,bself _ _⟩
  ·have h2:¬ k<1:=by omega
   go_wp2
   go_ret
   exact⟨rfl,bself _ _⟩
 ·obtain h|h|h|h|h:k=1∨k=2∨k=3∨k=4∨k=5:=by omega
  all_goals
   subst h
   clear h
   go_enter Tryz.func67,Tryz.ntmps67
   go_wp2
   go_ret
   exact⟨rfl,bself _ _⟩
theorem rget_short(a:Option Addr)(l:List Nat)(c:Nat)(w:World)(ha:RdB w a l)(h:l.length<5) :
  Calls Tryz.prog 45 #[.slice a l.length c] w fun e w'=>e=.returned (gv (Fr.get l))∧Below w.heap.size w w':=by
 have hg:Fr.get l=⟨0,0,0,14⟩:=by unfold Fr.get;rw [if_pos h]
 rw [hg]
 clear hg
 go_enter Tryz.func45,Tryz.ntmps45
 go_wp2_with fail
 exact bodyPost_ret (v:=gv ⟨0,0,0,14⟩) (by simp [results,Tryz.results45,go_sem,gv]) rfl ⟨rfl,bself _ _⟩
theorem rget_kind(a:Option Addr)(l:List Nat)(c:Nat)(w:World)(ha:RdB w a l)(h:5≤l.length)(hm:l.length≤1000000)(hk:Fr.sz (l.getD 0 0)=0) :
  Calls Tryz.prog 45 #[.slice a l.length c] w fun e w'=>e=.returned (gv (Fr.get l))∧Below w.heap.size w w':=by
 have hg:Fr.get l=⟨0,0,0,30⟩:=by unfold Fr.get;rw [if_neg (by omega),if_pos hk]
 rw [hg]
 clear hg
 obtain⟨b,off,rfl,hbl,hcell⟩:=ha.at_ (by omega)
 have hc0:=hcell 0 (by omega)
 rw [Nat.add_zero] at hc0
 have hS:∀ w,Calls Tryz.prog 67 #[.int .i64 ((l.getD 0 0:Nat):Int)] w fun e w'=>e=.returned (.int .i64 0)∧Below w.heap.size w w':=fun w=>by
  have:=rsize_any ((l.getD 0 0:Nat):Int) w
  rw [hk] at this
  exact this
 have hlt:=getD_lt256 ha.lt 0
 generalize l.getD 0 0=k at hc0 hS hlt
 have HS:=Lib.hid hS;clear hS hcell hk ha
 go_enter Tryz.func45,Tryz.ntmps45
 go_wp2_with fail
 refine(HS.out _).mono ?_
 rintro e w1 ⟨rfl,hb1⟩
 have hb0:=on_past (bself _ _) hb1
 obtain⟨hc,hz,hl⟩:=bcell hb1
 obtain⟨q0,q1,q2⟩:=after3 hb1
 have zw10:w.heap.size<w1.heap.size:=by have:=hb1.size;simp at this;omega
 clear hc
 clear HS
 go_wp2_with fail
 obtain⟨wz,ez,hbz,c0,c1,c2⟩:=store3 hb0 (Nat.le_refl _) q0 q1 q2 (.int .i64 0) (.int .i64 0) (.int .i64 0)
 rw [← ez]
 clear ez hz hl
 exact bodyPost_ret (v:=gv ⟨0,0,0,30⟩) (by simp [results,Tryz.results45,go_sem,gv,c0,c1,c2]) rfl ⟨rfl,hbz⟩
theorem rget_form(a:Option Addr)(l:List Nat)(c:Nat)(w:World)(ha:RdB w a l)(h:5≤l.length)(hm:l.length≤1000000)(hk:Fr.sz (l.getD 0 0)≠0)(hf:l.getD 2 0≠Fr.sz (l.getD 0 0)∨l.length≠5+Fr.sz (l.getD 0 0)) :
  Calls Tryz.prog 45 #[.slice a l.length c] w fun e w'=>e=.returned (gv (Fr.get l))∧Below w.heap.size w w':=by
 have hg:Fr.get l=⟨0,0,0,11⟩:=by unfold Fr.get;rw [if_neg (by omega),if_neg hk,if_pos hf]
 rw [hg]
 clear hg
 have HA:=Lib.hid ha
 obtain⟨b,off,rfl,hbl,hcell⟩:=ha.at_ (by omega)
 have hc0:=hcell 0 (by omega)
 have hc2:=hcell 2 (by omega)
 rw [Nat.add_zero] at hc0
 have hS:∀ w,Calls Tryz.prog 67 #[.int .i64 ((l.getD 0 0:Nat):Int)] w fun e w'=>e=.returned (.int .i64 (Fr.sz ((l.getD 0 0:Nat):Int):Int))∧Below w.heap.size w w':=fun w=>rsize_any _ w
 have hn:Fr.sz ((l.getD 0 0:Nat):Int)≤4:=by rcases Fr.sz_cases ((l.getD 0 0:Nat):Int) with h|h|h<;>omega
 have hlt:=getD_lt256 ha.lt 0
 have hlt2:=getD_lt256 ha.lt 2
 generalize Fr.sz ((l.getD 0 0:Nat):Int)=n at hS hn hk hf
 generalize l.getD 0 0=k at hc0 hS hlt
 generalize l.getD 2 0=m at hc2 hlt2 hf
 have hn0:((n:Int)==0)=false:=by simp;omega
 have HS:=Lib.hid hS;clear hS hcell hk ha
 go_enter Tryz.func45,Tryz.ntmps45
 go_wp2_with fail
 refine(HS.out _).mono ?_
 rintro e w1 ⟨rfl,hb1⟩
 have hb0:=on_past (bself _ _) hb1
 obtain⟨hc,hz,hl⟩:=bcell hb1
 obtain⟨q0,q1,q2⟩:=after3 hb1
 have zw10:w.heap.size<w1.heap.size:=by have:=hb1.size;simp at this;omega
 clear hc
 have hc2':=(Below.cell (p:=⟨b,off+2,none⟩) hb0 hbl).trans hc2
 clear hc2
 by_cases h2:m=n
 ·have d1:((m:Int) != (n:Int))=false:=by simp;omega
  have d2:((l.length:Int) != 5+(n:Int))=true:=by simp;omega
  clear hf h2
  go_wp2_with fail
  obtain⟨wz,ez,hbz,c0,c1,c2⟩:=store3 hb0 (Nat.le_refl _) q0 q1 q2 (.int .i64 0) (.int .i64 0) (.int .i64 0)
  rw [← ez]
  clear ez hz hl
  exact bodyPost_ret (v:=gv ⟨0,0,0,11⟩) (by simp [results,Tryz.results45,go_sem,gv,c0,c1,c2]) rfl ⟨rfl,hbz⟩
 ·have d1:((m:Int) != (n:Int))=true:=by simp;omega
  clear hf h2
  go_wp2_with fail
  obtain⟨wz,ez,hbz,c0,c1,c2⟩:=store3 hb0 (Nat.le_refl _) q0 q1 q2 (.int .i64 0) (.int .i64 0) (.int .i64 0)
  rw [← ez]
  clear ez hz hl
  exact bodyPost_ret (v:=gv ⟨0,0,0,11⟩) (by simp [results,Tryz.results45,go_sem,gv,c0,c1,c2]) rfl ⟨rfl,hbz⟩
end
section
open Go.ChangeShapes Go.WideShapes Go.RowKit Go.Sort
theorem two_end{l:List Nat}{n:Nat}(hl:l.length=5+n):l=l.take (3+n)++[l.getD (3+n) 0,l.getD (4+n) 0]:=by
 apply List.ext_getElem?
 intro i
 by_cases h:i<3+n
 ·rw [List.getElem?_append_left (by rw [List.length_take];omega),List.getElem?_take,if_pos h]
 ·rw [List.getElem?_append_right (by rw [List.length_take];omega),List.length_take,Nat.min_eq_left (by omega)]
  by_cases h1:i=3+n
  ·subst h1;simp [List.getD,List.getElem?_eq_getElem (show 3+n<l.length by omega)]
  by_cases h2:i=4+n
  ·subst h2
   have e:4+n-(3+n)=1:=by omega
   rw [e];simp [List.getD,List.getElem?_eq_getElem (show 4+n<l.length by omega)]
  ·rw [List.getElem?_eq_none (by omega),List.getElem?_eq_none (by simp;omega)]
theorem rget_sum(a:Option Addr)(l:List Nat)(c:Nat)(w:World)(ha:RdB w a l)(hcl:l.length≤c)(hcm:c≤maxLen)(hm:l.length≤1000000)(n:Nat)(hn:n=2∨n=4)(hk:Fr.sz (l.getD 0 0)=n)(h2:l.getD 2 0=n)(h3:l.length=5+n)(hs:Crc.sum l≠0) :
  Calls Tryz.prog 45 #[.slice a l.length c] w fun e w'=>e=.returned (gv (Fr.get l))∧Below w.heap.size w w':=by
 have hg:Fr.get l=⟨0,0,0,31⟩:=by unfold Fr.get;rw [if_neg (by omega),if_neg (by omega),if_neg (by omega),if_pos hs]
 rw [hg]
 clear hg
 have hte:=two_end h3
 have hss:(Crc.sum (l.take (3+n))).toNat≠l.getD (3+n) 0*256+l.getD (4+n) 0:=by
  intro h
  apply hs
  rw [hte]
  exact(Crc.sum_zero _ _ _ (getD_lt256 ha.lt _) (getD_lt256 ha.lt _)).2 h
 clear hte
 have HA:=Lib.hid ha
 obtain⟨b,off,rfl,hbl,hcell⟩:=ha.at_ (by omega)
 have hc0:=hcell 0 (by omega)
 have hc2:=hcell 2 (by omega)
 have hc3:=hcell (3+n) (by omega)
 have hc4:=hcell (4+n) (by omega)
 rw [Nat.add_zero] at hc0
 have hS:∀ w,Calls Tryz.prog 67 #[.int .i64 ((l.getD 0 0:Nat):Int)] w fun e w'=>e=.returned (.int .i64 (n:Int))∧Below w.heap.size w w':=fun w=>by
  have:=rsize_any ((l.getD 0 0:Nat):Int) w
  rw [hk] at this
  exact this
 have hlt:=getD_lt256 ha.lt 0
 have hlt2:=getD_lt256 ha.lt 2
 have hlt3:=getD_lt256 ha.lt (3+n)
 have hlt4:=getD_lt256 ha.lt (4+n)
 have hlen:(l.take (3+n)).length=3+n:=by rw [List.length_take];omega
 have hT:∀ (w':World) (hb:Below w.heap.size w w') ,Calls Tryz.prog 53 #[.slice (some ⟨b,off,none⟩) (3+n) c] w' fun e w2=>e=.returned (.int .i64 ((Crc.sum (l.take (3+n))).toNat:Int))∧Below w'.heap.size w' w2:=fun w' hb=>by
  have:=rsum_any _ (l.take (3+n)) c w' ((HA.out.below hb).take _) (by omega)
  rw [hlen] at this
  exact this.mono fun e w2 ⟨h,k,hk⟩=>⟨h,hk ▸ bdN (Below.refl _ _) k⟩
 rw [h2] at hc2
 have hSl:(Crc.sum (l.take (3+n))).toNat<65536:=(Crc.sum (l.take (3+n))).isLt
 generalize (Crc.sum (l.take (3+n))).toNat=S at hss hT hSl
 generalize l.getD (3+n) 0=x at hc3 hss hlt3
 generalize l.getD (4+n) 0=y at hc4 hss hlt4
 generalize l.getD 0 0=k at hc0 hS hlt
 have hn0:((n:Int)==0)=false:=by simp;omega
 have d3:((S:Int) != (x:Int)*256+(y:Int))=true:=by simp;omega
 have hS5:S<65536:=hSl
 have d1:((l.length:Int) != 5+(n:Int))=false:=by simp;omega
 have hh:l.length=5+n:=h3
 have HS:=Lib.hid hS
 have HT:=Lib.hid hT
 clear hS hT hcell hk ha hs hlt2 h2
 go_enter Tryz.func45,Tryz.ntmps45
 go_wp2_with fail
 refine(HS.out _).mono ?_
 rintro e w1 ⟨rfl,hb1⟩
 have hb0:=on_past (bself _ _) hb1
 obtain⟨hc,hz,hl⟩:=bcell hb1
 obtain⟨q0,q1,q2⟩:=after3 hb1
 have zw10:w.heap.size<w1.heap.size:=by have:=hb1.size;simp at this;omega
 clear hc
 have hc2':=(Below.cell (p:=⟨b,off+2,none⟩) hb0 hbl).trans hc2
 have hc3':=(Below.cell (p:=⟨b,off+(3+n),none⟩) hb0 hbl).trans hc3
 have hc4':=(Below.cell (p:=⟨b,off+(4+n),none⟩) hb0 hbl).trans hc4
 clear hc0 hc2 hc3 hc4
 go_wp2_with fail
 have zb:b<w1.heap.size:=Nat.lt_of_lt_of_le hbl hb0.size
 have HT2:=Lib.hid (fun d os=>HT.out (grow (redrawn w1 d) os) (on_past hb0 (below_regrown w1 d os)))
 clear HT HA
 refine wp_region_past (by kernel_rfl) (by kernel_rfl) (fun hG=>?_)
 repeat (go_big_quiet_step ((go_at_call 53;exact Calls.regrown_of (HT2.out _ _))))
 refine wpQuiet_nil ?_
 intro w3 hb3
 clear hG
 have r0:=(Below.cell (p:=⟨w.heap.size,0,none⟩) hb3 zw10).trans q0
 have r1:=(Below.cell (p:=⟨w.heap.size,1,none⟩) hb3 zw10).trans q1
 have r2:=(Below.cell (p:=⟨w.heap.size,2,none⟩) hb3 zw10).trans q2
 have rz:∀ o,w3.frozen? ⟨w.heap.size,o,none⟩=false:=fun o=>((bcell hb3).2.1 _ _ zw10).trans ((hz _ _ (by simp)).trans (by simp))
 have zw30:w.heap.size<w3.heap.size:=Nat.lt_of_lt_of_le zw10 hb3.size
 have hb4:=on_past hb0 hb3
 clear q0 q1 q2 hz hl
 go_wp2_with fail
 obtain⟨wz,ez,hbz,c0,c1,c2⟩:=store3 hb4 (Nat.le_refl _) r0 r1 r2 (.int .i64 0) (.int .i64 0) (.int .i64 0)
 rw [← ez]
 clear ez
 exact bodyPost_ret (v:=gv ⟨0,0,0,31⟩) (by simp [results,Tryz.results45,go_sem,gv,c0,c1,c2]) rfl ⟨rfl,hbz⟩
theorem rget_ok(a:Option Addr)(l:List Nat)(c:Nat)(w:World)(ha:RdB w a l)(hcl:l.length≤c)(hcm:c≤maxLen)(hm:l.length≤1000000)(n:Nat)(hn:n=2∨n=4)(hk:Fr.sz (l.getD 0 0)=n)(h2:l.getD 2 0=n)(h3:l.length=5+n)(hs:Crc.sum l=0) :
  Calls Tryz.prog 45 #[.slice a l.length c] w fun e w'=>e=.returned (gv (Fr.get l))∧Below w.heap.size w w':=by
 have hg:Fr.get l=⟨l.getD 0 0,l.getD 1 0,Fr.sgn n (Fr.val ((l.drop 3).take n)),0⟩:=by unfold Fr.get;rw [if_neg (by omega),if_neg (by omega),if_neg (by omega),if_neg (by simp [hs]),hk]
 rw [hg]
 clear hg
 have hte:=two_end h3
 have hss:(Crc.sum (l.take (3+n))).toNat=l.getD (3+n) 0*256+l.getD (4+n) 0:=by
  rw [hte] at hs
  exact(Crc.sum_zero _ _ _ (getD_lt256 ha.lt _) (getD_lt256 ha.lt _)).1 hs
 clear hte
 have HA:=Lib.hid ha
 obtain⟨b,off,rfl,hbl,hcell⟩:=ha.at_ (by omega)
 have hc0:=hcell 0 (by omega)
 have hc1:=hcell 1 (by omega)
 have hc2:=hcell 2 (by omega)
 have HCell:=Lib.hid hcell
 have hlt1:=getD_lt256 ha.lt 1
 have hc3:=hcell (3+n) (by omega)
 have hc4:=hcell (4+n) (by omega)
 rw [Nat.add_zero] at hc0
 have hS:∀ w,Calls Tryz.prog 67 #[.int .i64 ((l.getD 0 0:Nat):Int)] w fun e w'=>e=.returned (.int .i64 (n:Int))∧Below w.heap.size w w':=fun w=>by
  have:=rsize_any ((l.getD 0 0:Nat):Int) w
  rw [hk] at this
  exact this
 have hlt:=getD_lt256 ha.lt 0
 have hlt2:=getD_lt256 ha.lt 2
 have hlt3:=getD_lt256 ha.lt (3+n)
 have hlt4:=getD_lt256 ha.lt (4+n)
 have hlen:(l.take (3+n)).length=3+n:=by rw [List.length_take];omega
 have hT:∀ (w':World) (hb:Below w.heap.size w w') ,Calls Tryz.prog 53 #[.slice (some ⟨b,off,none⟩) (3+n) c] w' fun e w2=>e=.returned (.int .i64 ((Crc.sum (l.take (3+n))).toNat:Int))∧Below w'.heap.size w' w2:=fun w' hb=>by
  have:=rsum_any _ (l.take (3+n)) c w' ((HA.out.below hb).take _) (by omega)
  rw [hlen] at this
  exact this.mono fun e w2 ⟨h,k,hk⟩=>⟨h,hk ▸ bdN (Below.refl _ _) k⟩
 rw [h2] at hc2
 have hSl:(Crc.sum (l.take (3+n))).toNat<65536:=(Crc.sum (l.take (3+n))).isLt
 generalize (Crc.sum (l.take (3+n))).toNat=S at hss hT hSl
 generalize l.getD (3+n) 0=x at hc3 hss hlt3
 generalize l.getD (4+n) 0=y at hc4 hss hlt4
 generalize l.getD 1 0=q at hc1 hlt1
 generalize l.getD 0 0=k at hc0 hS hlt
 have hn0:((n:Int)==0)=false:=by simp;omega
 have d3:((S:Int) != (x:Int)*256+(y:Int))=false:=by simp;omega
 have hS5:S<65536:=hSl
 have d1:((l.length:Int) != 5+(n:Int))=false:=by simp;omega
 have hh:l.length=5+n:=h3
 have HS:=Lib.hid hS
 have HT:=Lib.hid hT
 clear hS hT hcell hk ha hs hlt2 h2
 go_enter Tryz.func45,Tryz.ntmps45
 go_wp2_with fail
 refine(HS.out _).mono ?_
 rintro e w1 ⟨rfl,hb1⟩
 have hb0:=on_past (bself _ _) hb1
 obtain⟨hc,hz,hl⟩:=bcell hb1
 obtain⟨q0,q1,q2⟩:=after3 hb1
 have zw10:w.heap.size<w1.heap.size:=by have:=hb1.size;simp at this;omega
 clear hc
 have hc2':=(Below.cell (p:=⟨b,off+2,none⟩) hb0 hbl).trans hc2
 have hc3':=(Below.cell (p:=⟨b,off+(3+n),none⟩) hb0 hbl).trans hc3
 have hc4':=(Below.cell (p:=⟨b,off+(4+n),none⟩) hb0 hbl).trans hc4
 have hc0':=(Below.cell (p:=⟨b,off,none⟩) hb0 hbl).trans hc0
 have hc1':=(Below.cell (p:=⟨b,off+1,none⟩) hb0 hbl).trans hc1
 have HC0:=Lib.hid hc0'
 have HC1:=Lib.hid hc1'
 clear hc0 hc1 hc0' hc1' hc2 hc3 hc4
 go_wp2_with fail
 have zb:b<w1.heap.size:=Nat.lt_of_lt_of_le hbl hb0.size
 have HT2:=Lib.hid (fun d os=>HT.out (grow (redrawn w1 d) os) (on_past hb0 (below_regrown w1 d os)))
 clear HT
 refine wp_region_past (by kernel_rfl) (by kernel_rfl) (fun hG=>?_)
 repeat (go_big_quiet_step ((go_at_call 53;exact Calls.regrown_of (HT2.out _ _))))
 refine wpQuiet_nil ?_
 intro w3 hb3
 clear hG
 have r0:=(Below.cell (p:=⟨w.heap.size,0,none⟩) hb3 zw10).trans q0
 have r1:=(Below.cell (p:=⟨w.heap.size,1,none⟩) hb3 zw10).trans q1
 have r2:=(Below.cell (p:=⟨w.heap.size,2,none⟩) hb3 zw10).trans q2
 have rz:∀ o,w3.frozen? ⟨w.heap.size,o,none⟩=false:=fun o=>((bcell hb3).2.1 _ _ zw10).trans ((hz _ _ (by simp)).trans (by simp))
 have zw30:w.heap.size<w3.heap.size:=Nat.lt_of_lt_of_le zw10 hb3.size
 have hb4:=on_past hb0 hb3
 clear q0 q1 q2 hz hl
 go_wp2_with fail
 have k0:=(Below.cell (p:=⟨b,off,none⟩) hb3 zb).trans HC0.out
 have k1:=(Below.cell (p:=⟨b,off+1,none⟩) hb3 zb).trans HC1.out
 have zb3:b<w3.heap.size:=Nat.lt_of_lt_of_le zb hb3.size
 clear hc2' hc3' hc4' d3
 have hltd:∀ x∈(l.drop 3).take n,x<256:=fun x hx=>HA.out.lt x (List.mem_of_mem_drop (List.mem_of_mem_take hx))
 have hvl:=Fr.val_lt ((l.drop 3).take n) hltd
 rw [show ((l.drop 3).take n).length=n by rw [List.length_take,List.length_drop];omega] at hvl
 have HVL:=Lib.hid hvl;clear hvl hltd
 have hlen5:=Lib.hid h3
 have hl5:l.length=5+n:=h3
 clear hh
 go_loopg [5,6] n (fun r s5 s6 wr=>∃ (i u:Nat),Hid (i+r=n)∧i≤n∧s6=.int .i64 (3+(i:Int))∧s5=.int .i64 u∧Hid (u=Fr.val ((l.drop 3).take i))∧wr=w3)
 case atStart=>exact⟨0,0,by simp [Hid],by omega,rfl,rfl,by simp [Hid,Fr.val],rfl⟩
 case round =>
  obtain⟨i,u,hi,hin,rfl,rfl,HU,rfl⟩:=hrel
  by_cases hlt':i<n
  ·have hx2:=(Below.cell (p:=⟨b,off+(3+i),none⟩) hb4 hbl).trans (HCell.out (3+i) (by omega))
   have lx:=getD_lt256 HA.out.lt (3+i)
   have hsn:(l.drop 3).take (i+1)=(l.drop 3).take i++[l.getD (3+i) 0]:=by
    rw [take_snoc (by rw [List.length_drop];omega)]
    congr 2
    simp [List.getD,List.getElem?_drop]
   have HSN:=Lib.hid hsn;clear hsn
   have hub:u<16777216:=by
    have h1:=Fr.val_lt ((l.drop 3).take i) (fun x hx=>HA.out.lt x (List.mem_of_mem_drop (List.mem_of_mem_take hx)))
    rw [← show u=_ from HU.out] at h1
    have h2:((l.drop 3).take i).length≤3:=by rw [List.length_take];omega
    have h3:256 ^ ((l.drop 3).take i).length≤256 ^ 3:=Nat.pow_le_pow_right (by omega) h2
    omega
   have hub':(u:Int)<16777216:=by omega
   clear hub
   generalize l.getD (3+i) 0=x' at hx2 lx HSN
   go_wp2_with fail
   go_roundg (gk-1)
   case measure=>have:=hi.out;omega
   case rel =>
    refine⟨i+1,u*256+x',show i+1+(gk-1)=n by have:=hi.out;omega,by omega,by go_num,by go_num,?_,rfl⟩
    show u*256+x'=_
    rw [HSN.out,Fr.val_snoc,← show u=_ from HU.out]
  ·obtain rfl:i=n:=by omega
   have hub:u<256 ^ i:=by rw [show u=_ from HU.out];exact HVL.out
   have hub':(u:Int)<4294967296:=by rcases hn with rfl|rfl<;>omega
   clear hub hS5 hSl hss
   have HM:=Lib.hid hm
   clear hm hcm
   by_cases h4:i=4
   ·have g1:((i:Int)==4)=true:=by simp;omega
    by_cases hg:(2147483648:Int)≤(u:Int)
    ·have hsg:Fr.sgn i (Fr.val ((l.drop 3).take i))=(u:Int)-4294967296:=by
      rw [← show u=_ from HU.out]
      unfold Fr.sgn
      rw [if_pos ⟨h4,by omega⟩]
     have HSG:=Lib.hid hsg
     clear hsg h4
     go_wp2_with fail
     refine wp_region_past_tail 10 (by kernel_rfl) (by kernel_rfl) (fun hG=>?_)
     simp only [List.take_succ_cons,List.take_zero,List.drop_succ_cons,List.drop_zero]
     repeat (go_big_quiet_step (fail))
     refine wpQuiet_nil ?_
     intro w4 hb5
     clear hG
     have s0:=(Below.cell (p:=⟨w.heap.size,0,none⟩) hb5 zw30).trans r0
     have s1:=(Below.cell (p:=⟨w.heap.size,1,none⟩) hb5 zw30).trans r1
     have s2:=(Below.cell (p:=⟨w.heap.size,2,none⟩) hb5 zw30).trans r2
     have sz':∀ o,w4.frozen? ⟨w.heap.size,o,none⟩=false:=fun o=>((bcell hb5).2.1 _ _ zw30).trans (rz o)
     have hb6:=on_past hb4 hb5
     clear r0 r1 r2 rz
     go_wp2_with fail
     obtain⟨wz,ez,hbz,c0,c1,c2⟩:=store3 hb6 (Nat.le_refl _) s0 s1 s2 (.int .i64 k) (.int .i64 q) (.int .i64 ((u:Int)-4294967296))
     rw [← ez]
     clear ez
     exact bodyPost_ret (v:=gv ⟨k,q,(u:Int)-4294967296,0⟩) (by simp [results,Tryz.results45,go_sem,gv,c0,c1,c2]) rfl ⟨by rw [HSG.out],hbz⟩
    ·have hsg:Fr.sgn i (Fr.val ((l.drop 3).take i))=(u:Int):=by
      rw [← show u=_ from HU.out]
      unfold Fr.sgn
      rw [if_neg (by omega)]
     have HSG:=Lib.hid hsg
     clear hsg h4
     go_wp2_with fail
     refine wp_region_past_tail 10 (by kernel_rfl) (by kernel_rfl) (fun hG=>?_)
     simp only [List.take_succ_cons,List.take_zero,List.drop_succ_cons,List.drop_zero]
     repeat (go_big_quiet_step (fail))
     refine wpQuiet_nil ?_
     intro w4 hb5
     clear hG
     have s0:=(Below.cell (p:=⟨w.heap.size,0,none⟩) hb5 zw30).trans r0
     have s1:=(Below.cell (p:=⟨w.heap.size,1,none⟩) hb5 zw30).trans r1
     have s2:=(Below.cell (p:=⟨w.heap.size,2,none⟩) hb5 zw30).trans r2
     have sz':∀ o,w4.frozen? ⟨w.heap.size,o,none⟩=false:=fun o=>((bcell hb5).2.1 _ _ zw30).trans (rz o)
     have hb6:=on_past hb4 hb5
     clear r0 r1 r2 rz
     go_wp2_with fail
     obtain⟨wz,ez,hbz,c0,c1,c2⟩:=store3 hb6 (Nat.le_refl _) s0 s1 s2 (.int .i64 k) (.int .i64 q) (.int .i64 ((u:Int)))
     rw [← ez]
     clear ez
     exact bodyPost_ret (v:=gv ⟨k,q,(u:Int),0⟩) (by simp [results,Tryz.results45,go_sem,gv,c0,c1,c2]) rfl ⟨by rw [HSG.out],hbz⟩
   ·have hsg:Fr.sgn i (Fr.val ((l.drop 3).take i))=(u:Int):=by
     rw [← show u=_ from HU.out]
     unfold Fr.sgn
     rw [if_neg (by omega)]
    have g1:((i:Int)==4)=false:=by simp;omega
    have HSG:=Lib.hid hsg
    clear hsg h4
    go_wp2_with fail
    refine wp_region_past_tail 10 (by kernel_rfl) (by kernel_rfl) (fun hG=>?_)
    simp only [List.take_succ_cons,List.take_zero,List.drop_succ_cons,List.drop_zero]
    repeat (go_big_quiet_step (fail))
    refine wpQuiet_nil ?_
    intro w4 hb5
    clear hG
    have s0:=(Below.cell (p:=⟨w.heap.size,0,none⟩) hb5 zw30).trans r0
    have s1:=(Below.cell (p:=⟨w.heap.size,1,none⟩) hb5 zw30).trans r1
    have s2:=(Below.cell (p:=⟨w.heap.size,2,none⟩) hb5 zw30).trans r2
    have sz':∀ o,w4.frozen? ⟨w.heap.size,o,none⟩=false:=fun o=>((bcell hb5).2.1 _ _ zw30).trans (rz o)
    have hb6:=on_past hb4 hb5
    clear r0 r1 r2 rz
    go_wp2_with fail
    obtain⟨wz,ez,hbz,c0,c1,c2⟩:=store3 hb6 (Nat.le_refl _) s0 s1 s2 (.int .i64 k) (.int .i64 q) (.int .i64 ((u:Int)))
    rw [← ez]
    clear ez
    exact bodyPost_ret (v:=gv ⟨k,q,(u:Int),0⟩) (by simp [results,Tryz.results45,go_sem,gv,c0,c1,c2]) rfl ⟨by rw [HSG.out],hbz⟩
theorem rget_any(a:Option Addr)(l:List Nat)(c:Nat)(w:World)(ha:RdB w a l)(hcl:l.length≤c)(hcm:c≤maxLen)(hm:l.length≤1000000) :
  Calls Tryz.prog 45 #[.slice a l.length c] w fun e w'=>e=.returned (gv (Fr.get l))∧Below w.heap.size w w':=by
 by_cases h:l.length<5
 ·exact rget_short a l c w ha h
 by_cases hk:Fr.sz (l.getD 0 0)=0
 ·exact rget_kind a l c w ha (by omega) hm hk
 by_cases hf:l.getD 2 0≠Fr.sz (l.getD 0 0)∨l.length≠5+Fr.sz (l.getD 0 0)
 ·exact rget_form a l c w ha (by omega) hm hk hf
 have hn:Fr.sz (l.getD 0 0)=2∨Fr.sz (l.getD 0 0)=4:=by
  rcases Fr.sz_cases ((l.getD 0 0:Nat):Int) with h2|h2|h2
  ·exact absurd h2.1 hk
  ·exact .inl h2.1
  ·exact .inr h2.1
 by_cases hs:Crc.sum l=0
 ·exact rget_ok a l c w ha hcl hcm hm _ hn rfl (by omega) (by omega) hs
 ·exact rget_sum a l c w ha hcl hcm hm _ hn rfl (by omega) (by omega) hs
end
namespace Y
open Go Go.RowKit Go.Sort
theorem bytes_R{S:Nat→Prop}{w:World}{ids:List Loc}{l:List Nat}{V:Value}(hl:∀ x∈l,x<256)(h:R S w ids (bytesV l) V):∃ a c,V=.slice a l.length c∧RdB w a l∧l.length≤c∧c≤maxLen:=by
 obtain⟨A,c,e,h1,h2,h3⟩:=(R_pu (a:=bytesV l) rfl).1 h
 refine⟨A,c,e,⟨hl,fun h0=>?_⟩,h1,h2⟩
 obtain⟨b,o,g1,g2,g3,g4⟩:=h3 h0
 refine⟨b,o,g1,g3,fun i hi=>?_⟩
 obtain⟨cs,⟨v,r,q1,q2,q3⟩,q4,q5⟩:=g4 i hi
 have hv:v=.int .u8 ((l.getD i 0:Nat):Int):=q2
 have:=q5.cell 0 v (by rw [q1];rfl)
 rw [hv] at this
 simpa using this
theorem Ret.bytes{P:Program}{f:Nat}{l:List Nat}{r:AV}(hl:∀ x∈l,x<256)(hr:Y.flat r=true)(h:∀ a c w,RdB w a l→l.length≤c→c≤maxLen→Calls P f #[.slice a l.length c] w fun e w'=>e=.returned (val r)∧Below w.heap.size w w'):Ret P f [bytesV l] (·=r):=by
 intro S w bs Vs hG hlt hV
 have hb:bs=[]:=List.length_eq_zero_iff.1 (by rw [hG.len];rfl)
 subst hb
 match Vs,hV with
 |[V],⟨h1,_⟩ =>
  obtain⟨a,c,rfl,q1,q2,q3⟩:=bytes_R hl h1
  exact(h a c w q1 q2 q3).mono fun e w' ⟨h1,h2⟩=>⟨r,val r,[],[],S,h1,rfl,(flat_iff hr).2 rfl,Gs.nil _ _,Ids.nil _,rfl,(fun i o L b hi=>by simp [nth] at hi),fun _ h=>h,fun _ h _=>h,fun b hb=>Nat.lt_of_lt_of_le (hlt b hb) h2.size,⟨h2.os,h2.tape,h2.output,h2.size,fun b hb _=>h2.block b hb⟩⟩
theorem crcSum(l:List Nat)(hl:∀ x∈l,x<256)(hn:l.length≤1000000):Ret Tryz.prog 75 [bytesV l] (·=.int .u16 (Crc.sum l).toNat) :=
 Ret.bytes hl rfl fun a c w h _ _=>(sum_any a l c w h (by omega)).mono fun e w' ⟨h1,h2⟩=>⟨h1,h2 ▸ Below.refl _ _⟩
theorem r6Sum(l:List Nat)(hl:∀ x∈l,x<256)(hn:l.length≤1000000):Ret Tryz.prog 53 [bytesV l] (·=I (Crc.sum l).toNat) :=
 Ret.bytes hl rfl fun a c w h _ _=>(rsum_any a l c w h hn).mono fun e w' ⟨h1,n,h2⟩=>⟨h1,h2 ▸ bdN (Below.refl _ _) n⟩
abbrev gvA(g:Fr.G):AV:=.tup [.agg [I g.kind,I g.seq,I g.value],I g.err]
theorem frGet(l:List Nat)(hl:∀ x∈l,x<256)(hn:l.length≤1000000):Ret Tryz.prog 123 [bytesV l] (·=gvA (Fr.get l)) :=
 Ret.bytes hl rfl fun a c w h h1 h2=>get_any a l c w h h1 h2 hn
theorem r7Get(l:List Nat)(hl:∀ x∈l,x<256)(hn:l.length≤1000000):Ret Tryz.prog 45 [bytesV l] (·=gvA (Fr.get l)) :=
 Ret.bytes hl rfl fun a c w h h1 h2=>rget_any a l c w h h1 h2 hn
end Y
section
open Go.ChangeShapes Go.WideShapes Go.RowKit
def str(l:List Nat):ByteArray:=strOfNums (l.map fun n:Nat=>(n:Int))
theorem conv_b{w:World}{a:Option Addr}{l:List Nat}{c:Nat}(h:RdB w a l) :
  (convert 85 9 (.slice a l.length c)).run Tryz.prog w=.ok (.string (str l)) w:=by
 by_cases h0:0<l.length
 ·obtain⟨b,off,rfl,_,hc⟩:=h.at_ h0
  refine run_convert_bytes_arg (P:=Tryz.prog) (w:=w) 85 5 Tryz.underlying85 Tryz.underlying5 b off l.length c (l.map fun n:Nat=>(n:Int)) (by simp) ?_ 9 Tryz.underlying9
  intro i hi
  rw [hc i (by simpa using hi)]
  have hi':i<l.length:=by simpa using hi
  simp [List.getD,List.getElem?_eq_getElem hi']
 ·have:l=[]:=List.eq_nil_of_length_eq_zero (by omega)
  subst this
  cases a with
  |none=>exact run_convert_bytes_nil (P:=Tryz.prog) (w:=w) 85 5 Tryz.underlying85 Tryz.underlying5 _ _ 9 Tryz.underlying9
  |some ad =>
   rw [run_convert_bytes_string w 85 9 5 (some ad) _ c Tryz.underlying85 Tryz.underlying5 Tryz.underlying9]
   show (Conv.bytesToString (.slice (some ad) 0 c)).run Tryz.prog w=_
   rw [run_bytesToString w ad 0 c [] (run_loadCells_list (P:=Tryz.prog) w ad [] (by simp))]
   rfl
end
namespace Y
open Go Go.RowKit Go.Sort
def encT(t:W.Trk):List Nat:=encN 2 t.segs.length++(t.segs.flatMap encS++(encN 2 t.grps.length++t.grps.flatMap encG))
def headT:List Nat:=[79,68,79,49]
def packT(t:W.Trk):List Nat:=(headT++encT t)++[(Crc.sum (headT++encT t)).toNat/256,(Crc.sum (headT++encT t)).toNat%256]
structure ImgOk(t:W.Trk):Prop where
 sg:∀ s∈t.segs,SgB s
 gp:∀ g∈t.grps,GrB g
 sn:t.segs.length≤200
 gn:t.grps.length≤400
theorem encPiece_b(p:W.Piece):∀ x∈encPiece p,x<256:=fun x hx=>by
 unfold encPiece at hx
 rcases List.mem_append.1 hx with h|h<;>exact encN_b _ _ x h
theorem encS_b(s:W.Seg):∀ x∈encS s,x<256:=fun x hx=>by
 unfold encS at hx
 simp only [List.mem_append,List.mem_flatMap] at hx
 rcases hx with h|h|⟨p,_,h⟩|h|⟨p,_,h⟩
 ·exact encN_b _ _ x h
 ·exact encN_b _ _ x h
 ·exact encPiece_b _ x h
 ·exact encN_b _ _ x h
 ·exact encN_b _ _ x h
theorem encG_b(g:W.Grp):∀ x∈encG g,x<256:=fun x hx=>by
 unfold encG at hx
 simp only [List.mem_append] at hx
 rcases hx with h|h|h|h|h<;>exact encN_b _ _ x h
theorem encT_b(t:W.Trk):∀ x∈encT t,x<256:=fun x hx=>by
 unfold encT at hx
 simp only [List.mem_append,List.mem_flatMap] at hx
 rcases hx with h|⟨p,_,h⟩|h|⟨p,_,h⟩
 ·exact encN_b _ _ x h
 ·exact encS_b _ x h
 ·exact encN_b _ _ x h
 ·exact encG_b _ x h
theorem headE_b(t:W.Trk):∀ x∈headT++encT t,x<256:=fun x hx=>by
 rcases List.mem_append.1 hx with h|h
 ·simp [headT] at h;omega
 ·exact encT_b t x h
theorem packT_b(t:W.Trk):∀ x∈packT t,x<256:=fun x hx=>by
 unfold packT at hx
 have:=(Crc.sum (headT++encT t)).isLt
 rcases List.mem_append.1 hx with h|h
 ·exact headE_b t x h
 ·simp at h;omega
theorem packT_sum(t:W.Trk):Crc.sum (packT t)=0:=by
 have:=(Crc.sum (headT++encT t)).isLt
 exact(Crc.sum_zero _ _ _ (by omega) (by omega)).2 (by omega)
theorem flatMap_le{α:Type}{f:α→List Nat}{n:Nat}:∀ {l:List α},(∀ x∈l,(f x).length≤n)→(l.flatMap f).length≤l.length*n
 |[],_=>by simp
 |x::l,h=>by
  rw [List.flatMap_cons,List.length_append,List.length_cons,Nat.succ_mul]
  have:=h x List.mem_cons_self
  have:=flatMap_le (l:=l) fun y hy=>h y (List.mem_cons_of_mem _ hy)
  omega
theorem encS_len{s:W.Seg}(h:SgB s):(encS s).length≤1000:=by
 unfold encS
 simp only [List.length_append,encN_len]
 have h1:=flatMap_le (f:=encPiece) (n:=12) (l:=s.pieces) fun x _=>by unfold encPiece;simp [encN_len]
 have h2:=flatMap_le (f:=fun x:Int=>encN 1 x.toNat) (n:=1) (l:=s.next) fun x _=>by simp [encN_len]
 have:=h.pn
 have:=h.nn
 omega
theorem packT_len{t:W.Trk}(h:ImgOk t):(packT t).length≤300000:=by
 unfold packT encT headT
 simp only [List.length_append,encN_len,List.length_cons,List.length_nil]
 have h1:=flatMap_le (f:=encS) (n:=1000) (l:=t.segs) fun x hx=>encS_len (h.sg x hx)
 have h2:=flatMap_le (f:=encG) (n:=19) (l:=t.grps) fun x _=>by unfold encG;simp [encN_len]
 have:=h.sn
 have:=h.gn
 omega
section
variable{N:Nat}{E:En}{o:Oper}{f:Nat}{xs:List AV}{a b:List Nat}{r:AV}{K:Tm→Ow→Prop}{tm:Tm}{own:Ow}
theorem CallN.rdI(i:Nat){dst:Option Nat}(h:RetO Tryz.prog f [.blk [bytesV a,.bool false]] (.own 0 0::xs) (fun v gs'=>v=r∧gs'=[.blk [bytesV b,.bool false]]))(hp:puL xs=true)(hb:nth own i=some (.blk [bytesV a,.bool false]))
  (hK:put N tm dst r fun tm=>K tm (own.set i (.blk [bytesV b,.bool false]))):CallN Tryz.prog N E f (.own i 0::xs) dst K tm own:=by
 refine CallN.upd [i] [] (RvJL.cons (RvJ.ownP rfl) (RvJL.pu hp)) (Als.nil _) (by simp) (Giv.one hb (by simp) (RcJ.pu rfl)) h (fun v gs' hp' _=>?_)
 obtain⟨rfl,rfl⟩:=hp'
 exact hK
theorem CallN.rdIF(i:Nat){dst:Option Nat}{g:Nat}{m:Int}(h:RetO Tryz.prog f [.blk [bytesV a,.bool false]] [I m,.fn g [.own 0 0] []] (fun v gs'=>v=r∧gs'=[.blk [bytesV b,.bool false]]))(hb:nth own i=some (.blk [bytesV a,.bool false]))
  (hK:put N tm dst r fun tm=>K tm (own.set i (.blk [bytesV b,.bool false]))):CallN Tryz.prog N E f [I m,.fn g [.own i 0] []] dst K tm own:=by
 refine CallN.upd [i] [] (RvJL.cons (RvJ.pu rfl) (RvJL.cons (RvJ.fn (R0J.ownP rfl R0J.nil) R0J.nil) RvJL.nil)) (Als.nil _) (by simp) (Giv.one hb (by simp) (RcJ.pu rfl)) h (fun v gs' hp' _=>?_)
 obtain⟨rfl,rfl⟩:=hp'
 exact hK
end
theorem QAt.convStr{o:Oper}{tm:Tm}{own:Ow}{K:AV→Prop}{x:Operand}(l:List Nat)(hl:∀ x∈l,x<256)(ho:o.op=.convert 85 9 x)(hx:ev tm x fun v=>∃ n f,v=.lst 1 n f∧n=l.length∧∀ i,i<n→f i=[.int .u8 ((l.getD i 0:Nat):Int)])(hK:K (.raw (.string (str l)))):QAt Tryz.prog o tm own K:=by
 refine⟨.raw (.string (str l)),hK,fun N E S ids a n hs=>⟨.string (str l),R_flat rfl,fun w hp=>?_⟩⟩
 obtain⟨u,⟨m,f,rfl,rfl,hf⟩,h1⟩:=ev_sound hx
 obtain⟨A,c,e,h2,h3,h4⟩:=(h1 S n ids a hs.sl).lst
 have hrd:RdB n A l:=⟨hl,fun h0=>by
  obtain⟨b,o,g1,g2,g3,g4⟩:=h4 h0
  refine⟨b,o,g1,g3,fun i hi=>?_⟩
  obtain⟨cs,q1,q4,q5⟩:=g4 i hi
  rw [hf i hi] at q1
  obtain⟨v,r,q1,q2,q3⟩:=q1
  have hv:v=.int .u8 ((l.getD i 0:Nat):Int):=q2
  have:=q5.cell 0 v (by rw [q1];rfl)
  rw [hv] at this
  simpa using this⟩
 have:=conv_b (c:=c) (hrd.below hp)
 unfold execOp
 simp only [ho,e,Sem.run_bind,this]
 rfl
theorem str_neq(s:ByteArray)(x y:Operand)(w:World):((do eqGuard .neq 9 x y (.string s) (.string s);Go.binOp .neq 9 (.string s) (.string s)):Sem Value).run Tryz.prog w=.ok (.bool false) w:=by
 have hg:(eqGuard .neq 9 x y (.string s) (.string s)).run Tryz.prog w=.ok () w:=rfl
 rw [Sem.run_bind,hg]
 simp [Go.binOp,Op.stringOp,Sem.run_pure,Result.andThen]
theorem open_(t:W.Trk)(h:ImgOk t)(hI:TrkI t)(hc:t.check.1=0):Ret Tryz.prog 46 [bytesV (packT t)] (·=.tup [trkV t,I 0]):=by
 have hlen:=packT_len h
 have hlen6:(packT t).length=(encT t).length+6:=by unfold packT headT;simp
 have hsn:=h.sn
 have hgn:=h.gn
 have hhead:∀ i,i<4→(packT t).getD i 0=headT.getD i 0:=fun i hi=>by
  unfold packT
  have:(headT++encT t++[(Crc.sum (headT++encT t)).toNat/256,(Crc.sum (headT++encT t)).toNat%256])[i]?=headT[i]?:=by
   rw [List.append_assoc,List.getElem?_append_left (by show i<4;exact hi)]
  simp only [List.getD,this]
 have hbody:∀ i,i<(encT t).length→(packT t).getD (4+i) 0=(encT t).getD i 0:=fun i hi=>by
  unfold packT
  have:(headT++encT t++[(Crc.sum (headT++encT t)).toNat/256,(Crc.sum (headT++encT t)).toNat%256])[4+i]?=(encT t)[i]?:=by
   rw [List.append_assoc,List.getElem?_append_right (by show 4≤4+i;omega)]
   have e:4+i-headT.length=i:=by show 4+i-4=i;omega
   rw [e,List.getElem?_append_left hi]
  simp only [List.getD,this]
 have hcs:Ret Tryz.prog 75 [bytesV (packT t)] (·=.int .u16 0):=by
  have:=crcSum _ (packT_b t) (by omega)
  rw [packT_sum] at this
  exact this
 have q2:=fun rest=>countV 2 t.segs.length rest (by decide) (by omega) (by omega) 2 200 rfl (by omega)
 have q3:=fun rest=>countV 2 t.grps.length rest (by decide) (by omega) (by omega) 2 400 rfl (by omega)
 have hS:=manySeg t.segs (fun k=>(t.segs.drop k).flatMap encS++(encN 2 t.grps.length++t.grps.flatMap encG)) (fun k hk=>by
  rw [drop_get hk default,List.flatMap_cons,List.append_assoc]
  exact segmentV _ _ (h.sg _ (by simp [List.getD,hk]))) (by omega)
 have hG:=manyGrp t.grps (fun k=>(t.grps.drop k).flatMap encG) (fun k hk=>by
  rw [drop_get hk default,List.flatMap_cons]
  exact groupV _ _ (h.gp _ (by simp [List.getD,hk]))) (by omega)
 simp only [List.drop_length,List.flatMap_nil,List.nil_append,List.drop_zero] at hS hG
 have hck:=trkCheck t hI
 rw [hc] at hck
 obtain⟨c2,hc2⟩:∃ c2,c2=t.check.2:=⟨_,rfl⟩
 rw [← hc2] at hck
 have hne:∀ w,((do eqGuard .neq 9 (.tmp 20) (.const (.string ⟨#[79,68,79,49]⟩)) (val (.raw (.string (str headT)))) (val (.raw (.string ⟨#[79,68,79,49]⟩)));Go.binOp .neq 9 (val (.raw (.string (str headT)))) (val (.raw (.string ⟨#[79,68,79,49]⟩)))):Sem Value).run Tryz.prog w=.ok (val (.bool false)) w:=fun w=>by
  have hs:str headT=⟨#[79,68,79,49]⟩:=by kernel_rfl
  rw [hs]
  exact str_neq _ _ _ w
 refine enterO tabOk (N:=70) (gs:=[]) (args:=[_]) Tryz.func46 rfl rfl rfl (nLe rfl) (fun E hE=>?_)
 conv=>whnf
 repeat' ((first|refine QAt.convStr headT (by decide) rfl ⟨_,_,rfl,rfl,fun i hi=>congrArg (fun z:Nat=>[AV.int .u8 (z:Int)]) (hhead i hi)⟩ ?_|refine QAt.bin (vx:=.raw (.string (str headT))) (vy:=.raw (.string ⟨#[79,68,79,49]⟩)) (r:=.bool false) rfl rfl rfl rfl rfl rfl hne ?_|refine Br.pf (by omega) ?_|refine Br.nf (by omega) ?_|refine Br.of rfl ?_|refine CallS.q (hcs) rfl ?_|refine Ob.mk (by unfold W.I64 at *;omega) ?_|refine Ob.mk (by simp only [Option.getD_some,Option.getD_none];omega) ?_|refine Ix.nat _ ?_|refine Ix.tn (by omega) ?_);conv=>whnf)
 refine CallS.call (CallN.upd [1] [] (RvJL.cons (RvJ.ownP rfl) (RvJL.pu rfl)) (Als.nil _) (by simp) (Giv.one rfl (by simp) (RcJ.cons (Rv.lst (g:=fun i=>[.int .u8 (((encN 2 t.segs.length++(t.segs.flatMap encS++(encN 2 t.grps.length++t.grps.flatMap encG))).getD i 0:Nat):Int)]) (m':=(encN 2 t.segs.length++(t.segs.flatMap encS++(encN 2 t.grps.length++t.grps.flatMap encG))).length) ?_ (fun i hi=>PLe.of (congrArg (fun z:Nat=>[AV.int .u8 (z:Int)]) (hbody i ?_)))) (RcJ.pu rfl))) (q2 _) (fun v gs' hp' _=>?_))
 ·show ((packT t).length-2:Int).toNat-4=(encT t).length
  omega
 ·have hi':i<((packT t).length-2:Int).toNat-4:=hi
  show i<(encT t).length
  omega
 obtain⟨rfl,rfl⟩:=hp'
 conv=>whnf
 repeat' ((first|refine CallS.call (CallN.rdI 1 (q3 _) rfl rfl ?_)|refine CallS.call (CallN.rdIF 1 hS rfl ?_)|refine CallS.call (CallN.rdIF 1 hG rfl ?_)|refine Br.nf (by assumption) ?_|refine Br.nf (by omega) ?_|refine CallS.q (hck) rfl ?_|refine FinAt.val rfl ?_);conv=>whnf)
 rfl
end Y
end Go.Proofs.YtllemifiammnnaaGreat
