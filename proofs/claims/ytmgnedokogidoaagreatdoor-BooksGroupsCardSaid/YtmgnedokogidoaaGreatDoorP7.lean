/- Several texts in one: Bg3. -/
import Derived.Test.YtmgnedokogidoaaGreatDoorP3
import Derived.Test.YtmgnedokogidoaaGreatDoorP4
import Derived.Test.YtmgnedokogidoaaGreatDoorP5
import Derived.Test.YtmgnedokogidoaaGreatDoorP6
import Derived.Shelf.Strings.Split
import Derived.Lib.ParseIntBTie
set_option linter.unusedVariables false
set_option linter.unusedSimpArgs false
set_option maxRecDepth 100000
namespace Go.Proofs.YtmgnedokogidoaaGreatDoor
open Go.RowKit Go.Sy
section
theorem c1d (c:UInt8) (r:List UInt8):∀{x:List UInt8},c∉x->Lib.indexByte (x++c::r) c=(x.length:Int)
 | [],_=>by
   show Lib.indexByte (c::r) c=0
   unfold Lib.indexByte
   rw [if_pos (by simp)]
 |b::x,h=>by
  have h1:b≠c:=fun e=>h (by rw [e];exact List.mem_cons_self ..)
  have h2:=c1d c r (x:=x) (fun e=>h (List.mem_cons_of_mem _ e))
  rw [List.cons_append]
  unfold Lib.indexByte
  rw [if_neg (by simpa using h1),h2,if_neg (by
   intro e
   have:=beq_iff_eq.1 e
   omega)]
  simp
theorem m0f (c:UInt8):∀(L:List (List UInt8)) (x:List UInt8),c∉x->(∀y∈L,c∉y)->Lib.splitK [c] 0 L.length (x++Lib.joinTail [c] L)=x::L
 | [],x,hx,_=>by simp [Lib.joinTail,Lib.splitK]
 |y::L,x,hx,hL=>by
  have e:x++Lib.joinTail [c] (y::L)=x++c::(y++Lib.joinTail [c] L):=by simp [Lib.joinTail]
  rw [e,List.length_cons]
  unfold Lib.splitK
  rw [Lib.index_one,c1d c _ hx,if_neg (by
   intro e
   have:=beq_iff_eq.1 e
   omega)]
  have ih:=m0f c L y (hL y (List.mem_cons_self ..)) (fun z hz=>hL z (List.mem_cons_of_mem _ hz))
  rw [Int.toNat_natCast,Nat.add_zero,List.take_left' rfl]
  have e2:(x++c::(y++Lib.joinTail [c] L)).drop (x.length+ [c].length)=y++Lib.joinTail [c] L:=by
   rw [<-List.drop_drop,List.drop_left' rfl];rfl
  rw [e2,ih]
theorem m0g (c:UInt8):∀(L:List (List UInt8)),(∀y∈L,c∉y)->(Lib.joinTail [c] L).count c=L.length
 | [],_=>by simp [Lib.joinTail]
 |y::L,hL=>by
  have e:Lib.joinTail [c] (y::L)=c::(y++Lib.joinTail [c] L):=by simp [Lib.joinTail]
  rw [e,List.count_cons_self,List.count_append,List.count_eq_zero.2 (hL y (List.mem_cons_self ..)),m0g c L (fun z hz=>hL z (List.mem_cons_of_mem _ hz)),List.length_cons]
  omega
theorem u0z (c:UInt8) (x:ByteArray) (L:List ByteArray) (hx:c∉x.data.toList) (hL:∀y∈L,c∉y.data.toList):
  Lib.countB (e0J (x::L) ⟨#[c]⟩) ⟨#[c]⟩=L.length/\Lib.splitB ⟨#[c]⟩ 0 L.length (e0J (x::L) ⟨#[c]⟩)=x::L:=by
 have hL2:∀y∈L.map (·.data.toList),c∉y:=fun y hy=>by
  obtain ⟨z,hz,rfl⟩:=List.mem_map.1 hy
  exact hL z hz
 have e:(e0J (x::L) ⟨#[c]⟩).data.toList=x.data.toList++Lib.joinTail [c] (L.map (·.data.toList)):=by
  unfold e0J
  show (Lib.join _ _).toArray.toList=_
  rw [List.toList_toArray,List.map_cons,Lib.join_cons]
 constructor
 .show Lib.count _ [c]=_
  rw [e,Lib.count_one,List.count_append,List.count_eq_zero.2 hx,m0g c _ hL2,List.length_map,Nat.zero_add]
 .have h:=Lib.splitB_data ⟨#[c]⟩ 0 L.length (e0J (x::L) ⟨#[c]⟩)
  rw [e] at h
  have h2:=m0f c (L.map (·.data.toList)) x.data.toList hx hL2
  rw [List.length_map] at h2
  rw [show (⟨#[c]⟩:ByteArray).data.toList= [c] from rfl,h2,<-List.map_cons (f:=fun b:ByteArray=>b.data.toList)] at h
  refine List.map_inj_right (f:=fun b:ByteArray=>b.data.toList) (fun a b hab=> ?_)|>.1 h
  cases a;cases b
  exact congrArg ByteArray.mk (Array.toList_inj.1 hab)
end
section
attribute [local irreducible] a0B a0D a0u a0Y
theorem k0z {H:a0v} {n a:Nat} {F:Nat->Blk} (ha:a<n) (hta:a0J H a=some (.one false (.cols 0 [.sc (.strs []),.sc (.ints .i64 []),.svs []]))):
  Relab H n (fun _ _=>none) (fun _=>0) [(a,some (.one false (.cols 0 [.sc (.strs []),.sc (.ints .i64 []),.own n []]))),(n+0,some (.fam false (fun x=>x<0) F))] [] 1:=by
 refine h0R (n:=n) (th:=a) [⟨0,0,F⟩] ha hta (i0J ⟨⟨fun _=>rfl,fun i hi=>f0s _⟩,⟨fun _=>rfl,fun i hi=>f0s _⟩,⟨fun _=>rfl,fun i hi=>absurd hi (Nat.not_lt_zero _)⟩,trivial⟩)
def nmE (A:List ByteArray):List ByteArray->Int
 | []=>0
 |a::L=>if h0V a=false then 5 else if inL a A then 7 else nmE (A++ [a]) L
def c1e (L:List ByteArray):Int:=if 512<L.length then 3 else nmE [] L
def lg0 (L:List ByteArray):Lg:=⟨L.length,L,0,[],0,[],fun _ _=>0,0⟩
theorem c1f:∀(L A:List ByteArray),nmE A L=0->A.Nodup->(A++L).Nodup/\∀a∈L,h0V a=true
 | [],A,_,hA=>⟨by simpa using hA,by simp⟩
 |a::L,A,h,hA=>by
  simp only [nmE] at h
  split at h
  .cases h
  .rename_i h1
   split at h
   .cases h
   .rename_i h2
    have h2':a∉A:=fun hm=>h2 (i0t.2 hm)
    have hA2:(A++ [a]).Nodup:=List.nodup_append.2 ⟨hA,by simp,fun x hx y hy e=>by simp at hy;subst hy;subst e;exact h2' hx⟩
    obtain ⟨i1,i2⟩:=c1f L (A++ [a]) h hA2
    rw [List.append_assoc] at i1
    refine ⟨i1,fun x hx=> ?_⟩
    rcases List.mem_cons.1 hx with rfl|hx
    .simpa using h1
    .exact i2 x hx
theorem g1H {L:List ByteArray} (h:c1e L=0):LgOk (lg0 L):=by
 unfold c1e at h
 split at h
 .cases h
 rename_i h1
 obtain ⟨i1,i2⟩:=c1f L [] h List.nodup_nil
 exact ⟨rfl,by show L.length<=512;omega,(by rw [List.nil_append] at i1;exact i1),i2,rfl,by show (0:Nat)<=512;omega,List.nodup_nil,(fun e he=>absurd he (List.not_mem_nil)),rfl,Nat.le_refl _,(fun x hx=>absurd hx (List.not_mem_nil)),fun a c=>rfl,fun a c=>by show (-4503599627370496:Int)<=0/\(0:Int)<=4503599627370496;omega,by show (0:Int)<=0/\(0:Int)<18446744073709551616;omega⟩
theorem e1c {L:List ByteArray} {k:Nat} (hk:k<L.length):nmE (L.take k) (L.drop k)=if h0V (L.getD k ⟨#[]⟩)=false then 5 else if inL (L.getD k ⟨#[]⟩) (L.take k) then 7 else nmE (L.take (k+1)) (L.drop (k+1)):=by
 rw [List.drop_eq_getElem_cons hk]
 simp only [nmE]
 rw [List.getD,List.getElem?_eq_getElem hk,List.take_add_one,List.getElem?_eq_getElem hk]
 rfl
theorem e1d {L:List ByteArray} {k:Nat} (hk:k<L.length) (hix:a0A (L.take k) (L.getD k ⟨#[]⟩)=k):
  (some (HB.one false (.obj (.map false false (if a0A (L.take k) (L.getD k ⟨#[]⟩)<k then k else k+1) [.strs (b0j (a0A (L.take k) (L.getD k ⟨#[]⟩)) (L.getD k ⟨#[]⟩) (L.take k))] [.sc (.bools (b0j (a0A (L.take k) (L.getD k ⟨#[]⟩)) true (List.replicate k true)))] (if a0A (L.take k) (L.getD k ⟨#[]⟩)<k then List.range k else List.range k++ [k]) (if a0A (L.take k) (L.getD k ⟨#[]⟩)<k then k else k+1)))):Option HB)
   =some (.one false (.obj (.map false false (k+1) [.strs (L.take (k+1))] [.sc (.bools (List.replicate (k+1) true))] (List.range (k+1)) (k+1)))):=by
 rw [hix]
 simp only [Nat.lt_irrefl,if_false]
 rw [c0h (l:=L.take k) (by rw [List.length_take];omega),c0h (l:=List.replicate k true) (by simp),List.range_succ,List.replicate_succ',List.take_add_one,List.getD,List.getElem?_eq_getElem hk]
 rfl
attribute [local irreducible] seq ByteArray.extract nmE
abbrev nwH (n k:Nat) (L:List ByteArray):a0v:= [(1,some (.one true (.cols n [.sc (.strs L)]))),(2,some (.one false (.obj (.map false false k [.strs (L.take k)] [.sc (.bools (List.replicate k true))] (List.range k) k)))),(3,some (.one false (.obj (.map false false 0 [.strs []] [.sc (.ints .i64 [])] [] 0)))),(4,some (.one false (.obj (.map false false 0 [.strs []] [.sc (.bools [])] [] 0)))),(5,some (.one false (.obj (.map true false 0 [.strs [],.strs []] [.sc (.ints .i64 [])] [] 0)))),(6,some (.one false (.cells [.map 2 0,.nsl,.map 3 0,.map 4 0,.map 5 0,.int .u64 0])))]
theorem x0G (L:List ByteArray) (n:Nat) (hn:L.length=n) (h:c1e L=0):FC Tryz.prog 2 38 [.sl 1 0 0 n] [(1,some (.one true (.cols n [.sc (.strs L)])))]
  (a0s (.tup [.ptr 2 0 0 0,.int .i64 0]) [(7,c1a false (lg0 L)),(2,some (.one false (.cells (lgF 3 4 5 6 7 (lg0 L))))),(3,some (.one false (l0d (lg0 L)))),(4,some (.one false (n0v 8 (lg0 L)))),(5,some (.one false (u0q (lg0 L)))),(6,some (.one false (g1G (lg0 L)))),(8,q0W false (lg0 L))] 9):=by
 have h512:n<=512:=by
  unfold c1e at h
  split at h
  .cases h
  .omega
 have e:c1e L=nmE [] L:=by unfold c1e;rw [if_neg (by omega)]
 rw [e] at h
 refine u0g (x:=⟨[],[],[],0⟩) ⟨[],rfl,rfl,rfl,List.Pairwise.nil,fun a c=>rfl,Nat.zero_le _⟩ ?_
 unfold lg0
 rw [hn]
 refine a0p mixed a0x Tryz.func38 rfl (by kernel_rfl) (by kernel_rfl) (by kernel_rfl) ?_
 repeat' ((conv=>whnf);first|((first|apply a0f|apply a0c|apply a0g|apply a0b|apply a0h|apply a0a)<;>intro h<;>try (exfalso;(try dsimp only at h);omega))|refine a0i ?_)
 all_goals (conv=>whnf)
 all_goals first
  |(exfalso;omega)
  |skip
 refine a0z (fun k:Nat=>⟨[(4,.ptr 6 0 0 0),(16,.sl 1 0 0 n),(17,.int .i64 n),(18,.int .i64 k)],nwH n k L,7⟩) (fun k=>k<=n/\nmE [] L=nmE (L.take k) (L.drop k)) (fun k=>n-k) 0 [0,1,2,3,4,5,6] [] ⟨rfl,⟨rfl,rfl,rfl,rfl,trivial⟩,⟨rfl,rfl,rfl,rfl,rfl,rfl,trivial⟩⟩ ⟨Nat.zero_le _,by simp⟩ ?_
 rintro k ⟨hk,hE⟩
 unfold nwH
 by_cases hk2:k<n
 .rw [e1c (by omega)] at hE
  have c1:=m0c (L.getD k ⟨#[]⟩)
  have hrep:=x0x k (a0A (L.take k) (L.getD k ⟨#[]⟩))
  have hle:=Go.Sy.sidx_le (L.take k) (L.getD k ⟨#[]⟩)
  have hlk:(L.take k).length=k:=by rw [List.length_take];omega
  by_cases g1:h0V (L.getD k ⟨#[]⟩)=false
  .rw [if_pos g1] at hE;omega
  rw [if_neg g1] at hE
  have g1':h0V (L.getD k ⟨#[]⟩)=true:=by simpa using g1
  rw [g1'] at c1
  by_cases g2:inL (L.getD k ⟨#[]⟩) (L.take k)
  .rw [if_pos g2] at hE;omega
  rw [if_neg g2] at hE
  unfold inL at g2
  rw [decide_eq_false (by omega)] at hrep
  have hrow:=e1d (L:=L) (k:=k) (by omega) (by omega)
  repeat' ((conv=>whnf);first|(refine a0j (c1) rfl rfl rfl ?_)|(refine a0m (c1) rfl rfl rfl ?_)|(simp only [g0r,hrep])|((first|apply a0f|apply a0c|apply a0g|apply a0b|apply a0h|apply a0a)<;>intro h<;>try (exfalso;(try dsimp only at h);omega))|refine a0i ?_)
  all_goals (conv=>whnf)
  all_goals first
   |exact ⟨k+1,[0,1,2,3,4,5,6],[],⟨hk2,hE⟩,(show n-(k+1)<n-k by omega),⟨rfl,⟨rfl,rfl,rfl,congrArg (fun z=>some (SV.int .i64 z)) (a0M (by omega)),trivial⟩,⟨rfl,hrow,rfl,rfl,rfl,rfl,trivial⟩⟩⟩
   |(exfalso;omega)
 have ek:k=n:=by omega
 subst ek
 rw [show L.take k=L by rw [<-hn,List.take_length]]
 repeat' ((conv=>whnf);first|((first|apply a0f|apply a0c|apply a0g|apply a0b|apply a0h|apply a0a)<;>intro h<;>try (exfalso;(try dsimp only at h);omega))|refine a0i ?_)
 all_goals (conv=>whnf)
 all_goals first
  |(exfalso;omega)
  |exact e0g (l:= [0,1,6,2,7,3,4,5,8]) [.cell 6 1 [.sc (.strs []),.sc (.ints .i64 []),.svs []],.relab (fun _ _=>none) (fun _=>0) [(7,some (.one false (.cols 0 [.sc (.strs []),.sc (.ints .i64 []),.own 8 []]))),(8+0,some (.fam false (fun x=>x<0) (enF [])))] [] 1] ⟨k0z (n:=8) (a:=7) (by decide) rfl,rfl,rfl,rfl,rfl,rfl,rfl,rfl,rfl,rfl,trivial⟩ (a0d (a0d (a0d (a0d (a0d (a0d (c0f a0k)))))))
end
section
attribute [local irreducible] sortI
theorem n0z {s:ByteArray}:∀{n:Nat},p0J s n=true->∀k,k<n->wdP (a0r s (k:Int))
 |0,_,k,hk=>absurd hk (Nat.not_lt_zero _)
 |n+1,h,k,hk=>by
  simp only [p0J,Bool.and_eq_true,decide_eq_true_eq] at h
  rcases Nat.lt_succ_iff_lt_or_eq.1 hk with h1|h1
  .exact n0z h.1 k h1
  .subst h1;exact h.2
theorem e1e {p:ByteArray} (h:nmB p=true):h0V (f0B p)=true:=by
 unfold nmB at h
 simp only [Bool.and_eq_true,decide_eq_true_eq] at h
 obtain ⟨⟨⟨h1,h2⟩,h3⟩,h4⟩:=h
 have hz:(f0B p).size=6+p.size:=by unfold f0B;rw [ByteArray.size_append];rfl
 unfold h0V
 rw [Bool.and_eq_true,hz]
 refine ⟨decide_eq_true (by omega),?_⟩
 rw [List.all_eq_true]
 intro i hi
 rw [List.mem_range] at hi
 unfold g1s
 refine decide_eq_true ?_
 by_cases hi6:i<6
 .unfold f0B
  rw [q0N (a:=f1h) (b:=p) (by show i<6;exact hi6)]
  rcases (show i=0\/i=1\/i=2\/i=3\/i=4\/i=5 by omega) with rfl|rfl|rfl|rfl|rfl|rfl<;>decide
 .have e:=q0O (a:=f1h) (b:=p) (i:=i-6)
  rw [show f1h.size+(i-6)=i by show 6+(i-6)=i;omega] at e
  have h5:=n0z h4 (i-6) (by omega)
  unfold wdP ltP at h5
  unfold f0B
  rw [e]
  omega
theorem s0N:∀(L A:List ByteArray),(A++L).Nodup->(∀a∈L,h0V a=true)->nmE A L=0
 | [],A,_,_=>rfl
 |a::L,A,h,hl=>by
  simp only [nmE]
  rw [if_neg (by rw [hl a (List.mem_cons_self ..)];decide)]
  have h1:a∉A:=fun hm=>by
   rw [List.nodup_append] at h
   exact h.2.2 a hm a (List.mem_cons_self ..) rfl
  rw [if_neg (fun hi=>h1 (i0t.1 hi))]
  exact s0N L (A++ [a]) (by rw [List.append_assoc];exact h) (fun x hx=>hl x (List.mem_cons_of_mem _ hx))
theorem x0H {L:List ByteArray} (h:f0L L=0):c1e (L.map f0B)=0:=by
 obtain ⟨h1,h2,h3⟩:=w0F h
 unfold c1e
 rw [List.length_map,if_neg (by omega)]
 refine s0N _ _ ?_ ?_
 .rw [List.nil_append]
  exact (List.Pairwise.map f0B (R:=fun a b=>a≠b) (S:=fun a b=>a≠b) (fun a b hab e=>hab (s0C e)) h2)
 .intro a ha
  obtain ⟨p,hp,rfl⟩:=List.mem_map.1 ha
  exact e1e (h3 p hp)
def bkE (cur:ByteArray) (days:Int) (H:List Int) (m:Nat) (cut:Int) (L:List ByteArray):Int:=
 if days<1\/1000<days then 4 else if f0W cur=false then 11 else if d1z H m≠0 then d1z H m else cnE cut L
def bk1 (cur:ByteArray) (days:Int) (H:List Int) (cut:Int) (L:List ByteArray):Bks:=
 ⟨cur,days,0,[],cut,(ddS H).length,ddS H,L.length,L,0,[],[],0,[],lg0 (L.map f0B),0⟩
theorem c1g {cur:ByteArray} {days:Int} {H:List Int} {m:Nat} {cut:Int} {L:List ByteArray} (h:bkE cur days H m cut L=0):BkOk (bk1 cur days H cut L):=by
 unfold bkE at h
 by_cases h1:days<1\/1000<days
 .rw [if_pos h1] at h;cases h
 rw [if_neg h1] at h
 by_cases h2:f0W cur=false
 .rw [if_pos h2] at h;cases h
 rw [if_neg h2] at h
 by_cases h3:d1z H m≠0
 .rw [if_pos h3] at h;exact absurd h h3
 rw [if_neg h3] at h
 unfold cnE at h
 by_cases h4:cut<0\/86400<cut
 .rw [if_pos h4] at h;cases h
 rw [if_neg h4] at h
 have hE:=x0H h
 exact ⟨g1H hE,rfl,fun a c=>by show-(999999999999*((0:Nat):Int))<=0/\(0:Int)<=999999999999*((0:Nat):Int);omega,rfl,rfl,h,
  ⟨rfl,rfl,List.nodup_nil,fun i hi=>absurd hi (Nat.not_lt_zero _)⟩,rfl,rfl,Nat.zero_le _,by show 1<=days/\days<=1000;omega,by show f0W cur=true;simpa using h2,by show (0:Int)<=0/\(0:Int)<=1099511627776;omega,Nat.le_refl _,fun i hi=>absurd hi (Nat.not_lt_zero _)⟩
end
section
abbrev u8L (l:List Int):List UInt8:=l.map (fun x=>UInt8.ofNat x.toNat)
theorem d0P (l:List Int):(a0F l).data.toList=u8L l:=by simp [a0F]
theorem c1h (k:Nat) (h:k<10):(UInt8.ofNat (((48+k:Nat):Int)).toNat).toNat=48+k:=by
 rw [show (((48+k:Nat):Int)).toNat=48+k from rfl,UInt8.toNat_ofNat']
 omega
theorem q0Y:∀(n u:Nat),u<10^n->∀(acc:Nat) (rest:List UInt8),acc*10^n+u<1000000000000000000->Lib.parseUint10 acc (u8L (e0x n u)++rest)=Lib.parseUint10 (acc*10^n+u) rest
 |0,u,h,acc,rest,_=>by
  have:u=0:=by simpa using h
  subst this
  simp [e0x]
 |n+1,u,h,acc,rest,hb=>by
  rw [Nat.pow_succ] at h hb
  have e:acc*(10^n*10)=acc*10^n*10:=by rw [Nat.mul_assoc]
  rw [e] at hb
  generalize hA:acc*10^n=A at*
  have ih:=q0Y n (u/10) (by omega) acc (UInt8.ofNat (((48+u%10:Nat):Int)).toNat::rest) (by rw [hA];omega)
  rw [hA] at ih
  simp only [u8L,e0x,List.map_append,List.map_cons,List.map_nil,List.append_assoc,List.singleton_append] at ih⊢
  rw [ih]
  have hd:=c1h (u%10) (by omega)
  simp only [Lib.parseUint10]
  rw [hd,if_pos (by omega),if_neg (by omega),if_neg (by omega),Nat.pow_succ,e]
  congr 1
  omega
theorem i0Q:∀(n u:Nat) (x:UInt8),x∈u8L (e0x n u)->48<=x.toNat/\x.toNat<=57
 |0,_,x,h=>by simp [e0x] at h
 |n+1,u,x,h=>by
  simp only [u8L,e0x,List.map_append,List.map_cons,List.map_nil,List.mem_append,List.mem_singleton] at h
  rcases h with h|rfl
  .exact i0Q n _ x h
  .rw [c1h (u%10) (by omega)];omega
theorem g1I (n:Nat) (h:n<1000000000000000000):Lib.parseIntB 64 (dec n).data.toList= .ok (n:Int):=by
 rw [Lib.parseIntB_64]
 unfold dec
 rw [d0P]
 have hp:=q0Y (b0Y n) n (g0m n) 0 [] (by omega)
 rw [List.append_nil,Nat.zero_mul,Nat.zero_add] at hp
 have hd:=i0Q (b0Y n) n
 have hl:(u8L (e0x (b0Y n) n)).length=b0Y n:=by rw [List.length_map,a0O]
 have h0:=e0y n
 generalize u8L (e0x (b0Y n) n)=l at*
 cases l with
 |nil=>simp at hl;omega
 |cons c r=>
  have hc:=hd c (by simp)
  simp only [Lib.atoiAll,Lib.parseMag]
  have hn:¬(c.toNat=43\/c.toNat=45):=by omega
  rw [if_neg hn,if_neg (List.cons_ne_nil _ _),hp]
  simp only [Lib.parseUint10]
  rw [if_neg (by omega),if_neg (by omega),if_neg (by omega)]
theorem g1J (n:Nat) (h:n<1000000000000000000):Lib.parseIntB 64 (a0F (45::e0x (b0Y n) n)).data.toList= .ok (-(n:Int)):=by
 rw [Lib.parseIntB_64,d0P]
 have hp:=q0Y (b0Y n) n (g0m n) 0 [] (by omega)
 rw [List.append_nil,Nat.zero_mul,Nat.zero_add] at hp
 have hl:(u8L (e0x (b0Y n) n)).length=b0Y n:=by rw [List.length_map,a0O]
 have h0:=e0y n
 have e:u8L (45::e0x (b0Y n) n)=45::u8L (e0x (b0Y n) n):=rfl
 rw [e]
 generalize u8L (e0x (b0Y n) n)=l at*
 have hne:l≠[]:=fun q=>by rw [q] at hl;simp at hl;omega
 simp only [Lib.atoiAll,Lib.parseMag]
 rw [if_pos (show (45:UInt8).toNat=43\/(45:UInt8).toNat=45 from .inr rfl),if_neg hne,hp]
 simp only [Lib.parseUint10]
 rw [if_neg (fun q=>q.1 rfl),if_neg (fun q=>by have:=q.2;omega),if_pos (show (45:UInt8).toNat=45 from rfl)]
theorem e1f {n:Int} (h1: -1000000000000000000<n) (h2:n<1000000000000000000):Lib.parseIntB 64 (c0g n).data.toList= .ok n:=by
 unfold c0g
 split
 .have:=g1J n.natAbs (by omega)
  rw [this]
  congr 1
  omega
 .rw [g1I n.toNat (by omega)]
  congr 1
  omega
theorem c1i {s:ByteArray} {c:UInt8} (h:∀k,k<s.size->a0r s (k:Int)≠(c.toNat:Int)):c∉s.data.toList:=by
 intro hm
 obtain ⟨k,hk,e⟩:=List.mem_iff_getElem.1 hm
 have hk2:k<s.size:=by show k<s.data.size;rw [<-Array.length_toList];exact hk
 refine h k hk2 ?_
 unfold a0r
 rw [Int.toNat_natCast,List.getD,List.getElem?_eq_getElem hk,e]
 rfl
theorem g1K {s:ByteArray} (h:auI s=true):(124:UInt8)∉s.data.toList:=by
 unfold auI at h
 rw [Bool.and_eq_true,List.all_eq_true] at h
 refine c1i fun k hk=> ?_
 have h1:=h.2 k (List.mem_range.2 hk)
 unfold auC at h1
 have h1:=of_decide_eq_true h1
 show a0r s (k:Int)≠124
 omega
theorem g1L {s:ByteArray} (h:nmB s=true):(124:UInt8)∉s.data.toList:=by
 unfold nmB at h
 simp only [Bool.and_eq_true] at h
 refine c1i fun k hk=> ?_
 have h1:=n0z h.2 k hk
 unfold wdP ltP at h1
 show a0r s (k:Int)≠124
 omega
theorem a1I {s:ByteArray} {u:Bool} {p:ByteArray->Bool} (h:fiB s u p=true) (hp:p s=true->(124:UInt8)∉s.data.toList):(124:UInt8)∉s.data.toList:=by
 unfold fiB at h
 cases u with
 |true=>exact hp h
 |false=>have e:s=⟨#[]⟩:=of_decide_eq_true h;rw [e];decide
theorem a1J (n:Int):(124:UInt8)∉(c0g n).data.toList:=by
 unfold c0g dec
 split
 .rw [d0P]
  intro hm
  rcases List.mem_cons.1 (show (124:UInt8)∈(45:UInt8)::u8L (e0x (b0Y n.natAbs) n.natAbs) from hm) with h|h
  .revert h;decide
  .have:=i0Q _ _ _ h
   revert this;decide
 .rw [d0P]
  intro hm
  have:=i0Q _ _ _ hm
  revert this;decide
theorem x0I {o:Bop} (h:CkOk o):Lib.countB (c0c o) ⟨#[124]⟩=8/\Lib.splitB ⟨#[124]⟩ 0 8 (c0c o)=c1b o:=by
 have hn:=h.n
 unfold bkN at hn
 simp only [Bool.and_eq_true] at hn
 unfold c0c c1b
 refine u0z 124 (c0g o.k) [c0g o.t,o.id,o.au,o.is,o.ac,c0g o.am,c0g o.fe,if o.fi=true then ⟨#[49]⟩ else ⟨#[48]⟩] (a1J _) ?_
 intro y hy
 simp only [List.mem_cons,List.not_mem_nil,or_false] at hy
 rcases hy with rfl|rfl|rfl|rfl|rfl|rfl|rfl|rfl
 .exact a1J _
 .exact a1I hn.1 g1K
 .exact a1I hn.2.1 g1K
 .exact a1I hn.2.2.1 g1L
 .exact a1I hn.2.2.2 g1L
 .exact a1J _
 .exact a1J _
 .split<;>decide
end
section
attribute [local irreducible] a0B a0D a0u a0Y sortI
theorem p0q (s:ByteArray) (c:UInt8) (k:Nat) (hs:s.size<=100000) (hk:Lib.countB s ⟨#[c]⟩=k):
  FC Tryz.prog 1 122 [.str s,.str ⟨#[c]⟩,.int .i64 0,.int .i64 (-1)] [] (a0s (.sl 1 0 0 (k+1)) [(1,some (.one false (.cols (k+1) [.sc (.strs (Lib.splitB ⟨#[c]⟩ 0 k s))])))] 2):=by
 have hle:=Lib.countB_le ⟨#[c]⟩ (Nat.le_refl 1) s.size s (Nat.le_refl _)
 have hlen:(Lib.splitB ⟨#[c]⟩ 0 k s).length=k+1:=Lib.splitB_all ⟨#[c]⟩ (Nat.le_refl 1) 0 _ s hk
 have key:=a1H (P:=Tryz.prog) (f:=122) (args:= [.str s,.str ⟨#[c]⟩,.int .i64 0,.int .i64 (-1)]) (vals:= [.string s,.string ⟨#[c]⟩,.int .i64 0,.int .i64 (-1)]) (Lib.splitB ⟨#[c]⟩ 0 k s) (Tryz.lays146_ren.t 9)
  (d0l Tryz.func122 (by kernel_rfl) (by kernel_rfl)) (fun g vs h=>by
   simp only [Rvs,Rv] at h
   obtain ⟨_,_,rfl,rfl,_,_,rfl,rfl,_,_,rfl,rfl,_,_,rfl,rfl,rfl⟩:=h
   rfl) (fun w=>by
   have h:=Any.strings_genSplit_core { Tryz.lays146 with} (by kernel_rfl) s ⟨#[c]⟩ 0 (-1) (k+1) w (by omega) (Nat.le_refl 1) (Nat.zero_le _)
    (fun x cs hx=>by
     refine (Any.strings_Index_one { Tryz.lays146 with} x c _).mono ?_
     rintro e w' ⟨rfl,rfl⟩
     refine ⟨?_,rfl⟩
     show _=Ending.returned (Value.int .i64 (Lib.index x.data.toList [c]))
     rw [Lib.index_one])
    (by
     refine (Any.strings_Count_one { Tryz.lays146 with} s c w).mono ?_
     rintro e w' ⟨rfl,rfl⟩
     refine ⟨?_,rfl⟩
     show _=Ending.returned (Value.int .i64 ((Lib.count s.data.toList [c]:Nat):Int))
     rw [Lib.count_one];rfl)
    (by decide) (by decide) (by rw [if_pos (by decide),hk];omega)
   refine h.mono ?_
   rintro e w' ⟨rfl,rfl⟩
   rw [Nat.add_sub_cancel,hlen]
   refine ⟨rfl,?_⟩
   have e2:Lib.cellsOf (Lib.splitB ⟨#[c]⟩ 0 k s) (k+1)=((Lib.splitB ⟨#[c]⟩ 0 k s).map Value.string).toArray:=by rw [<-hlen];exact Lib.cellsOf_full _
   rw [e2])
 rw [hlen] at key
 exact key
theorem x0J (s:ByteArray) (c:UInt8) (k:Nat) (hs:s.size<=100000) (hk:Lib.countB s ⟨#[c]⟩=k):
  FC Tryz.prog 1 100 [.str s,.str ⟨#[c]⟩] [] (a0s (.sl 1 0 0 (k+1)) [(1,some (.one false (.cols (k+1) [.sc (.strs (Lib.splitB ⟨#[c]⟩ 0 k s))])))] 2):=by
 have c1:=p0q s c k hs hk
 generalize Lib.splitB ⟨#[c]⟩ 0 k s=L at*
 refine a0p mixed a0x Tryz.func100 rfl (by kernel_rfl) (by kernel_rfl) (by kernel_rfl) ?_
 repeat' ((conv=>whnf);first|refine a0e (l:= [0]) (c1) ?_|refine a0l (l:= [0]) (c1) ?_|((first|apply a0f|apply a0c|apply a0g|apply a0b|apply a0h|apply a0a)<;>intro h<;>try (exfalso;(try dsimp only at h);omega))|refine a0i ?_)
 all_goals (conv=>whnf)
 all_goals first
  |exact a0n (l:= [0,1]) rfl rfl ⟨rfl,trivial⟩ (a0d a0k)
  |trace_state
theorem h0p (n:Int) (h1: -1000000000000000000<n) (h2:n<1000000000000000000):k0U Tryz.prog glT 101 [.str (c0g n)] (.tup [.int .i64 n,.bool true]):=by
 have hz:=b0G n (by omega) (by omega)
 have c1:c0a Tryz.prog 123 [.str (c0g n),.int .i64 10,.int .i64 64] (.tup [.int .i64 n,.nif]):=by
  refine g0W (vals:= [.string (c0g n),.int .i64 10,.int .i64 64]) (v:= .tuple #[.int .i64 n,.nilIface]) (d0l Tryz.func123 (by kernel_rfl) (by kernel_rfl)) ?_ ?_ ?_
  .intro g vs h
   simp only [Rvs,Rv] at h
   obtain ⟨_,_,rfl,rfl,_,_,rfl,rfl,_,_,rfl,rfl,rfl⟩:=h
   rfl
  .intro g;simp [Rv,Rvs]
  .intro w
   refine (Tryz.strconv_ParseInt_10_at64_ok (c0g n) (by omega) n (e1f h1 h2) w).mono ?_
   rintro e w' ⟨rfl,hw⟩
   refine ⟨rfl,?_⟩
   rcases hw with rfl|⟨t,rfl⟩
   .exact Below.refl _ _
   .exact Lib.bytesWorld_below _ _ _
 have c2:=b0I n (by omega) (by omega)
 have hq:seq (c0g n) (c0g n)=true:=decide_eq_true rfl
 refine a0p mixed a0x Tryz.func101 rfl (by kernel_rfl) (by kernel_rfl) (by kernel_rfl) ?_
 repeat' ((conv=>whnf);first|(refine a0j (c1) rfl rfl rfl ?_)|(refine a0m (c1) rfl rfl rfl ?_)|(refine a0t (c2) rfl rfl rfl rfl ?_)|(refine a0w (c2) rfl rfl rfl rfl ?_)|(rw [hq])|((first|apply a0f|apply a0c|apply a0g|apply a0b|apply a0h|apply a0a)<;>intro h<;>try (exfalso;(try dsimp only at h);omega))|refine a0i ?_)
 all_goals (conv=>whnf)
 all_goals first
  |(exfalso;exact h hq)
  |(exfalso;exact Bool.noConfusion (hq.symm.trans h))
  |exact a0o rfl
  |trace_state
end
section
attribute [local irreducible] a0B a0D a0u a0Y sortI seq ByteArray.extract
theorem g1M {o:Bop} (h:CkOk o):(-1000000000000000000<o.k/\o.k<1000000000000000000)/\(-1000000000000000000<o.t/\o.t<1000000000000000000)/\(-1000000000000000000<o.am/\o.am<1000000000000000000)/\(-1000000000000000000<o.fe/\o.fe<1000000000000000000):=by
 have ha:=h.a
 have hk:=h.k
 have ht:=h.t
 have hf:=h.f
 have hb: -999999999999<=o.am/\o.am<=999999999999:=by
  unfold pmB at ha
  repeat' split at ha
  all_goals (have ha:=of_decide_eq_true ha;omega)
 have hfe:o.fe<=999999999999:=by
  have:=hf.2
  split at this<;>omega
 omega
theorem i1u:seq ⟨#[49]⟩ ⟨#[48]⟩=false:=by unfold seq;decide
theorem i1v:seq ⟨#[49]⟩ ⟨#[49]⟩=true:=by unfold seq;decide
theorem i1w:seq ⟨#[48]⟩ ⟨#[48]⟩=true:=by unfold seq;decide
theorem i1x:seq ⟨#[48]⟩ ⟨#[49]⟩=false:=by unfold seq;decide
theorem e1g (X:List ByteArray) (tx:ByteArray) (k t am fe:Int) (fi:Bool) (hw1:IntKind.i64.wrap k=k) (hw2:IntKind.i64.wrap t=t)
  (c1:FC Tryz.prog 1 100 [.str tx,.str ⟨#[124]⟩] [] (a0s (.sl 1 0 0 (8+1)) [(1,some (.one false (.cols (8+1) [.sc (.strs X)])))] 2))
  (g1:k0U Tryz.prog glT 101 [.str (X.getD 0 ⟨#[]⟩)] (.tup [.int .i64 k,.bool true])) (g2:k0U Tryz.prog glT 101 [.str (X.getD 1 ⟨#[]⟩)] (.tup [.int .i64 t,.bool true]))
  (g3:k0U Tryz.prog glT 101 [.str (X.getD 6 ⟨#[]⟩)] (.tup [.int .i64 am,.bool true])) (g4:k0U Tryz.prog glT 101 [.str (X.getD 7 ⟨#[]⟩)] (.tup [.int .i64 fe,.bool true]))
  (p0:seq (X.getD 8 ⟨#[]⟩) ⟨#[48]⟩= !fi) (p1:seq (X.getD 8 ⟨#[]⟩) ⟨#[49]⟩=fi)
  (c2:c0a Tryz.prog 39 [.agg [.int .i64 k,.int .i64 t,.str (X.getD 2 ⟨#[]⟩),.str (X.getD 3 ⟨#[]⟩),.str (X.getD 4 ⟨#[]⟩),.str (X.getD 5 ⟨#[]⟩),.int .i64 am,.int .i64 fe,.bool fi]] (.int .i64 0)):
  k0U Tryz.prog glT 74 [.str tx] (.tup [.agg [.int .i64 k,.int .i64 t,.str (X.getD 2 ⟨#[]⟩),.str (X.getD 3 ⟨#[]⟩),.str (X.getD 4 ⟨#[]⟩),.str (X.getD 5 ⟨#[]⟩),.int .i64 am,.int .i64 fe,.bool fi],.int .i64 0]):=by
 have q0:seq (X.getD (Int.toNat 8+0) ⟨#[]⟩) ⟨#[48]⟩= !fi:=p0
 have q1:seq (X.getD (Int.toNat 8+0) ⟨#[]⟩) ⟨#[49]⟩=fi:=p1
 cases fi with
 |true=>
  refine a0p mixed a0x Tryz.func74 rfl (by kernel_rfl) (by kernel_rfl) (by kernel_rfl) ?_
  repeat' ((conv=>whnf);first|(rw [q0])|(rw [q1])|(rw [hw1])|(rw [hw2])|refine a0e (l:= [0]) (c1) ?_|refine a0l (l:= [0]) (c1) ?_|(refine a0t (g1) rfl rfl rfl rfl ?_)|(refine a0w (g1) rfl rfl rfl rfl ?_)|(refine a0t (g2) rfl rfl rfl rfl ?_)|(refine a0w (g2) rfl rfl rfl rfl ?_)|(refine a0t (g3) rfl rfl rfl rfl ?_)|(refine a0w (g3) rfl rfl rfl rfl ?_)|(refine a0t (g4) rfl rfl rfl rfl ?_)|(refine a0w (g4) rfl rfl rfl rfl ?_)|(refine a0j (c2) rfl rfl rfl ?_)|(refine a0m (c2) rfl rfl rfl ?_)|((first|apply a0f|apply a0c|apply a0g|apply a0b|apply a0h|apply a0a)<;>intro h<;>try (exfalso;(try dsimp only at h);omega))|refine a0i ?_)
  all_goals (conv=>whnf)
  all_goals first
   |(exfalso;omega)
   |(exfalso;exact h rfl)
   |exact a0o rfl
   |trace_state
 |false=>
  refine a0p mixed a0x Tryz.func74 rfl (by kernel_rfl) (by kernel_rfl) (by kernel_rfl) ?_
  repeat' ((conv=>whnf);first|(rw [q0])|(rw [q1])|(rw [hw1])|(rw [hw2])|refine a0e (l:= [0]) (c1) ?_|refine a0l (l:= [0]) (c1) ?_|(refine a0t (g1) rfl rfl rfl rfl ?_)|(refine a0w (g1) rfl rfl rfl rfl ?_)|(refine a0t (g2) rfl rfl rfl rfl ?_)|(refine a0w (g2) rfl rfl rfl rfl ?_)|(refine a0t (g3) rfl rfl rfl rfl ?_)|(refine a0w (g3) rfl rfl rfl rfl ?_)|(refine a0t (g4) rfl rfl rfl rfl ?_)|(refine a0w (g4) rfl rfl rfl rfl ?_)|(refine a0j (c2) rfl rfl rfl ?_)|(refine a0m (c2) rfl rfl rfl ?_)|((first|apply a0f|apply a0c|apply a0g|apply a0b|apply a0h|apply a0a)<;>intro h<;>try (exfalso;(try dsimp only at h);omega))|refine a0i ?_)
  all_goals (conv=>whnf)
  all_goals first
   |(exfalso;omega)
   |(exfalso;exact h rfl)
   |exact a0o rfl
   |trace_state
theorem p0r (o:Bop) (hc:ckE o=0):k0U Tryz.prog glT 74 [.str (c0c o)] (.tup [o.s,.int .i64 0]):=by
 have hO:=z0R hc
 obtain ⟨b1,b2,b3,b4⟩:=g1M hO
 have hz:=s0L (c1c hO)
 obtain ⟨s1,s2⟩:=x0I hO
 have c1:=x0J (c0c o) 124 8 (Nat.le_trans hz (by decide)) s1
 rw [s2] at c1
 have c2:=d0O o
 rw [hc] at c2
 refine e1g (c1b o) (c0c o) o.k o.t o.am o.fe o.fi (a0G (by omega) (by omega)) (a0G (by omega) (by omega)) c1 (h0p o.k b1.1 b1.2) (h0p o.t b2.1 b2.2) (h0p o.am b3.1 b3.2) (h0p o.fe b4.1 b4.2) ?_ ?_ c2
 .show seq (if o.fi=true then (⟨#[49]⟩:ByteArray) else ⟨#[48]⟩) ⟨#[48]⟩= !o.fi
  cases o.fi
  .exact i1w
  .exact i1u
 .show seq (if o.fi=true then (⟨#[49]⟩:ByteArray) else ⟨#[48]⟩) ⟨#[49]⟩=o.fi
  cases o.fi
  .exact i1x
  .exact i1v
end
section
def a1K:Bop:=⟨0,0,⟨#[]⟩,⟨#[]⟩,⟨#[]⟩,⟨#[]⟩,0,0,false⟩
def b0g (s0:Bks) (A:List Bop):Bks:=A.foldl doS s0
structure Ran (s0:Bks) (A:List Bop):Prop where
 ok:∀k,k<A.length->doE (b0g s0 (A.take k)) (A.getD k a1K)=0
theorem x0K (s0:Bks):Ran s0 []:=⟨fun k h=>absurd h (Nat.not_lt_zero _)⟩
theorem p0s (s0:Bks) (A:List Bop) (o:Bop):b0g s0 (A++ [o])=doS (b0g s0 A) o:=by
 unfold b0g;rw [List.foldl_append];rfl
theorem a1L {s0:Bks} {A:List Bop} {o:Bop} (h:Ran s0 A) (ho:doE (b0g s0 A) o=0):Ran s0 (A++ [o]):=by
 refine ⟨fun k hk=> ?_⟩
 rw [List.length_append,List.length_singleton] at hk
 by_cases e:k=A.length
 .subst e
  rw [List.take_append_of_le_length (Nat.le_refl _),List.take_length,List.getD,List.getElem?_append_right (Nat.le_refl _),Nat.sub_self]
  exact ho
 .rw [List.take_append_of_le_length (by omega),List.getD,List.getElem?_append_left (by omega)]
  exact h.ok k (by omega)
theorem g0s {s0:Bks} (h:BkOk s0):∀A,BkOk (b0g s0 A):=by
 intro A
 unfold b0g
 induction A generalizing s0 with
 |nil=>exact h
 |cons o A ih=>exact ih (d1T h o)
theorem x0L (s0:Bks) (A:List Bop) {k:Nat} (hk:k<A.length):doS (b0g s0 (A.take k)) (A.getD k a1K)=b0g s0 (A.take (k+1)):=by
 rw [<-p0s,show A.take k++ [A.getD k a1K]=A.take (k+1) by rw [List.take_succ_eq_append_getElem hk,List.getD,List.getElem?_eq_getElem hk];rfl]
theorem i1y {s:Bks} {o:Bop} (h:doE s o≠0):doS s o=s:=if_neg h
theorem x0M {s:Bks} {o:Bop} (h:doE s o=0):ckE o=0:=by
 unfold doE at h
 split at h
 .rename_i h1;exact absurd h h1
 .rename_i h1;exact Classical.not_not.1 h1
theorem g1N (A:List Bop) {k:Nat} (hk:k<A.length):(A.map c0c).getD k ⟨#[]⟩=c0c (A.getD k a1K):=by
 rw [List.getD,List.getElem?_map,List.getElem?_eq_getElem hk,List.getD,List.getElem?_eq_getElem hk];rfl
end
section
attribute [local irreducible] a0B a0D a0u a0Y sortI
def auN (a:Au):List Int:= [a.app,a.rev,a.cle,a.exp,a.att,a.unt,a.pa]
def auF (a:Au):List ByteArray:= [a.id,a.cur,c0g a.app,c0g a.rev,c0g a.cle,c0g a.exp,c0g a.att,c0g a.unt,c0g a.pa]
def auT (a:Au):ByteArray:=if c0q a=0 then e0J (auF a) ⟨#[47]⟩ else ⟨#[]⟩
theorem x0N {a:Au} (h:Facts a) {k:Nat} (hk:k<7): -9223372036854775808<=(auN a).getD k 0/\(auN a).getD k 0<=9223372036854775807:=by
 have h1:=h.app
 have h2:=h.rev
 have h3:=h.cle
 have h4:=h.exp
 have h5:=h.time
 have h6:=h.pa
 rcases (show k=0\/k=1\/k=2\/k=3\/k=4\/k=5\/k=6 by omega) with rfl|rfl|rfl|rfl|rfl|rfl|rfl
 .show _<=a.app/\a.app<=_;omega
 .show _<=a.rev/\a.rev<=_;omega
 .show _<=a.cle/\a.cle<=_;omega
 .show _<=a.exp/\a.exp<=_;omega
 .show _<=a.att/\a.att<=_;omega
 .show _<=a.unt/\a.unt<=_;omega
 .show _<=a.pa/\a.pa<=_;omega
theorem a1M (a:Au) {k:Nat} (hk:k<7):(auF a).take (2+k)++ [c0g ((auN a).getD k 0)]=(auF a).take (2+k+1):=by
 rcases (show k=0\/k=1\/k=2\/k=3\/k=4\/k=5\/k=6 by omega) with rfl|rfl|rfl|rfl|rfl|rfl|rfl<;>rfl
theorem s0O {a:Au} (h:Facts a):(e0J (auF a) ⟨#[47]⟩).size<=1000:=by
 have g:∀k,k<7->(c0g ((auN a).getD k 0)).size<=21:=fun k hk=>b0G _ (x0N h hk).1 (x0N h hk).2
 have h0:(c0g a.app).size<=21:=g 0 (by decide)
 have h1:(c0g a.rev).size<=21:=g 1 (by decide)
 have h2:(c0g a.cle).size<=21:=g 2 (by decide)
 have h3:(c0g a.exp).size<=21:=g 3 (by decide)
 have h4:(c0g a.att).size<=21:=g 4 (by decide)
 have h5:(c0g a.unt).size<=21:=g 5 (by decide)
 have h6:(c0g a.pa).size<=21:=g 6 (by decide)
 have h7:a.id.data.size<=16:=x0F h.id
 have h8:a.cur.data.size<=3:=s0H h.cur
 unfold e0J auF
 show (Lib.join _ _).toArray.size<=1000
 rw [List.size_toArray,List.map_cons,Lib.join_cons,List.length_append,Lib.joinTail_length]
 simp only [Lib.lens,List.map_cons,List.map_nil,List.sum_cons,List.sum_nil,List.length_cons,List.length_nil,Array.length_toList]
 simp only [ByteArray.size] at h0 h1 h2 h3 h4 h5 h6
 omega
theorem l0e (a:Au) (h:c0q a≠0):k0U Tryz.prog glT 23 [a.s] (.str ⟨#[]⟩):=by
 have c1:=f0C a
 generalize c0q a=E at*
 refine a0p mixed a0x Tryz.func23 rfl (by kernel_rfl) (by kernel_rfl) (by kernel_rfl) ?_
 repeat' ((conv=>whnf);first|(refine a0j (c1) rfl rfl rfl ?_)|(refine a0m (c1) rfl rfl rfl ?_)|((first|apply a0f|apply a0c|apply a0g|apply a0b|apply a0h|apply a0a)<;>intro h<;>try (exfalso;(try dsimp only at h);omega))|refine a0i ?_)
 all_goals (conv=>whnf)
 all_goals first
  |(exfalso;omega)
  |(exfalso;exact h (by assumption))
  |exact a0o rfl
  |trace_state
theorem l0f (a:Au) (h:c0q a=0):k0U Tryz.prog glT 23 [a.s] (.str (e0J (auF a) ⟨#[47]⟩)):=by
 have c1:=f0C a
 rw [h] at c1
 have hF:=i0K h
 have hz:=s0O hF
 have c2:=s0M 9 (auF a) ⟨#[47]⟩ (by decide) (by decide) (by omega)
 refine a0p mixed a0x Tryz.func23 rfl (by kernel_rfl) (by kernel_rfl) (by kernel_rfl) ?_
 repeat' ((conv=>whnf);first|(refine a0j (c1) rfl rfl rfl ?_)|(refine a0m (c1) rfl rfl rfl ?_)|((first|apply a0f|apply a0c|apply a0g|apply a0b|apply a0h|apply a0a)<;>intro h<;>try (exfalso;(try dsimp only at h);omega))|refine a0i ?_)
 all_goals (conv=>whnf)
 all_goals first
  |(exfalso;omega)
  |(exfalso;exact h rfl)
  |skip
 refine a0z (fun k:Nat=>⟨[(3,.sl 2 0 0 (2+k)),(28,.sl 3 0 0 7),(29,.int .i64 ((7:Nat):Int)),(30,.int .i64 k)],[(0,some (GB glT)),(2,some (.one false (.cols (2+k) [.sc (.strs ((auF a).take (2+k)))]))),(3,some (.one false (.cols 7 [.sc (.ints .i64 (auN a))])))],4⟩) (fun k=>k<=7) (fun k=>7-k) 0 [0,1,2,3] [] ⟨rfl,⟨rfl,rfl,rfl,rfl,trivial⟩,⟨gwk rfl,rfl,rfl,trivial⟩⟩ (Nat.zero_le _) ?_
 intro k hk
 by_cases hk2:k<7
 .have hb:=x0N hF hk2
  have c3:=b0I ((auN a).getD k 0) hb.1 hb.2
  have hT:=congrArg (fun z=>some (HB.one false (Blk.cols (2+k+1) [.sc (.strs z)]))) (a1M a hk2)
  generalize auN a=N at*
  generalize auF a=F at*
  repeat' ((conv=>whnf);first|(refine a0t (c3) rfl rfl rfl rfl ?_)|(refine a0w (c3) rfl rfl rfl rfl ?_)|((first|apply a0f|apply a0c|apply a0g|apply a0b|apply a0h|apply a0a)<;>intro h<;>try (exfalso;(try dsimp only at h);omega))|refine a0i ?_)
  all_goals (conv=>whnf)
  all_goals first
   |(exfalso;omega)
   |exact ⟨k+1,[0,1,5,3],[],hk2,(show 7-(k+1)<7-k by omega),⟨rfl,⟨rfl,rfl,rfl,congrArg (fun z=>some (SV.int .i64 z)) (a0M (by omega)),trivial⟩,⟨gwk rfl,hT,rfl,trivial⟩⟩⟩
   |trace_state
 obtain rfl:k=7:=by omega
 rw [show (auF a).take (2+7)=auF a from rfl]
 generalize auF a=F at*
 repeat' ((conv=>whnf);first|refine a0e (l:= [0,2]) (c2) ?_|refine a0l (l:= [0,2]) (c2) ?_|((first|apply a0f|apply a0c|apply a0g|apply a0b|apply a0h|apply a0a)<;>intro h<;>try (exfalso;(try dsimp only at h);omega))|refine a0i ?_)
 all_goals (conv=>whnf)
 all_goals first
  |(exfalso;omega)
  |exact a0o rfl
  |trace_state
theorem q0Z (a:Au):k0U Tryz.prog glT 23 [a.s] (.str (auT a)):=by
 unfold auT
 by_cases h:c0q a=0
 .rw [if_pos h];exact l0f a h
 .rw [if_neg h];exact l0e a h
theorem c1j (a:Au):(auT a).size<=1000:=by
 unfold auT
 split
 .rename_i h;exact s0O (i0K h)
 .decide
end
section
attribute [local irreducible] a0B a0D a0u a0Y sortI
attribute [local irreducible] seq ByteArray.extract lgE
theorem s0P (s:Bks) (o:Bop) (h:BkOk s) (hc:CkOk o) (hk:o.k=4\/o.k=5\/o.k=6) (hi:¬inL o.id s.lg.ids) (hf:¬512<=s.lg.ne):
  FC Tryz.prog 20 233 [.ptr 1 0 0 0,o.s,.str (mtF o),.str (mtG o),.int .i64 (mtN o)] (h0n s) (a0s (.int .i64 (owX s o.t (mtF o) (mtG o) (mtN o))) (h0o (if owX s o.t (mtF o) (mtG o) (mtN o)=0 then owS s o else s)) 26):=by
 by_cases hx:owX s o.t (mtF o) (mtG o) (mtN o)=0
 .rw [if_pos hx,hx]
  exact x0E s o h hc hk hi hf hx
 .rw [if_neg hx]
  exact x0D s o (mtF o) (mtG o) (mtN o) h hx
theorem s0Q {n:Nat} (h:¬512<=n):(n:Int)<512:=by omega
theorem e1h (s:Bks) (o:Bop) (h:BkOk s) (hc:CkOk o) (hk:o.k=5) (hi:¬inL o.id s.lg.ids) (hf:¬512<=s.lg.ne):FC Tryz.prog 20 231 [.agg [],.ptr 1 0 0 0,o.s] (h0n s) (a0s (.int .i64 (mmE s o)) (h0o (if mmE s o=0 then mmS s o else s)) 26):=by
 have hb:=q0Q hc (by omega)
 have eF:mtF o=o.ac:=by unfold mtF;rw [if_pos hk]
 have eG:mtG o=o.is:=by unfold mtG;rw [if_pos hk]
 have eN:mtN o=o.am-o.fe:=by unfold mtN;rw [if_neg (by omega)]
 have hE:mmE s o=owX s o.t (mtF o) (mtG o) (mtN o):=by unfold mmE;rw [if_neg hi,if_neg hf,if_neg (by omega)]
 have hS:mmS s o=owS s o:=by unfold mmS;rw [if_neg (by omega)]
 have c2:=s0P s o h hc (by omega) hi hf
 have c1:=f0D s.lg o.id h.lg
 rw [if_neg hi] at c1
 rw [hE,hS]
 rw [eF,eG,eN] at c2⊢
 rw [eN] at hb
 have hw:IntKind.i64.wrap (o.am-o.fe)=o.am-o.fe:=by rw [a0G (by omega) (by omega)]
 have hfi:=s0Q hf
 generalize owX s o.t o.ac o.is (o.am-o.fe)=E at*
 generalize (if E=0 then owS s o else s)=S' at*
 refine a0p mixed a0x Tryz.func231 rfl (by kernel_rfl) (by kernel_rfl) (by kernel_rfl) ?_
 repeat' ((conv=>whnf);first|(rw [hw])|refine a0e (l:= [0,4,5,6,7,8,9,10]) (c1) ?_|refine a0l (l:= [0,4,5,6,7,8,9,10]) (c1) ?_|refine a0e (l:= [0,1,2,3,4,5,6,7,8,9,10,11,12,13,14,15,16,17,18,19]) (c2) ?_|refine a0l (l:= [0,1,2,3,4,5,6,7,8,9,10,11,12,13,14,15,16,17,18,19]) (c2) ?_|((first|apply a0f|apply a0c|apply a0g|apply a0b|apply a0h|apply a0a)<;>intro h<;>try (exfalso;(try dsimp only at h);omega))|refine a0i ?_)
 all_goals (conv=>whnf)
 all_goals first
  |(exfalso;omega)
  |exact a0n (l:= [0,1,2,3,4,5,6,7,8,9,10,11,12,13,14,15,16,17,18,19,23,24,25,26,27,28]) rfl rfl ⟨rfl,rfl,rfl,rfl,rfl,rfl,rfl,rfl,rfl,rfl,rfl,rfl,rfl,rfl,rfl,rfl,rfl,rfl,rfl,trivial⟩ a0P
  |trace_state
theorem a1N (s:Bks) (o:Bop) (h:BkOk s) (hc:CkOk o) (hk:o.k=6) (ha:o.am<0) (hi:¬inL o.id s.lg.ids) (hf:¬512<=s.lg.ne):FC Tryz.prog 20 231 [.agg [],.ptr 1 0 0 0,o.s] (h0n s) (a0s (.int .i64 (mmE s o)) (h0o (if mmE s o=0 then mmS s o else s)) 26):=by
 have hb:=q0Q hc (by omega)
 have eF:mtF o=o.is:=by unfold mtF;rw [if_neg (by omega),if_neg (fun e=>e.2 ha)]
 have eG:mtG o=o.ac:=by unfold mtG;rw [if_neg (by omega),if_neg (fun e=>e.2 ha)]
 have eN:mtN o= -o.am:=by unfold mtN;rw [if_pos hk,if_pos ha]
 have hE:mmE s o=owX s o.t (mtF o) (mtG o) (mtN o):=by unfold mmE;rw [if_neg hi,if_neg hf,if_neg (by omega)]
 have hS:mmS s o=owS s o:=by unfold mmS;rw [if_neg (by omega)]
 have c2:=s0P s o h hc (by omega) hi hf
 have c1:=f0D s.lg o.id h.lg
 rw [if_neg hi] at c1
 rw [hE,hS]
 rw [eF,eG,eN] at c2⊢
 rw [eN] at hb
 have hw:IntKind.i64.wrap (0-o.am)= -o.am:=by rw [a0G (by omega) (by omega)];omega
 have hfi:=s0Q hf
 generalize owX s o.t o.is o.ac (-o.am)=E at*
 generalize (if E=0 then owS s o else s)=S' at*
 refine a0p mixed a0x Tryz.func231 rfl (by kernel_rfl) (by kernel_rfl) (by kernel_rfl) ?_
 repeat' ((conv=>whnf);first|(rw [hw])|refine a0e (l:= [0,4,5,6,7,8,9,10]) (c1) ?_|refine a0l (l:= [0,4,5,6,7,8,9,10]) (c1) ?_|refine a0e (l:= [0,1,2,3,4,5,6,7,8,9,10,11,12,13,14,15,16,17,18,19]) (c2) ?_|refine a0l (l:= [0,1,2,3,4,5,6,7,8,9,10,11,12,13,14,15,16,17,18,19]) (c2) ?_|((first|apply a0f|apply a0c|apply a0g|apply a0b|apply a0h|apply a0a)<;>intro h<;>try (exfalso;(try dsimp only at h);omega))|refine a0i ?_)
 all_goals (conv=>whnf)
 all_goals first
  |(exfalso;omega)
  |exact a0n (l:= [0,1,2,3,4,5,6,7,8,9,10,11,12,13,14,15,16,17,18,19,23,24,25,26,27,28]) rfl rfl ⟨rfl,rfl,rfl,rfl,rfl,rfl,rfl,rfl,rfl,rfl,rfl,rfl,rfl,rfl,rfl,rfl,rfl,rfl,rfl,trivial⟩ a0P
  |trace_state
theorem a1O (s:Bks) (o:Bop) (h:BkOk s) (hc:CkOk o) (hk:o.k=6) (ha:¬o.am<0) (hi:¬inL o.id s.lg.ids) (hf:¬512<=s.lg.ne):FC Tryz.prog 20 231 [.agg [],.ptr 1 0 0 0,o.s] (h0n s) (a0s (.int .i64 (mmE s o)) (h0o (if mmE s o=0 then mmS s o else s)) 26):=by
 have hb:=q0Q hc (by omega)
 have eF:mtF o=o.ac:=by unfold mtF;rw [if_neg (by omega),if_pos ⟨hk,ha⟩]
 have eG:mtG o=o.is:=by unfold mtG;rw [if_neg (by omega),if_pos ⟨hk,ha⟩]
 have eN:mtN o=o.am:=by unfold mtN;rw [if_pos hk,if_neg ha]
 have hE:mmE s o=owX s o.t (mtF o) (mtG o) (mtN o):=by unfold mmE;rw [if_neg hi,if_neg hf,if_neg (by omega)]
 have hS:mmS s o=owS s o:=by unfold mmS;rw [if_neg (by omega)]
 have c2:=s0P s o h hc (by omega) hi hf
 have c1:=f0D s.lg o.id h.lg
 rw [if_neg hi] at c1
 rw [hE,hS]
 rw [eF,eG,eN] at c2⊢
 rw [eN] at hb
 have hw:IntKind.i64.wrap o.am=o.am:=by rw [a0G (by omega) (by omega)]
 have hfi:=s0Q hf
 generalize owX s o.t o.ac o.is (o.am)=E at*
 generalize (if E=0 then owS s o else s)=S' at*
 refine a0p mixed a0x Tryz.func231 rfl (by kernel_rfl) (by kernel_rfl) (by kernel_rfl) ?_
 repeat' ((conv=>whnf);first|refine a0e (l:= [0,4,5,6,7,8,9,10]) (c1) ?_|refine a0l (l:= [0,4,5,6,7,8,9,10]) (c1) ?_|refine a0e (l:= [0,1,2,3,4,5,6,7,8,9,10,11,12,13,14,15,16,17,18,19]) (c2) ?_|refine a0l (l:= [0,1,2,3,4,5,6,7,8,9,10,11,12,13,14,15,16,17,18,19]) (c2) ?_|((first|apply a0f|apply a0c|apply a0g|apply a0b|apply a0h|apply a0a)<;>intro h<;>try (exfalso;(try dsimp only at h);omega))|refine a0i ?_)
 all_goals (conv=>whnf)
 all_goals first
  |(exfalso;omega)
  |exact a0n (l:= [0,1,2,3,4,5,6,7,8,9,10,11,12,13,14,15,16,17,18,19,23,24,25,26,27,28]) rfl rfl ⟨rfl,rfl,rfl,rfl,rfl,rfl,rfl,rfl,rfl,rfl,rfl,rfl,rfl,rfl,rfl,rfl,rfl,rfl,rfl,trivial⟩ a0P
  |trace_state
theorem x0O (s:Bks) (o:Bop) (h:BkOk s) (hk:o.k=4\/o.k=5\/o.k=6) (hi:inL o.id s.lg.ids):FC Tryz.prog 20 231 [.agg [],.ptr 1 0 0 0,o.s] (h0n s) (a0s (.int .i64 15) (h0o s) 26):=by
 have c1:=f0D s.lg o.id h.lg
 rw [if_pos hi] at c1
 refine a0p mixed a0x Tryz.func231 rfl (by kernel_rfl) (by kernel_rfl) (by kernel_rfl) ?_
 repeat' ((conv=>whnf);first|refine a0e (l:= [0,4,5,6,7,8,9,10]) (c1) ?_|refine a0l (l:= [0,4,5,6,7,8,9,10]) (c1) ?_|((first|apply a0f|apply a0c|apply a0g|apply a0b|apply a0h|apply a0a)<;>intro h<;>try (exfalso;(try dsimp only at h);omega))|refine a0i ?_)
 all_goals (conv=>whnf)
 all_goals first
  |(exfalso;omega)
  |exact a0n (l:= [0,1,2,3,4,5,6,7,8,9,10,11,12,13,14,15,16,17,18,19,2,6,10,17,18,19]) rfl rfl ⟨rfl,rfl,rfl,rfl,rfl,rfl,rfl,rfl,rfl,rfl,rfl,rfl,rfl,rfl,rfl,rfl,rfl,rfl,rfl,trivial⟩ a0P
  |trace_state
theorem r0a (s:Bks) (o:Bop) (h:BkOk s) (hk:o.k=4\/o.k=5\/o.k=6) (hi:¬inL o.id s.lg.ids) (hf:512<=s.lg.ne):FC Tryz.prog 20 231 [.agg [],.ptr 1 0 0 0,o.s] (h0n s) (a0s (.int .i64 12) (h0o s) 26):=by
 have c1:=f0D s.lg o.id h.lg
 rw [if_neg hi] at c1
 refine a0p mixed a0x Tryz.func231 rfl (by kernel_rfl) (by kernel_rfl) (by kernel_rfl) ?_
 repeat' ((conv=>whnf);first|refine a0e (l:= [0,4,5,6,7,8,9,10]) (c1) ?_|refine a0l (l:= [0,4,5,6,7,8,9,10]) (c1) ?_|((first|apply a0f|apply a0c|apply a0g|apply a0b|apply a0h|apply a0a)<;>intro h<;>try (exfalso;(try dsimp only at h);omega))|refine a0i ?_)
 all_goals (conv=>whnf)
 all_goals first
  |(exfalso;omega)
  |exact a0n (l:= [0,1,2,3,4,5,6,7,8,9,10,11,12,13,14,15,16,17,18,19,2,6,10,17,18,19]) rfl rfl ⟨rfl,rfl,rfl,rfl,rfl,rfl,rfl,rfl,rfl,rfl,rfl,rfl,rfl,rfl,rfl,rfl,rfl,rfl,rfl,trivial⟩ a0P
  |trace_state
set_option maxHeartbeats 2000000 in
theorem e1i (s:Bks) (o:Bop) (h:BkOk s) (hc:CkOk o) (hk:o.k=4) (hi:¬inL o.id s.lg.ids) (hf:¬512<=s.lg.ne):FC Tryz.prog 20 231 [.agg [],.ptr 1 0 0 0,o.s] (h0n s) (a0s (.int .i64 (mmE s o)) (h0o (if mmE s o=0 then mmS s o else s)) 26):=by
 have hb':=q0Q hc (by omega)
 have eF:mtF o=o.is:=by unfold mtF;rw [if_neg (by omega),if_neg (by omega)]
 have eG:mtG o=o.ac:=by unfold mtG;rw [if_neg (by omega),if_neg (by omega)]
 have eN:mtN o=o.am-o.fe:=by unfold mtN;rw [if_neg (by omega)]
 have c2:=s0P s o h hc (by omega) hi hf
 have c1:=f0D s.lg o.id h.lg
 rw [if_neg hi] at c1
 have c3:=u0l (d0e s.au (s.pl o.au)) o.am o.fi
 have hidk:=x0C (a:=d0e s.au (s.pl o.au)) (n:=o.am) (b:=o.fi)
 have hmS:mmS s o= { owS s o with au:=s.au.set (s.pl o.au) (clA s o).1}:=by unfold mmS;rw [if_pos hk]
 have hw:IntKind.i64.wrap (o.am-o.fe)=o.am-o.fe:=by rw [a0G (by omega) (by omega)]
 have hfi:=s0Q hf
 unfold mmE
 rw [if_neg hi,if_neg hf,if_pos hk]
 by_cases hp:s.pl o.au<s.na
 .have hb:decide (a0A s.aid o.au<s.na)=true:=decide_eq_true hp
  have hpl:=u0t hp
  have hcn:0<=((List.range s.na).map Int.ofNat).getD (s.pl o.au) 0/\((List.range s.na).map Int.ofNat).getD (s.pl o.au) 0<(s.na:Int):=by rw [hpl];omega
  rw [if_pos hp]
  unfold d0e at c3
  try dsimp only at c3
  unfold clA at hmS⊢
  generalize hN:i0r (d0e s.au (s.pl o.au)) o.am o.fi=N at*
  unfold d0e at hN
  rw [hN] at c3
  obtain ⟨a,n1,n2,e⟩:=N
  dsimp only at c3 hidk hmS⊢
  by_cases he:e=0
  .subst he
   rw [if_neg (fun e=>e rfl)]
   by_cases hx:owX s o.t (mtF o) (mtG o) (mtN o)=0
   .rw [if_pos hx]
    rw [if_pos hx] at c2
    rw [hx] at c2⊢
    have hap:=n0s s.na s.au (s.pl o.au) a
    have r3:s0J s.na s.aid=s0J s.na ((s.au.set (s.pl o.au) a).map Au.id):=by rw [i0P _ _ _ (hidk rfl)]
    rw [hmS]
    rw [eF,eG,eN] at c2
    unfold owS at c2⊢
    dsimp only at c2⊢
    generalize w0U s.ds s.B (bkD s o.t) ((d0X s.ds s.B s.pr (bkD s o.t)).mv (mtF o) (mtG o) s.cur (mtN o))=B' at*
    generalize p0K s.ds (bkD s o.t)=D' at*
    generalize lgP s.lg (enB s o)=L' at*
    refine a0p mixed a0x Tryz.func231 rfl (by kernel_rfl) (by kernel_rfl) (by kernel_rfl) ?_
    repeat' ((conv=>whnf);first|(rw [hb])|(rw [hw])|(simp only [hpl,g0r])|refine a0e (l:= [0,4,5,6,7,8,9,10]) (c1) ?_|refine a0l (l:= [0,4,5,6,7,8,9,10]) (c1) ?_|(refine a0j (c3) rfl rfl rfl ?_)|(refine a0m (c3) rfl rfl rfl ?_)|refine a0e (l:= [0,1,2,3,4,5,6,7,8,9,10,11,12,13,14,15,16,17,18,19]) (c2) ?_|refine a0l (l:= [0,1,2,3,4,5,6,7,8,9,10,11,12,13,14,15,16,17,18,19]) (c2) ?_|((first|apply a0f|apply a0c|apply a0g|apply a0b|apply a0h|apply a0a)<;>intro h<;>try (exfalso;(try dsimp only at h);omega))|refine a0i ?_)
    all_goals (conv=>whnf)
    all_goals first
     |(exfalso;omega)
     |(exfalso;exact h rfl)
     |exact a0n (l:= [0,1,2,3,4,5,6,7,8,9,10,11,12,13,14,15,16,17,18,19,24,25,26,27,28,29]) rfl rfl ⟨rfl,congrArg (fun z=>some (HB.one false z)) hap,r3,rfl,rfl,rfl,rfl,rfl,rfl,rfl,rfl,rfl,rfl,rfl,rfl,rfl,rfl,rfl,rfl,trivial⟩ a0P
     |trace_state
   .rw [if_neg hx]
    rw [if_neg hx] at c2
    rw [eF,eG,eN] at c2 hx⊢
    generalize owX s o.t o.is o.ac (o.am-o.fe)=E at*
    refine a0p mixed a0x Tryz.func231 rfl (by kernel_rfl) (by kernel_rfl) (by kernel_rfl) ?_
    repeat' ((conv=>whnf);first|(rw [hb])|(rw [hw])|(simp only [hpl,g0r])|refine a0e (l:= [0,4,5,6,7,8,9,10]) (c1) ?_|refine a0l (l:= [0,4,5,6,7,8,9,10]) (c1) ?_|(refine a0j (c3) rfl rfl rfl ?_)|(refine a0m (c3) rfl rfl rfl ?_)|refine a0e (l:= [0,1,2,3,4,5,6,7,8,9,10,11,12,13,14,15,16,17,18,19]) (c2) ?_|refine a0l (l:= [0,1,2,3,4,5,6,7,8,9,10,11,12,13,14,15,16,17,18,19]) (c2) ?_|((first|apply a0f|apply a0c|apply a0g|apply a0b|apply a0h|apply a0a)<;>intro h<;>try (exfalso;(try dsimp only at h);omega))|refine a0i ?_)
    all_goals (conv=>whnf)
    all_goals first
     |(exfalso;omega)
     |(exfalso;exact h rfl)
     |(exfalso;exact hx h)
     |exact a0n (l:= [0,1,2,3,4,5,6,7,8,9,10,11,12,13,14,15,16,17,18,19,24,25,26,27,28,29]) rfl rfl ⟨rfl,rfl,rfl,rfl,rfl,rfl,rfl,rfl,rfl,rfl,rfl,rfl,rfl,rfl,rfl,rfl,rfl,rfl,rfl,trivial⟩ a0P
     |trace_state
  .rw [if_pos he,if_neg he]
   refine a0p mixed a0x Tryz.func231 rfl (by kernel_rfl) (by kernel_rfl) (by kernel_rfl) ?_
   repeat' ((conv=>whnf);first|(rw [hb])|(simp only [hpl,g0r])|refine a0e (l:= [0,4,5,6,7,8,9,10]) (c1) ?_|refine a0l (l:= [0,4,5,6,7,8,9,10]) (c1) ?_|(refine a0j (c3) rfl rfl rfl ?_)|(refine a0m (c3) rfl rfl rfl ?_)|((first|apply a0f|apply a0c|apply a0g|apply a0b|apply a0h|apply a0a)<;>intro h<;>try (exfalso;(try dsimp only at h);omega))|refine a0i ?_)
   all_goals (conv=>whnf)
   all_goals first
    |exact a0n (l:= [0,1,2,3,4,5,6,7,8,9,10,11,12,13,14,15,16,17,18,19,2,6,10,17,18,19]) rfl rfl ⟨rfl,rfl,rfl,rfl,rfl,rfl,rfl,rfl,rfl,rfl,rfl,rfl,rfl,rfl,rfl,rfl,rfl,rfl,rfl,trivial⟩ a0P
    |(exfalso;omega)
    |(exfalso;exact he h)
    |trace_state
 .have hb:decide (a0A s.aid o.au<s.na)=false:=decide_eq_false hp
  rw [if_neg hp,if_neg (by decide)]
  refine a0p mixed a0x Tryz.func231 rfl (by kernel_rfl) (by kernel_rfl) (by kernel_rfl) ?_
  repeat' ((conv=>whnf);first|(rw [hb])|refine a0e (l:= [0,4,5,6,7,8,9,10]) (c1) ?_|refine a0l (l:= [0,4,5,6,7,8,9,10]) (c1) ?_|((first|apply a0f|apply a0c|apply a0g|apply a0b|apply a0h|apply a0a)<;>intro h<;>try (exfalso;(try dsimp only at h);omega))|refine a0i ?_)
  all_goals (conv=>whnf)
  all_goals first
   |exact a0n (l:= [0,1,2,3,4,5,6,7,8,9,10,11,12,13,14,15,16,17,18,19,2,6,10,17,18,19]) rfl rfl ⟨rfl,rfl,rfl,rfl,rfl,rfl,rfl,rfl,rfl,rfl,rfl,rfl,rfl,rfl,rfl,rfl,rfl,rfl,rfl,trivial⟩ a0P
   |(exfalso;omega)
   |trace_state
theorem e1j (s:Bks) (o:Bop) (h:BkOk s) (hc:CkOk o) (hk:o.k=4\/o.k=5\/o.k=6):FC Tryz.prog 20 231 [.agg [],.ptr 1 0 0 0,o.s] (h0n s) (a0s (.int .i64 (mmE s o)) (h0o (if mmE s o=0 then mmS s o else s)) 26):=by
 by_cases hi:inL o.id s.lg.ids
 .have e:mmE s o=15:=by unfold mmE;rw [if_pos hi]
  rw [e,if_neg (by decide)]
  exact x0O s o h hk hi
 by_cases hf:512<=s.lg.ne
 .have e:mmE s o=12:=by unfold mmE;rw [if_neg hi,if_pos hf]
  rw [e,if_neg (by decide)]
  exact r0a s o h hk hi hf
 rcases hk with k|k|k
 .exact e1i s o h hc k hi hf
 .exact e1h s o h hc k hi hf
 .by_cases ha:o.am<0
  .exact a1N s o h hc k ha hi hf
  .exact a1O s o h hc k ha hi hf
theorem a1P (s:Bks) (o:Bop) (h:BkOk s) (hc:CkOk o) (hk:o.k=8):FC Tryz.prog 20 211 [.agg [],.ptr 1 0 0 0,o.s] (h0n s) (a0s (.int .i64 (clE s.hs s.ds s.cd o.am)) (h0o (if clE s.hs s.ds s.cd o.am=0 then clS s o else s)) 26):=by
 have hml:=h.mle
 have hn9:s.lg.ne<=100000:=by have:=h.lg.e512;omega
 have c1:=a1f h.bks h.hn h.nc (by omega) s.cut o.am
 have ha:0<=o.am/\o.am<=99999:=by
  have:=hc.a
  unfold pmB at this
  rw [if_neg (by omega),if_neg (by omega),if_pos hk] at this
  exact of_decide_eq_true this
 have hw:IntKind.i64.wrap o.am=o.am:=a0G (by omega) (by omega)
 unfold clO at c1
 by_cases he:clE s.hs s.ds s.cd o.am=0
 .rw [if_pos he] at c1⊢
  rw [he]
  unfold clS
  have r16:tmM false (s.cd++ [o.am]).length (s.cd++ [o.am])=tmM false (s.nc+1) (s.cd++ [o.am]):=by rw [List.length_append,h.nc];rfl
  refine a0p mixed a0x Tryz.func211 rfl (by kernel_rfl) (by kernel_rfl) (by kernel_rfl) ?_
  repeat' ((conv=>whnf);first|(rw [hw])|refine a0e (l:= [0,11,12,13,14,15,16,17,18,19]) (c1) ?_|refine a0l (l:= [0,11,12,13,14,15,16,17,18,19]) (c1) ?_|((first|apply a0f|apply a0c|apply a0g|apply a0b|apply a0h|apply a0a)<;>intro h<;>try (exfalso;(try dsimp only at h);omega))|refine a0i ?_)
  all_goals (conv=>whnf)
  all_goals first
   |(exfalso;omega)
   |exact a0n (l:= [0,1,2,3,4,5,6,7,8,9,10,11,12,13,14,15,16,17,18,19,2,6,10,17,18,19]) rfl rfl ⟨rfl,rfl,rfl,rfl,rfl,rfl,rfl,rfl,rfl,rfl,rfl,rfl,rfl,rfl,r16,rfl,rfl,rfl,rfl,trivial⟩ a0P
   |trace_state
 .rw [if_neg he] at c1⊢
  have r16:tmM false s.cd.length s.cd=tmM false s.nc s.cd:=by rw [h.nc]
  generalize clE s.hs s.ds s.cd o.am=E at*
  refine a0p mixed a0x Tryz.func211 rfl (by kernel_rfl) (by kernel_rfl) (by kernel_rfl) ?_
  repeat' ((conv=>whnf);first|(rw [hw])|refine a0e (l:= [0,11,12,13,14,15,16,17,18,19]) (c1) ?_|refine a0l (l:= [0,11,12,13,14,15,16,17,18,19]) (c1) ?_|((first|apply a0f|apply a0c|apply a0g|apply a0b|apply a0h|apply a0a)<;>intro h<;>try (exfalso;(try dsimp only at h);omega))|refine a0i ?_)
  all_goals (conv=>whnf)
  all_goals first
   |exact a0n (l:= [0,1,2,3,4,5,6,7,8,9,10,11,12,13,14,15,16,17,18,19,2,6,10,17,18,19]) rfl rfl ⟨rfl,rfl,rfl,rfl,rfl,rfl,rfl,rfl,rfl,rfl,rfl,rfl,rfl,rfl,r16,rfl,rfl,rfl,rfl,trivial⟩ a0P
   |(exfalso;omega)
   |trace_state
end
section
attribute [local irreducible] a0B a0D a0u a0Y sortI
attribute [local irreducible] seq ByteArray.extract lgE
theorem a1Q (s:Bks) (o:Bop) (hc:ckE o≠0):FC Tryz.prog 20 16 [.ptr 1 0 0 0,o.s] (h0n s) (a0s (.int .i64 (ckE o)) (h0o s) 26):=by
 have c1:=d0O o
 generalize ckE o=E at*
 refine a0p mixed a0x Tryz.func16 rfl (by kernel_rfl) (by kernel_rfl) (by kernel_rfl) ?_
 repeat' ((conv=>whnf);first|(refine a0j (c1) rfl rfl rfl ?_)|(refine a0m (c1) rfl rfl rfl ?_)|((first|apply a0f|apply a0c|apply a0g|apply a0b|apply a0h|apply a0a)<;>intro h<;>try (exfalso;(try dsimp only at h);omega))|refine a0i ?_)
 all_goals (conv=>whnf)
 all_goals first
  |(exfalso;omega)
  |(exfalso;exact hc h)
  |exact a0n (l:= [0,1,2,3,4,5,6,7,8,9,10,11,12,13,14,15,16,17,18,19,2,6,10,17,18,19]) rfl rfl ⟨rfl,rfl,rfl,rfl,rfl,rfl,rfl,rfl,rfl,rfl,rfl,rfl,rfl,rfl,rfl,rfl,rfl,rfl,rfl,trivial⟩ a0P
  |trace_state
theorem u0A (s:Bks) (o:Bop) (hc:ckE o=0) (ht:o.t<s.last):FC Tryz.prog 20 16 [.ptr 1 0 0 0,o.s] (h0n s) (a0s (.int .i64 14) (h0o s) 26):=by
 have c1:=d0O o
 rw [hc] at c1
 refine a0p mixed a0x Tryz.func16 rfl (by kernel_rfl) (by kernel_rfl) (by kernel_rfl) ?_
 repeat' ((conv=>whnf);first|(refine a0j (c1) rfl rfl rfl ?_)|(refine a0m (c1) rfl rfl rfl ?_)|((first|apply a0f|apply a0c|apply a0g|apply a0b|apply a0h|apply a0a)<;>intro h<;>try (exfalso;(try dsimp only at h);omega))|refine a0i ?_)
 all_goals (conv=>whnf)
 all_goals first
  |(exfalso;omega)
  |(exfalso;exact h rfl)
  |exact a0n (l:= [0,1,2,3,4,5,6,7,8,9,10,11,12,13,14,15,16,17,18,19,2,6,10,17,18,19]) rfl rfl ⟨rfl,rfl,rfl,rfl,rfl,rfl,rfl,rfl,rfl,rfl,rfl,rfl,rfl,rfl,rfl,rfl,rfl,rfl,rfl,trivial⟩ a0P
  |trace_state
theorem a1R (s S':Bks) (o:Bop) (E:Int) (hc:ckE o=0) (hk:o.k=1) (ht:¬o.t<s.last)
  (c3:FC Tryz.prog 20 203 [.agg [],.ptr 1 0 0 0,o.s] (h0n s) (a0s (.int .i64 E) (h0o S') 26)):
  FC Tryz.prog 20 16 [.ptr 1 0 0 0,o.s] (h0n s) (a0s (.int .i64 E) (h0o (if E=0 then { S' with last:=o.t} else S')) 26):=by
 have c1:=d0O o
 rw [hc] at c1
 have c2:c0a Tryz.prog 40 [.int .i64 o.k] (.iface 142 (.agg [])):=by
  have c:=e0D o.k (by omega)
  rw [if_pos hk] at c
  exact c
 by_cases he:E=0
 .rw [if_pos he]
  subst he
  refine a0p mixed a0x Tryz.func16 rfl (by kernel_rfl) (by kernel_rfl) (by kernel_rfl) ?_
  repeat' ((conv=>whnf);first|(refine ⟨203,c0V (by kernel_rfl),?_⟩)|(refine a0j (c1) rfl rfl rfl ?_)|(refine a0m (c1) rfl rfl rfl ?_)|(refine a0j (c2) rfl rfl rfl ?_)|(refine a0m (c2) rfl rfl rfl ?_)|refine a0e (l:= [0,1,2,3,4,5,6,7,8,9,10,11,12,13,14,15,16,17,18,19]) (c3) ?_|refine a0l (l:= [0,1,2,3,4,5,6,7,8,9,10,11,12,13,14,15,16,17,18,19]) (c3) ?_|((first|apply a0f|apply a0c|apply a0g|apply a0b|apply a0h|apply a0a)<;>intro h<;>try (exfalso;(try dsimp only at h);omega))|refine a0i ?_)
  all_goals (conv=>whnf)
  all_goals first
   |(exfalso;omega)
   |(exfalso;exact h rfl)
   |exact a0n (l:= [0,1,2,3,4,5,6,7,8,9,10,11,12,13,14,15,16,17,18,19,21,22,23,24,25,26]) rfl rfl ⟨rfl,rfl,rfl,rfl,rfl,rfl,rfl,rfl,rfl,rfl,rfl,rfl,rfl,rfl,rfl,rfl,rfl,rfl,rfl,trivial⟩ a0P
   |trace_state
 .rw [if_neg he]
  refine a0p mixed a0x Tryz.func16 rfl (by kernel_rfl) (by kernel_rfl) (by kernel_rfl) ?_
  repeat' ((conv=>whnf);first|(refine ⟨203,c0V (by kernel_rfl),?_⟩)|(refine a0j (c1) rfl rfl rfl ?_)|(refine a0m (c1) rfl rfl rfl ?_)|(refine a0j (c2) rfl rfl rfl ?_)|(refine a0m (c2) rfl rfl rfl ?_)|refine a0e (l:= [0,1,2,3,4,5,6,7,8,9,10,11,12,13,14,15,16,17,18,19]) (c3) ?_|refine a0l (l:= [0,1,2,3,4,5,6,7,8,9,10,11,12,13,14,15,16,17,18,19]) (c3) ?_|((first|apply a0f|apply a0c|apply a0g|apply a0b|apply a0h|apply a0a)<;>intro h<;>try (exfalso;(try dsimp only at h);omega))|refine a0i ?_)
  all_goals (conv=>whnf)
  all_goals first
   |(exfalso;omega)
   |(exfalso;exact h rfl)
   |(exfalso;exact he h)
   |exact a0n (l:= [0,1,2,3,4,5,6,7,8,9,10,11,12,13,14,15,16,17,18,19,21,22,23,24,25,26]) rfl rfl ⟨rfl,rfl,rfl,rfl,rfl,rfl,rfl,rfl,rfl,rfl,rfl,rfl,rfl,rfl,rfl,rfl,rfl,rfl,rfl,trivial⟩ a0P
   |trace_state
theorem a1S (s S':Bks) (o:Bop) (E:Int) (hc:ckE o=0) (hk:o.k=8) (ht:¬o.t<s.last)
  (c3:FC Tryz.prog 20 211 [.agg [],.ptr 1 0 0 0,o.s] (h0n s) (a0s (.int .i64 E) (h0o S') 26)):
  FC Tryz.prog 20 16 [.ptr 1 0 0 0,o.s] (h0n s) (a0s (.int .i64 E) (h0o (if E=0 then { S' with last:=o.t} else S')) 26):=by
 have c1:=d0O o
 rw [hc] at c1
 have c2:c0a Tryz.prog 40 [.int .i64 o.k] (.iface 144 (.agg [])):=by
  have c:=e0D o.k (by omega)
  rw [if_neg (by omega),if_pos hk] at c
  exact c
 by_cases he:E=0
 .rw [if_pos he]
  subst he
  refine a0p mixed a0x Tryz.func16 rfl (by kernel_rfl) (by kernel_rfl) (by kernel_rfl) ?_
  repeat' ((conv=>whnf);first|(refine ⟨211,c0V (by kernel_rfl),?_⟩)|(refine a0j (c1) rfl rfl rfl ?_)|(refine a0m (c1) rfl rfl rfl ?_)|(refine a0j (c2) rfl rfl rfl ?_)|(refine a0m (c2) rfl rfl rfl ?_)|refine a0e (l:= [0,1,2,3,4,5,6,7,8,9,10,11,12,13,14,15,16,17,18,19]) (c3) ?_|refine a0l (l:= [0,1,2,3,4,5,6,7,8,9,10,11,12,13,14,15,16,17,18,19]) (c3) ?_|((first|apply a0f|apply a0c|apply a0g|apply a0b|apply a0h|apply a0a)<;>intro h<;>try (exfalso;(try dsimp only at h);omega))|refine a0i ?_)
  all_goals (conv=>whnf)
  all_goals first
   |(exfalso;omega)
   |(exfalso;exact h rfl)
   |exact a0n (l:= [0,1,2,3,4,5,6,7,8,9,10,11,12,13,14,15,16,17,18,19,21,22,23,24,25,26]) rfl rfl ⟨rfl,rfl,rfl,rfl,rfl,rfl,rfl,rfl,rfl,rfl,rfl,rfl,rfl,rfl,rfl,rfl,rfl,rfl,rfl,trivial⟩ a0P
   |trace_state
 .rw [if_neg he]
  refine a0p mixed a0x Tryz.func16 rfl (by kernel_rfl) (by kernel_rfl) (by kernel_rfl) ?_
  repeat' ((conv=>whnf);first|(refine ⟨211,c0V (by kernel_rfl),?_⟩)|(refine a0j (c1) rfl rfl rfl ?_)|(refine a0m (c1) rfl rfl rfl ?_)|(refine a0j (c2) rfl rfl rfl ?_)|(refine a0m (c2) rfl rfl rfl ?_)|refine a0e (l:= [0,1,2,3,4,5,6,7,8,9,10,11,12,13,14,15,16,17,18,19]) (c3) ?_|refine a0l (l:= [0,1,2,3,4,5,6,7,8,9,10,11,12,13,14,15,16,17,18,19]) (c3) ?_|((first|apply a0f|apply a0c|apply a0g|apply a0b|apply a0h|apply a0a)<;>intro h<;>try (exfalso;(try dsimp only at h);omega))|refine a0i ?_)
  all_goals (conv=>whnf)
  all_goals first
   |(exfalso;omega)
   |(exfalso;exact h rfl)
   |(exfalso;exact he h)
   |exact a0n (l:= [0,1,2,3,4,5,6,7,8,9,10,11,12,13,14,15,16,17,18,19,21,22,23,24,25,26]) rfl rfl ⟨rfl,rfl,rfl,rfl,rfl,rfl,rfl,rfl,rfl,rfl,rfl,rfl,rfl,rfl,rfl,rfl,rfl,rfl,rfl,trivial⟩ a0P
   |trace_state
theorem a1T (s S':Bks) (o:Bop) (E:Int) (hc:ckE o=0) (hk:o.k=4\/o.k=5\/o.k=6) (ht:¬o.t<s.last)
  (c3:FC Tryz.prog 20 231 [.agg [],.ptr 1 0 0 0,o.s] (h0n s) (a0s (.int .i64 E) (h0o S') 26)):
  FC Tryz.prog 20 16 [.ptr 1 0 0 0,o.s] (h0n s) (a0s (.int .i64 E) (h0o (if E=0 then { S' with last:=o.t} else S')) 26):=by
 have c1:=d0O o
 rw [hc] at c1
 have c2:c0a Tryz.prog 40 [.int .i64 o.k] (.iface 145 (.agg [])):=by
  have c:=e0D o.k (by omega)
  rw [if_neg (by omega),if_neg (by omega),if_pos hk] at c
  exact c
 by_cases he:E=0
 .rw [if_pos he]
  subst he
  refine a0p mixed a0x Tryz.func16 rfl (by kernel_rfl) (by kernel_rfl) (by kernel_rfl) ?_
  repeat' ((conv=>whnf);first|(refine ⟨231,c0V (by kernel_rfl),?_⟩)|(refine a0j (c1) rfl rfl rfl ?_)|(refine a0m (c1) rfl rfl rfl ?_)|(refine a0j (c2) rfl rfl rfl ?_)|(refine a0m (c2) rfl rfl rfl ?_)|refine a0e (l:= [0,1,2,3,4,5,6,7,8,9,10,11,12,13,14,15,16,17,18,19]) (c3) ?_|refine a0l (l:= [0,1,2,3,4,5,6,7,8,9,10,11,12,13,14,15,16,17,18,19]) (c3) ?_|((first|apply a0f|apply a0c|apply a0g|apply a0b|apply a0h|apply a0a)<;>intro h<;>try (exfalso;(try dsimp only at h);omega))|refine a0i ?_)
  all_goals (conv=>whnf)
  all_goals first
   |(exfalso;omega)
   |(exfalso;exact h rfl)
   |exact a0n (l:= [0,1,2,3,4,5,6,7,8,9,10,11,12,13,14,15,16,17,18,19,21,22,23,24,25,26]) rfl rfl ⟨rfl,rfl,rfl,rfl,rfl,rfl,rfl,rfl,rfl,rfl,rfl,rfl,rfl,rfl,rfl,rfl,rfl,rfl,rfl,trivial⟩ a0P
   |trace_state
 .rw [if_neg he]
  refine a0p mixed a0x Tryz.func16 rfl (by kernel_rfl) (by kernel_rfl) (by kernel_rfl) ?_
  repeat' ((conv=>whnf);first|(refine ⟨231,c0V (by kernel_rfl),?_⟩)|(refine a0j (c1) rfl rfl rfl ?_)|(refine a0m (c1) rfl rfl rfl ?_)|(refine a0j (c2) rfl rfl rfl ?_)|(refine a0m (c2) rfl rfl rfl ?_)|refine a0e (l:= [0,1,2,3,4,5,6,7,8,9,10,11,12,13,14,15,16,17,18,19]) (c3) ?_|refine a0l (l:= [0,1,2,3,4,5,6,7,8,9,10,11,12,13,14,15,16,17,18,19]) (c3) ?_|((first|apply a0f|apply a0c|apply a0g|apply a0b|apply a0h|apply a0a)<;>intro h<;>try (exfalso;(try dsimp only at h);omega))|refine a0i ?_)
  all_goals (conv=>whnf)
  all_goals first
   |(exfalso;omega)
   |(exfalso;exact h rfl)
   |(exfalso;exact he h)
   |exact a0n (l:= [0,1,2,3,4,5,6,7,8,9,10,11,12,13,14,15,16,17,18,19,21,22,23,24,25,26]) rfl rfl ⟨rfl,rfl,rfl,rfl,rfl,rfl,rfl,rfl,rfl,rfl,rfl,rfl,rfl,rfl,rfl,rfl,rfl,rfl,rfl,trivial⟩ a0P
   |trace_state
theorem a1U (s S':Bks) (o:Bop) (E:Int) (hc:ckE o=0) (hk:o.k=2\/o.k=3\/o.k=7) (ht:¬o.t<s.last)
  (c3:FC Tryz.prog 20 206 [.agg [],.ptr 1 0 0 0,o.s] (h0n s) (a0s (.int .i64 E) (h0o S') 26)):
  FC Tryz.prog 20 16 [.ptr 1 0 0 0,o.s] (h0n s) (a0s (.int .i64 E) (h0o (if E=0 then { S' with last:=o.t} else S')) 26):=by
 have c1:=d0O o
 rw [hc] at c1
 have c2:c0a Tryz.prog 40 [.int .i64 o.k] (.iface 143 (.agg [])):=by
  have c:=e0D o.k (by omega)
  rw [if_neg (by omega),if_neg (by omega),if_neg (by omega)] at c
  exact c
 by_cases he:E=0
 .rw [if_pos he]
  subst he
  refine a0p mixed a0x Tryz.func16 rfl (by kernel_rfl) (by kernel_rfl) (by kernel_rfl) ?_
  repeat' ((conv=>whnf);first|(refine ⟨206,c0V (by kernel_rfl),?_⟩)|(refine a0j (c1) rfl rfl rfl ?_)|(refine a0m (c1) rfl rfl rfl ?_)|(refine a0j (c2) rfl rfl rfl ?_)|(refine a0m (c2) rfl rfl rfl ?_)|refine a0e (l:= [0,1,2,3,4,5,6,7,8,9,10,11,12,13,14,15,16,17,18,19]) (c3) ?_|refine a0l (l:= [0,1,2,3,4,5,6,7,8,9,10,11,12,13,14,15,16,17,18,19]) (c3) ?_|((first|apply a0f|apply a0c|apply a0g|apply a0b|apply a0h|apply a0a)<;>intro h<;>try (exfalso;(try dsimp only at h);omega))|refine a0i ?_)
  all_goals (conv=>whnf)
  all_goals first
   |(exfalso;omega)
   |(exfalso;exact h rfl)
   |exact a0n (l:= [0,1,2,3,4,5,6,7,8,9,10,11,12,13,14,15,16,17,18,19,21,22,23,24,25,26]) rfl rfl ⟨rfl,rfl,rfl,rfl,rfl,rfl,rfl,rfl,rfl,rfl,rfl,rfl,rfl,rfl,rfl,rfl,rfl,rfl,rfl,trivial⟩ a0P
   |trace_state
 .rw [if_neg he]
  refine a0p mixed a0x Tryz.func16 rfl (by kernel_rfl) (by kernel_rfl) (by kernel_rfl) ?_
  repeat' ((conv=>whnf);first|(refine ⟨206,c0V (by kernel_rfl),?_⟩)|(refine a0j (c1) rfl rfl rfl ?_)|(refine a0m (c1) rfl rfl rfl ?_)|(refine a0j (c2) rfl rfl rfl ?_)|(refine a0m (c2) rfl rfl rfl ?_)|refine a0e (l:= [0,1,2,3,4,5,6,7,8,9,10,11,12,13,14,15,16,17,18,19]) (c3) ?_|refine a0l (l:= [0,1,2,3,4,5,6,7,8,9,10,11,12,13,14,15,16,17,18,19]) (c3) ?_|((first|apply a0f|apply a0c|apply a0g|apply a0b|apply a0h|apply a0a)<;>intro h<;>try (exfalso;(try dsimp only at h);omega))|refine a0i ?_)
  all_goals (conv=>whnf)
  all_goals first
   |(exfalso;omega)
   |(exfalso;exact h rfl)
   |(exfalso;exact he h)
   |exact a0n (l:= [0,1,2,3,4,5,6,7,8,9,10,11,12,13,14,15,16,17,18,19,21,22,23,24,25,26]) rfl rfl ⟨rfl,rfl,rfl,rfl,rfl,rfl,rfl,rfl,rfl,rfl,rfl,rfl,rfl,rfl,rfl,rfl,rfl,rfl,rfl,trivial⟩ a0P
   |trace_state
theorem u0B (s:Bks) (o:Bop) (h:BkOk s):FC Tryz.prog 20 16 [.ptr 1 0 0 0,o.s] (h0n s) (a0s (.int .i64 (doE s o)) (h0o (doS s o)) 26):=by
 by_cases hc:ckE o=0
 .by_cases ht:o.t<s.last
  .have e1:doE s o=14:=by unfold doE;rw [if_neg (fun e=>e hc),if_pos ht]
   have e2:doS s o=s:=by unfold doS;rw [e1,if_neg (by decide)]
   rw [e1,e2]
   exact u0A s o hc ht
  .have e1:doE s o=pfE s o:=by unfold doE;rw [if_neg (fun e=>e hc),if_neg ht]
   have key:∀S',S'=(if pfE s o=0 then pfS s o else s)->(if pfE s o=0 then { S' with last:=o.t} else S')=doS s o:=by
    intro S' e
    subst e
    unfold doS
    rw [e1]
    split
    .rfl
    .rfl
   have hO:=z0R hc
   rw [e1,<-key _ rfl]
   have hk:=i0L (show¬(o.k<1\/8<o.k) by have:=hO.k;omega)
   by_cases k1:o.k=1
   .refine a1R s _ o _ hc k1 ht ?_
    have e3:pfE s o=f1i s o:=by unfold pfE;rw [if_pos k1]
    have e4:pfS s o=h1K s o:=by unfold pfS;rw [if_pos k1]
    rw [e3,e4]
    exact u0v s o h hO
   by_cases k8:o.k=8
   .refine a1S s _ o _ hc k8 ht ?_
    have e3:pfE s o=clE s.hs s.ds s.cd o.am:=by unfold pfE;rw [if_neg k1,if_pos k8]
    have e4:pfS s o=clS s o:=by unfold pfS;rw [if_neg k1,if_pos k8]
    rw [e3,e4]
    exact a1P s o h hO k8
   by_cases k4:o.k=4\/o.k=5\/o.k=6
   .refine a1T s _ o _ hc k4 ht ?_
    have e3:pfE s o=mmE s o:=by unfold pfE;rw [if_neg k1,if_neg k8,if_pos k4]
    have e4:pfS s o=mmS s o:=by unfold pfS;rw [if_neg k1,if_neg k8,if_pos k4]
    rw [e3,e4]
    exact e1j s o h hO k4
   .have k2:o.k=2\/o.k=3\/o.k=7:=by omega
    refine a1U s _ o _ hc k2 ht ?_
    have e3:pfE s o=x0k s o:=by unfold pfE;rw [if_neg k1,if_neg k8,if_neg k4]
    have e4:pfS s o=b1X s o:=by unfold pfS;rw [if_neg k1,if_neg k8,if_neg k4]
    rw [e3,e4]
    rcases k2 with k|k|k
    .exact u0w s o h hO k
    .exact u0x s o h hO k
    .exact u0y s o h hO k
 .have e1:doE s o=ckE o:=by unfold doE;rw [if_pos hc]
  have e2:doS s o=s:=by unfold doS;rw [e1,if_neg hc]
  rw [e1,e2]
  exact a1Q s o hc
end
section
attribute [local irreducible] a0B a0D a0u a0Y sortI
def k5:Bk:=⟨3,p3,1,[f1Y],[[-5,5,0,0,0,0,0,0,0,0,0,0,0,0,0,0]],[0],1⟩
end
section
attribute [local irreducible] a0B a0D a0u a0Y sortI
attribute [local irreducible] seq ByteArray.extract
theorem m0h (s:Bks) (a:ByteArray):FC Tryz.prog 20 19 [.ptr 1 0 0 0,.str a] (h0n s) (a0s (.int .i64 (s.lg.bal a s.cur)) (h0o s) 26):=by
 have c1:=u0s s.lg a s.cur
 generalize s.lg.bal a s.cur=x at*
 refine a0p mixed a0x Tryz.func19 rfl (by kernel_rfl) (by kernel_rfl) (by kernel_rfl) ?_
 repeat' ((conv=>whnf);first|refine a0e (l:= [0,4,5,6,7,8,9]) (c1) ?_|refine a0l (l:= [0,4,5,6,7,8,9]) (c1) ?_|((first|apply a0f|apply a0c|apply a0g|apply a0b|apply a0h|apply a0a)<;>intro h<;>try (exfalso;(try dsimp only at h);omega))|refine a0i ?_)
 all_goals (conv=>whnf)
 all_goals first
  |exact a0n (l:= [0,1,2,3,4,5,6,7,8,9,10,11,12,13,14,15,16,17,18,19,2,6,10,17,18,19]) rfl rfl ⟨rfl,rfl,rfl,rfl,rfl,rfl,rfl,rfl,rfl,rfl,rfl,rfl,rfl,rfl,rfl,rfl,rfl,rfl,rfl,trivial⟩ a0P
  |trace_state
theorem p0t (s:Bks) (h:BkOk s) (d:Int):FC Tryz.prog 20 20 [.ptr 1 0 0 0,.int .i64 d] (h0n s)
  (a0s (.sl 26 0 0 (u0Y s.ds s.B d).length) ((26,some (.one false (pxB (u0Y s.ds s.B d).length (p0d (u0Y s.ds s.B d)))))::h0o s) 27):=by
 have c1:=i0s h.bks s.cut d
 generalize u0Y s.ds s.B d=L at*
 refine a0p mixed a0x Tryz.func20 rfl (by kernel_rfl) (by kernel_rfl) (by kernel_rfl) ?_
 repeat' ((conv=>whnf);first|refine a0e (l:= [0,11,12,13,14,15,16,17,18,19]) (c1) ?_|refine a0l (l:= [0,11,12,13,14,15,16,17,18,19]) (c1) ?_|((first|apply a0f|apply a0c|apply a0g|apply a0b|apply a0h|apply a0a)<;>intro h<;>try (exfalso;(try dsimp only at h);omega))|refine a0i ?_)
 all_goals (conv=>whnf)
 all_goals first
  |exact a0n (l:= [0,1,2,3,4,5,6,7,8,9,10,11,12,13,14,15,16,17,18,19,2,6,10,17,18,19,20]) rfl rfl ⟨rfl,rfl,rfl,rfl,rfl,rfl,rfl,rfl,rfl,rfl,rfl,rfl,rfl,rfl,rfl,rfl,rfl,rfl,rfl,rfl,trivial⟩ (a0d a0P)
  |trace_state
theorem e1k (s:Bks) (h:BkOk s) (id:ByteArray) (hp:s.pl id<s.na):FC Tryz.prog 20 17 [.ptr 1 0 0 0,.str id] (h0n s) (a0s (.tup [(d0e s.au (s.pl id)).s,.bool true]) (h0o s) 26):=by
 have hb:decide (a0A s.aid id<s.na)=true:=decide_eq_true hp
 have hpl:=u0t hp
 have hcn:0<=((List.range s.na).map Int.ofNat).getD (s.pl id) 0/\((List.range s.na).map Int.ofNat).getD (s.pl id) 0<(s.na:Int):=by rw [hpl];omega
 refine a0p mixed a0x Tryz.func17 rfl (by kernel_rfl) (by kernel_rfl) (by kernel_rfl) ?_
 repeat' ((conv=>whnf);first|(rw [hb];try dsimp only [b0l,b0s])|(simp only [hpl,g0r])|((first|apply a0f|apply a0c|apply a0g|apply a0b|apply a0h|apply a0a)<;>intro h<;>try (exfalso;(try dsimp only at h);omega))|refine a0i ?_)
 all_goals (conv=>whnf)
 all_goals first
  |exact a0n (l:= [0,1,2,3,4,5,6,7,8,9,10,11,12,13,14,15,16,17,18,19,2,6,10,17,18,19]) rfl rfl ⟨rfl,rfl,rfl,rfl,rfl,rfl,rfl,rfl,rfl,rfl,rfl,rfl,rfl,rfl,rfl,rfl,rfl,rfl,rfl,trivial⟩ a0P
  |trace_state
end
section
attribute [local irreducible] a0B a0D a0u a0Y sortI
def dgT (L:List Au):Nat->ByteArray
 |0=>⟨#[]⟩
 |k+1=>dgT L k++(auT (d0e L k)++⟨#[59]⟩)
theorem s0R (L:List Au):∀k,(dgT L k).size<=1001*k/\(1<=k->0<(dgT L k).size)
 |0=>⟨Nat.le_refl _,fun h=>absurd h (by decide)⟩
 |k+1=>by
  have ih:=s0R L k
  have h1:=c1j (d0e L k)
  have h2:(⟨#[59]⟩:ByteArray).size=1:=rfl
  simp only [dgT,ByteArray.size_append,h2]
  omega
def dgI (s:Bks):Int:=chI s.lg.dig (dgT s.au s.na++c0g s.last)
attribute [local irreducible] seq ByteArray.extract
theorem a1V (n:Int):0<(c0g n).size:=by
 have h1:=e0y n.toNat
 unfold c0g dec
 split
 .simp [a0F,ByteArray.size]
 .simp [a0F,ByteArray.size,a0O];exact h1
abbrev i1z (s:Bks):a0v:= [(0,some (GB glT)),(1,h1M true 2 s),(2,some (.one true (auB s.na s.au))),(4,some (.one true (.cells (lgF 5 6 7 8 9 s.lg))))]
def dgS (s:Bks):Nat->VS
 |0=>⟨[(0,.ptr 1 0 0 0),(3,.ptr 20 0 0 0),(11,.sl 2 0 0 s.na),(12,.int .i64 s.na),(13,.int .i64 ((0:Nat):Int))],(20,x0t)::i1z s,21⟩
 |k+1=>⟨[(0,.ptr 1 0 0 0),(3,.ptr 20 0 0 0),(11,.sl 2 0 0 s.na),(12,.int .i64 s.na),(13,.int .i64 ((k+1:Nat):Int))],(20,i0y 21 (dgT s.au (k+1)).size)::(21,e0K (dgT s.au (k+1)))::i1z s,22⟩
theorem h0q (s:Bks) (h:BkOk s):FC Tryz.prog 20 9 [.ptr 1 0 0 0] (i1z s) (a0s (.int .u64 (dgI s)) [] 20):=by
 have hn:=h.n256
 have hl:=h.last
 have c5:=x0A s.lg
 have g1:=h0m s.last (by omega) (by omega)
 have hd:=b0G s.last (by omega) (by omega)
 have hd0:0<(c0g s.last).size:=a1V s.last
 have hT:=s0R s.au
 refine a0p mixed a0x Tryz.func9 rfl (by kernel_rfl) (by kernel_rfl) (by kernel_rfl) ?_
 repeat' ((conv=>whnf);first|((first|apply a0f|apply a0c|apply a0g|apply a0b|apply a0h|apply a0a)<;>intro h<;>try (exfalso;(try dsimp only at h);omega))|refine a0i ?_)
 all_goals (conv=>whnf)
 refine a0z (dgS s) (fun k=>k<=s.na) (fun k=>s.na-k) 0 [0,1,2,3,4,5,6,7,8,9,10,11,12,13,14,15,16,17,18,19,20] [] ⟨rfl,⟨rfl,rfl,rfl,rfl,rfl,trivial⟩,⟨rfl,gwk rfl,rfl,rfl,rfl,trivial⟩⟩ (Nat.zero_le _) ?_
 intro k hk
 by_cases hk2:k<s.na
 .have c2:=q0Z (d0e s.au k)
  have hz:=c1j (d0e s.au k)
  have hz1:(⟨#[59]⟩:ByteArray).size=1:=rfl
  have hs1:(auT (d0e s.au k)++⟨#[59]⟩).size=(auT (d0e s.au k)).size+1:=by rw [ByteArray.size_append,hz1]
  have hcd:(auT (d0e s.au k)).size+(⟨#[59]⟩:ByteArray).size<=9223372036854775807:=by omega
  cases k with
  |zero=>
   have c3:=h0Y (auT (d0e s.au 0)++⟨#[59]⟩) (by omega) (by omega)
   have hTe:dgT s.au 1=auT (d0e s.au 0)++⟨#[59]⟩:=by simp only [dgT];exact ByteArray.empty_append
   rw [<-hTe] at c3
   unfold dgS
   repeat' ((conv=>whnf);first|(refine a0q hcd ?_)|(refine a0t (c2) rfl rfl rfl rfl ?_)|(refine a0w (c2) rfl rfl rfl rfl ?_)|refine a0e (l:= [0,20]) (c3) ?_|refine a0l (l:= [0,20]) (c3) ?_|((first|apply a0f|apply a0c|apply a0g|apply a0b|apply a0h|apply a0a)<;>intro h<;>try (exfalso;(try dsimp only at h);omega))|refine a0i ?_)
   all_goals (conv=>whnf)
   all_goals first
    |(exfalso;omega)
    |exact ⟨1,[0,1,2,3,4,5,6,7,8,9,10,11,12,13,14,15,16,17,18,19,20,22],[],hk2,(show s.na-1<s.na-0 by omega),⟨rfl,⟨rfl,rfl,rfl,rfl,congrArg (fun z=>some (SV.int .i64 z)) (a0M (by omega)),trivial⟩,⟨rfl,rfl,gwk rfl,rfl,rfl,rfl,trivial⟩⟩⟩
    |trace_state
  |succ k=>
   have hTk:=hT (k+1)
   have c3:=m0e (dgT s.au (k+1)) (auT (d0e s.au (k+1))++⟨#[59]⟩) (by omega) (by omega)
   have hTe:dgT s.au (k+1+1)=dgT s.au (k+1)++(auT (d0e s.au (k+1))++⟨#[59]⟩):=rfl
   rw [<-hTe] at c3
   unfold dgS
   repeat' ((conv=>whnf);first|(refine a0q hcd ?_)|(refine a0t (c2) rfl rfl rfl rfl ?_)|(refine a0w (c2) rfl rfl rfl rfl ?_)|refine a0e (l:= [0,20,21]) (c3) ?_|refine a0l (l:= [0,20,21]) (c3) ?_|((first|apply a0f|apply a0c|apply a0g|apply a0b|apply a0h|apply a0a)<;>intro h<;>try (exfalso;(try dsimp only at h);omega))|refine a0i ?_)
   all_goals (conv=>whnf)
   all_goals first
    |(exfalso;omega)
    |exact ⟨k+1+1,[0,1,2,3,4,5,6,7,8,9,10,11,12,13,14,15,16,17,18,19,20,23],[],hk2,(show s.na-(k+1+1)<s.na-(k+1) by omega),⟨rfl,⟨rfl,rfl,rfl,rfl,congrArg (fun z=>some (SV.int .i64 z)) (a0M (by omega)),trivial⟩,⟨rfl,rfl,gwk rfl,rfl,rfl,rfl,trivial⟩⟩⟩
    |trace_state
 have ek:k=s.na:=by omega
 subst ek
 have hz:(dgT s.au s.na++c0g s.last).size<=9223372036854775000:=by
  have:=(hT s.na).1
  rw [ByteArray.size_append];omega
 have c6:=e0m s.lg.dig (dgT s.au s.na++c0g s.last) hz
 have hp:0<(dgT s.au s.na++c0g s.last).size:=by rw [ByteArray.size_append];omega
 have c7:=e0n (dgT s.au s.na++c0g s.last) hp
 unfold dgI
 generalize hX:chI s.lg.dig (dgT s.au s.na++c0g s.last)=X at*
 cases hna:s.na with
 |zero=>
  rw [hna] at c6 c7 hp hz
  have e0:dgT s.au 0++c0g s.last=c0g s.last:=ByteArray.empty_append
  rw [e0] at c6 c7 hp hz
  have c3:=h0Y (c0g s.last) hd0 (by omega)
  unfold dgS
  repeat' ((conv=>whnf);first|(refine a0t (g1) rfl rfl rfl rfl ?_)|(refine a0w (g1) rfl rfl rfl rfl ?_)|refine a0e (l:= [0,20]) (c3) ?_|refine a0l (l:= [0,20]) (c3) ?_|refine a0e (l:= [0,4,5,6,7,8,9]) (c5) ?_|refine a0l (l:= [0,4,5,6,7,8,9]) (c5) ?_|refine a0e (l:= [0,20,21]) (c7) ?_|refine a0l (l:= [0,20,21]) (c7) ?_|(refine a0j (c6) rfl rfl rfl ?_)|(refine a0m (c6) rfl rfl rfl ?_)|((first|apply a0f|apply a0c|apply a0g|apply a0b|apply a0h|apply a0a)<;>intro h<;>try (exfalso;(try dsimp only at h);omega))|refine a0i ?_)
  all_goals (conv=>whnf)
  all_goals first
   |(exfalso;omega)
   |exact a0n (l:= [0,1,2,3,4,5,6,7,8,9,10,11,12,13,14,15,16,17,18,19]) rfl rfl trivial a0k
   |trace_state
 |succ k=>
  rw [hna] at c6 c7 hp hz
  have hTk:=hT (k+1)
  have c3:=m0e (dgT s.au (k+1)) (c0g s.last) hd0 (by omega)
  unfold dgS
  repeat' ((conv=>whnf);first|(refine a0t (g1) rfl rfl rfl rfl ?_)|(refine a0w (g1) rfl rfl rfl rfl ?_)|refine a0e (l:= [0,20,21]) (c3) ?_|refine a0l (l:= [0,20,21]) (c3) ?_|refine a0e (l:= [0,4,5,6,7,8,9]) (c5) ?_|refine a0l (l:= [0,4,5,6,7,8,9]) (c5) ?_|refine a0e (l:= [0,20,22]) (c7) ?_|refine a0l (l:= [0,20,22]) (c7) ?_|(refine a0j (c6) rfl rfl rfl ?_)|(refine a0m (c6) rfl rfl rfl ?_)|((first|apply a0f|apply a0c|apply a0g|apply a0b|apply a0h|apply a0a)<;>intro h<;>try (exfalso;(try dsimp only at h);omega))|refine a0i ?_)
  all_goals (conv=>whnf)
  all_goals first
   |(exfalso;omega)
   |exact a0n (l:= [0,1,2,3,4,5,6,7,8,9,10,11,12,13,14,15,16,17,18,19]) rfl rfl trivial a0k
   |trace_state
end
section
attribute [local irreducible] a0B a0D a0u a0Y sortI
attribute [local irreducible] seq ByteArray.extract
end
section
attribute [local irreducible] a0B a0D a0u a0Y sortI
attribute [local irreducible] seq ByteArray.extract
abbrev a1W (r:Nat->Nat) (s:Bks):a0v:=
 (r 1,some (.one false (.cells [.str s.cur,.int .i64 s.days,.sl (r 2) 0 0 s.na,.map (r 3) 0,.ptr (r 4) 0 0 0,.int .i64 s.lg.ne,.ptr (r 11) 0 0 0,.int .i64 s.last])))::(r 2,some (.one false (auB s.na s.au)))::(r 3,s0J s.na s.aid)::
 (r 9,c1a false s.lg)::(r 4,some (.one false (.cells (lgF (r 5) (r 6) (r 7) (r 8) (r 9) s.lg))))::(r 5,some (.one false (l0d s.lg)))::(r 6,some (.one false (n0v (r 10) s.lg)))::(r 7,some (.one false (u0q s.lg)))::(r 8,some (.one false (g1G s.lg)))::(r 10,q0W false s.lg)::
 (r 11,cyC false (r 12) (r 14) (r 15) (r 16) s.np s.cut)::(r 12,w0s false (r 13))::(r 13,tmM false s.hn s.hs)::(r 14,cyP false s.np s.pr)::(r 16,tmM false s.nc s.cd)::w0S (r 15) (r 17) (r 18) (r 19) s.np s.m s.ds s.B (sortS s.pr)
theorem h0Z {r:Nat->Nat} {s:Bks}:e0t (a1W r s):=
 a0d (a0d (a0d (a0d (a0d (a0d (a0d (a0d (a0d (c0f (a0d (a0d (a0d (a0d (a0d k0r))))))))))))))
theorem a1X {L:List ByteArray} {k:Nat} (hk:k<L.length):(L.take k).map f0B++ [f0B (L.getD k ⟨#[]⟩)]=(L.take (k+1)).map f0B:=by
 rw [p0c hk,List.map_append];rfl
abbrev bnS (L:List ByteArray) (n:Nat) (cur:ByteArray) (m:Nat) (cut days:Int) (S:List Int) (k:Nat):VS:=
 ⟨[(1,.ptr 3 0 0 0),(6,.ptr 6 0 0 0),(7,.sl 13 0 0 k),(46,.sl 1 0 0 n),(47,.int .i64 n),(48,.int .i64 k)],
  (1,some (.one true (.cols n [.sc (.strs L)])))::(3,some (.one false (.cells [.sl 1 0 0 n,.str cur,.sl 2 0 0 m,.int .i64 cut,.int .i64 days])))::(4,w0s false 5)::(5,tmM false S.length S)::(6,cyC false 4 7 8 9 n cut)::(7,cyP false n L)::(9,tmM false 0 [])::
  (13,some (.one false (.cols k [.sc (.strs ((L.take k).map f0B))])))::w0S 8 10 11 12 n 0 [] [] (sortS L),14⟩
theorem x0P (cur:ByteArray) (days cut:Int) (L:List ByteArray) (n:Nat) (H:List Int) (m:Nat) (hL:L.length=n) (hH:H.length=m) (he:bkE cur days H m cut L=0):
  FC Tryz.prog 3 15 [.agg [.sl 1 0 0 n,.str cur,.sl 2 0 0 m,.int .i64 cut,.int .i64 days]] [(1,some (.one true (.cols n [.sc (.strs L)]))),(2,some (.one true (.cols m [.sc (.ints .i64 H)])))] (a0s (.tup [.ptr 3 0 0 0,.int .i64 0]) (a1W (fun i=>i+2) (bk1 cur days H cut L)) 22):=by
 subst hL
 have c0:=a1q cur
 have c1:=d1A H m hH
 unfold i1d at c1
 have c2:=g1e cut L L.length rfl
 unfold cnO at c2
 have hbk:=c1g he
 have hn:=hbk.n256
 unfold bkE at he
 by_cases h1:days<1\/1000<days
 .rw [if_pos h1] at he;cases he
 rw [if_neg h1] at he
 by_cases h2:f0W cur=false
 .rw [if_pos h2] at he;cases he
 rw [if_neg h2] at he
 have h2':f0W cur=true:=by simpa using h2
 rw [h2'] at c0
 by_cases h3:d1z H m≠0
 .rw [if_pos h3] at he;exact absurd he h3
 rw [if_neg h3] at he
 rw [if_pos (by omega)] at c1
 rw [if_pos he] at c2
 have hnw:f0L L=0:=by
  unfold cnE at he
  split at he
  .cases he
  .exact he
 obtain ⟨w1,w2,w3⟩:=w0F hnw
 have c5:=x0G (L.map f0B) L.length (by rw [List.length_map]) (x0H hnw)
 unfold bk1
 generalize hG0:lg0 (L.map f0B)=G0 at*
 have hG:(G0.ne:Int)=0:=by rw [<-hG0];rfl
 generalize ddS H=S at*
 refine a0p mixed a0x Tryz.func15 rfl (by kernel_rfl) (by kernel_rfl) (by kernel_rfl) ?_
 repeat' ((conv=>whnf);first|(refine a0j (c0) rfl rfl rfl ?_)|(refine a0m (c0) rfl rfl rfl ?_)|refine a0e (l:= [0,2]) (c1) ?_|refine a0e (l:= [0,4,1]) (c2) ?_|((first|apply a0f|apply a0c|apply a0g|apply a0b|apply a0h|apply a0a)<;>intro h<;>try (exfalso;(try dsimp only at h);omega))|refine a0i ?_)
 all_goals (conv=>whnf)
 all_goals first
  |(exfalso;omega)
  |(exfalso;exact h rfl)
  |skip
 refine a0z (bnS L L.length cur m cut days S) (fun k=>k<=L.length) (fun k=>L.length-k) 0 [0,1,2,3,4,5,6,7,8,9,10,11,12,13] [.slot 7 [.sc (.strs [])]] ⟨rfl,⟨rfl,rfl,rfl,rfl,rfl,rfl,trivial⟩,⟨rfl,rfl,rfl,rfl,rfl,rfl,rfl,rfl,rfl,rfl,rfl,rfl,trivial⟩⟩ (Nat.zero_le _) ?_
 intro k hk
 by_cases hk2:k<L.length
 .have hin:L.getD k ⟨#[]⟩∈L:=by rw [List.getD,List.getElem?_eq_getElem (by omega)];exact List.getElem_mem _
  have hz:=p0p (w3 _ hin)
  have c4:=f0j (L.getD k ⟨#[]⟩) (by omega)
  have hT:=a1X (L:=L) (k:=k) (by omega)
  have hrow:=congrArg (fun z=>some (HB.one false (Blk.cols (k+1) [.sc (.strs z)]))) hT
  unfold bnS
  repeat' ((conv=>whnf);first|(refine a0j (c4) rfl rfl rfl ?_)|(refine a0m (c4) rfl rfl rfl ?_)|((first|apply a0f|apply a0c|apply a0g|apply a0b|apply a0h|apply a0a)<;>intro h<;>try (exfalso;(try dsimp only at h);omega))|refine a0i ?_)
  all_goals (conv=>whnf)
  all_goals first
   |(exfalso;omega)
   |exact ⟨k+1,[0,1,2,3,4,5,6,7,8,9,10,11,12,15],[],hk2,(show L.length-(k+1)<L.length-k by omega),⟨rfl,⟨rfl,rfl,rfl,rfl,rfl,congrArg (fun z=>some (SV.int .i64 z)) (a0M (by omega)),trivial⟩,⟨rfl,rfl,rfl,rfl,rfl,rfl,rfl,hrow,rfl,rfl,rfl,rfl,trivial⟩⟩⟩
   |trace_state
 have ek:k=L.length:=by omega
 subst ek
 unfold bnS
 rw [show L.take L.length=L from List.take_length]
 repeat' ((conv=>whnf);first|refine a0e (l:= [0,13]) (c5) ?_|((first|apply a0f|apply a0c|apply a0g|apply a0b|apply a0h|apply a0a)<;>intro h<;>try (exfalso;(try dsimp only at h);omega))|refine a0i ?_)
 all_goals (conv=>whnf)
 all_goals first
  |(exfalso;omega)
  |(exfalso;exact h rfl)
  |exact e0g (l:= [0,1,2,22,23,21,14,15,16,17,18,19,20,6,4,5,7,8,9,10,11,12]) [.cell 22 2 [.sc (.strs []),.sc (.strs []),.sc (.ints .i64 []),.sc (.ints .i64 []),.sc (.ints .i64 []),.sc (.ints .i64 []),.sc (.ints .i64 []),.sc (.ints .i64 []),.sc (.ints .i64 []),.sc (.ints .i64 [])]] ⟨rfl,rfl,⟨(by simp only [hG];rfl),rfl,rfl,rfl,rfl,rfl,rfl,rfl,rfl,rfl,rfl,rfl,rfl,rfl,rfl,rfl,rfl,rfl,rfl,trivial⟩⟩ h0Z
  |trace_state
end
section
attribute [local irreducible] sortI
abbrev sHb:ByteArray:=⟨#[104,111,109,101,98,97,110,107]⟩
abbrev sSb:ByteArray:=⟨#[115,104,111,112,98,97,110,107]⟩
abbrev sOb:ByteArray:=⟨#[111,116,104,101,114]⟩
abbrev sA1:ByteArray:=⟨#[97,45,49]⟩
abbrev sEu:ByteArray:=⟨#[69,85,82]⟩
abbrev q3:List ByteArray:= [sHb,sSb,sOb]
abbrev r3:List ByteArray:= [sHb,sOb,sSb]
theorem e1l:sortS q3=r3:=by
 refine s0k ((List.Perm.swap _ _ _).cons _) ?_
 refine .cons (fun a h=> ?_) (.cons (fun a h=> ?_) (.cons (fun a h=>absurd h (List.not_mem_nil)) .nil))<;>simp only [List.mem_cons,List.not_mem_nil,or_false] at h<;>(first|(rcases h with rfl|rfl<;>kernel_rfl)|(subst h;kernel_rfl))
theorem c1k:bkE sEu 7 [] 0 64800 q3=0:=by kernel_rfl
def o1:Bop:=⟨1,100,⟨#[]⟩,sA1,⟨#[]⟩,⟨#[]⟩,1000,0,false⟩
def o2:Bop:=⟨4,200,⟨#[97,45,49,45,49]⟩,sA1,sHb,sSb,400,10,false⟩
def w0:Bks:=bk1 sEu 7 [] 64800 q3
def au1:Au:=⟨sA1,sEu,1000,0,0,0,1,100,604900,0⟩
def au2:Au:=⟨sA1,sEu,1000,0,400,0,1,100,604900,1⟩
def w1:Bks:= { w0 with na:=1,au:= [au1],last:=100}
def bq0:Bk:=⟨3,r3,0,[],[],[],0⟩
def bq1:Bk:=⟨3,r3,1,[sEu],[[-390,0,390,0,0,0,0,0,0,0,0,0,0,0,0,0]],[0],1⟩
def lq2:Lg:=lgP (lg0 (q3.map f0B)) (enB w1 o2)
def w2:Bks:= { w1 with au:= [au2],m:=1,ds:= [0],B:= [bq1],lg:=lq2,last:=200}
theorem i1X:doE w0 o1=0:=by kernel_rfl
theorem i1Y:doS w0 o1=w1:=by unfold doS;rw [i1X,if_pos rfl];kernel_rfl
theorem g1O:d0X [] [] q3 0=bq0:=by
 unfold d0X nwB
 rw [if_neg (by simp),e1l];rfl
theorem g1P:mvE bq0 sHb sSb sEu 390=0:=by kernel_rfl
theorem i1A:bq0.mv sHb sSb sEu 390=bq1:=by kernel_rfl
theorem i1Z:bkD w1 200=0:=by kernel_rfl
theorem j1p:owX w1 o2.t (mtF o2) (mtG o2) (mtN o2)=0:=by
 unfold owX
 rw [show bkD w1 o2.t=0 from i1Z]
 unfold mvX
 rw [if_neg (by decide)]
 show mvE (d0X [] [] q3 0) sHb sSb sEu 390=0
 rw [g1O]
 exact g1P
theorem g1Q:clA w1 o2=(au2,400,0,0):=by kernel_rfl
theorem i1B:mmE w1 o2=0:=by
 unfold mmE
 rw [if_neg (by decide),if_neg (by decide),if_pos (show o2.k=4 from rfl),if_pos (by decide),g1Q,if_neg (fun e=>e rfl)]
 exact j1p
theorem j1a:doE w1 o2=0:=by
 have h1:ckE o2=0:=by kernel_rfl
 have h2:pfE w1 o2=mmE w1 o2:=by
  unfold pfE
  rw [if_neg (by decide),if_neg (by decide),if_pos (by decide)]
 unfold doE
 rw [if_neg (fun e=>e h1),if_neg (by decide),h2,i1B]
theorem i1C:owS w1 o2= { w1 with m:=1,ds:= [0],B:= [bq1],lg:=lq2}:=by
 unfold owS
 rw [show bkD w1 o2.t=0 from i1Z]
 show Bks.mk _ _ _ _ _ _ _ _ _ _ _ (w0U [] [] 0 ((d0X [] [] q3 0).mv sHb sSb sEu 390)) _ _ _ _=_
 rw [g1O,i1A]
 rfl
theorem j1b:doS w1 o2=w2:=by
 have h2:pfS w1 o2=mmS w1 o2:=by
  unfold pfS
  rw [if_neg (by decide),if_neg (by decide),if_pos (by decide)]
 unfold doS
 rw [j1a,if_pos rfl,h2]
 unfold mmS
 rw [if_pos (show o2.k=4 from rfl),g1Q,i1C]
 rfl
theorem j1c:doE w2 o2=15:=by
 have h1:ckE o2=0:=by kernel_rfl
 have h2:pfE w2 o2=mmE w2 o2:=by
  unfold pfE
  rw [if_neg (by decide),if_neg (by decide),if_pos (by decide)]
 unfold doE
 rw [if_neg (fun e=>e h1),if_neg (by decide),h2]
 unfold mmE
 rw [if_pos (by decide)]
theorem j1q:doS w2 o2=w2:=by unfold doS;rw [j1c,if_neg (by decide)]
theorem n0A:BkOk w0:=c1g c1k
theorem g1R:BkOk w1:=by rw [<-i1Y];exact d1T n0A _
theorem e1m:BkOk w2:=by rw [<-j1b];exact d1T g1R _
theorem j1r:w2.lg.bal (f0B sHb) sEu= -390:=by kernel_rfl
theorem j1s:w2.lg.bal (f0B sSb) sEu=390:=by kernel_rfl
theorem j1t:u0Y w2.ds w2.B 0= [⟨sHb,-390,sEu⟩,⟨sSb,390,sEu⟩]:=by
 show (if (0:Int)∈[0] then ([bq1].getD (b0v [0] 0) bk0).list else [])=_
 rw [if_pos (by decide)]
 show bq1.list=_
 unfold Bk.list
 rw [show sortS bq1.cs= [sEu] from a1a sEu]
 kernel_rfl
theorem j1u:d0e w2.au (w2.pl sA1)=au2:=by kernel_rfl
theorem i1D:ckE o2=0:=by kernel_rfl
theorem j1v:c0c o2=⟨#[52,124,50,48,48,124,97,45,49,45,49,124,97,45,49,124,104,111,109,101,98,97,110,107,124,115,104,111,112,98,97,110,107,124,52,48,48,124,49,48,124,48]⟩:=by kernel_rfl
end
section
attribute [local irreducible] a0B a0D a0u a0Y sortI
attribute [local irreducible] seq ByteArray.extract
theorem p0u:FC Tryz.prog 1 7 [] [] (a0s (.agg [.sl 1 0 0 3,.str sEu,.nsl,.int .i64 64800,.int .i64 7]) [(1,some (.one false (.cols 3 [.sc (.strs q3)])))] 2):=by
 refine a0p mixed a0x Tryz.func7 rfl (by kernel_rfl) (by kernel_rfl) (by kernel_rfl) ?_
 repeat' ((conv=>whnf);first|((first|apply a0f|apply a0c|apply a0g|apply a0b|apply a0h|apply a0a)<;>intro h<;>try (exfalso;(try dsimp only at h);omega))|refine a0i ?_)
 all_goals (conv=>whnf)
 all_goals first
  |exact a0n (l:= [0,2]) rfl rfl ⟨rfl,trivial⟩ (a0d a0k)
  |trace_state
theorem r0b:FC Tryz.prog 2 15 [.agg [.sl 1 0 0 3,.str sEu,.nsl,.int .i64 64800,.int .i64 7]] [(1,some (.one true (.cols 3 [.sc (.strs q3)])))] (a0s (.tup [.ptr 3 0 0 0,.int .i64 0]) (a1W (fun i=>i+2) w0) 22):=by
 refine w0g (n:=2) (m:= [.sl 1 0 0 3,.str sEu,.sl 2 0 0 0,.int .i64 64800,.int .i64 7]) (cs:= [.sc (.ints .i64 [])]) rfl (by exact ⟨.inl rfl,.inl rfl,.inr ⟨rfl,rfl⟩,.inl rfl,.inl rfl,trivial⟩) ?_
 refine f1I (H:= [(1,some (.one true (.cols 3 [.sc (.strs q3)]))),(2,some (.one true (.cols 0 [.sc (.ints .i64 [])])))]) ?_ (x0P sEu 7 64800 q3 3 [] 0 rfl rfl c1k)
 intro k
 rw [a0U,a0U,a0U,a0U]
 split<;>split<;>first|rfl|omega
theorem x0Q:k0U Tryz.prog glT 4 [] (.bool true):=by
 have cS:=p0u
 have cN:=r0b
 have d1:=u0B w0 o1 n0A
 rw [i1X,i1Y] at d1
 have d2:=u0B w1 o2 g1R
 rw [j1a,j1b] at d2
 have d3:=u0B w2 o2 e1m
 rw [j1c,j1q] at d3
 have cA:=e1k w2 e1m sA1 (of_decide_eq_true (by kernel_rfl))
 rw [j1u] at cA
 have cE:=f0k o2 i1D
 rw [j1v] at cE
 have cH:=m0h w2 (f0B sHb)
 rw [show w2.lg.bal (f0B sHb) w2.cur= -390 from j1r] at cH
 have cB:=m0h w2 (f0B sSb)
 rw [show w2.lg.bal (f0B sSb) w2.cur=390 from j1s] at cB
 have cP:=p0t w2 e1m 0
 rw [j1t] at cP
 simp only [List.length_cons,List.length_nil,Nat.zero_add,Nat.reduceAdd] at cP
 generalize w0=s0 at*
 generalize w1=s1 at*
 generalize w2=s2 at*
 refine a0p mixed a0x Tryz.func4 rfl (by kernel_rfl) (by kernel_rfl) (by kernel_rfl) ?_
 repeat' ((conv=>whnf);first|refine a0e (l:= [0]) (cS) ?_|refine a0l (l:= [0]) (cS) ?_|refine a0e (l:= [0,1]) (cN) ?_|refine a0l (l:= [0,1]) (cN) ?_|refine a0e (l:= [0,3,4,5,6,7,8,9,10,11,12,13,14,15,16,17,18,19,20,21]) (d1) ?_|refine a0e (l:= [0,3,23,5,6,7,24,9,10,11,25,13,14,15,16,17,18,26,27,28]) (d2) ?_|refine a0e (l:= [0,3,29,5,6,7,30,9,10,11,31,13,14,15,16,17,18,32,33,34]) (d3) ?_|refine a0e (l:= [0,3,35,5,6,7,36,9,10,11,37,13,14,15,16,17,18,38,39,40]) (cA) ?_|refine a0e (l:= [0,3,41,5,6,7,42,9,10,11,43,13,14,15,16,17,18,44,45,46]) (cH) ?_|refine a0e (l:= [0,3,48,5,6,7,49,9,10,11,50,13,14,15,16,17,18,51,52,53]) (cB) ?_|refine a0e (l:= [0,3,54,5,6,7,55,9,10,11,56,13,14,15,16,17,18,57,58,59]) (cP) ?_|(refine a0t (cE) rfl rfl rfl rfl ?_)|(refine a0w (cE) rfl rfl rfl rfl ?_)|((first|apply a0f|apply a0c|apply a0g|apply a0b|apply a0h|apply a0a)<;>intro h<;>try (exfalso;(try dsimp only at h);omega))|refine a0i ?_)
 all_goals (conv=>whnf)
 all_goals first
  |(exfalso;omega)
  |(exfalso;exact h rfl)
  |exact a0o (congrArg SV.bool (p0h.2 rfl))
  |trace_state
end
section
attribute [local irreducible] a0B a0D a0u a0Y sortI
attribute [local irreducible] seq ByteArray.extract b0g c0c
end
section
end
section
end
section
attribute [local irreducible] a0B a0D a0u a0Y sortI
attribute [local irreducible] seq ByteArray.extract
structure Oq where
 n:Nat
 k:List Int
 t:List Int
 id:List ByteArray
 au:List ByteArray
 is:List ByteArray
 ac:List ByteArray
 am:List Int
 fe:List Int
 fi:List Bool
abbrev Oq.b (Q:Oq):Blk:= .cols Q.n [.sc (.ints .i64 Q.k),.sc (.ints .i64 Q.t),.sc (.strs Q.id),.sc (.strs Q.au),.sc (.strs Q.is),.sc (.strs Q.ac),.sc (.ints .i64 Q.am),.sc (.ints .i64 Q.fe),.sc (.bools Q.fi)]
abbrev Oq.at (Q:Oq) (i:Nat):Bop:=⟨Q.k.getD i 0,Q.t.getD i 0,Q.id.getD i ⟨#[]⟩,Q.au.getD i ⟨#[]⟩,Q.is.getD i ⟨#[]⟩,Q.ac.getD i ⟨#[]⟩,Q.am.getD i 0,Q.fe.getD i 0,Q.fi.getD i false⟩
end
section
attribute [local irreducible] a0B a0D a0u a0Y
theorem i0R {x:Nat}:i0X .u64 (x:Int) 32=((x/4294967296:Nat):Int):=z0S (s:=32) (by omega)
theorem s0S {a b:Nat} (h:a*b<18446744073709551616):IntKind.u64.wrap ((a:Int)*(b:Int))=((a*b:Nat):Int):=by
 rw [<-Int.natCast_mul];exact j0Z (by omega) (by omega)
theorem s0T {a b:Nat} (h:a+b<18446744073709551616):IntKind.u64.wrap ((a:Int)+(b:Int))=((a+b:Nat):Int):=by
 rw [<-Int.natCast_add];exact j0Z (by omega) (by omega)
theorem g1S {k j:IntKind} {a b c d:Int} (h:a=c) (h':b=d):SV.tup [.int k a,.int j b]=SV.tup [.int k c,.int j d]:=by rw [h,h']
theorem p0v (x y:Nat) (hx:x<18446744073709551616) (hy:y<18446744073709551616):c0a Tryz.prog 173 [.int .u64 x,.int .u64 y] (.tup [.int .u64 (x*y/18446744073709551616:Nat),.int .u64 (x*y%18446744073709551616:Nat)]):=by
 refine a0p mixed a0x Tryz.func173 rfl (by kernel_rfl) (by kernel_rfl) (by kernel_rfl) ?_
 repeat' ((conv=>whnf);first|((first|apply a0f|apply a0c|apply a0g|apply a0b|apply a0h|apply a0a)<;>intro h<;>try (exfalso;(try dsimp only at h);omega))|refine a0i ?_)
 all_goals (conv=>whnf)
 refine a0o ?_
 have e1:=k0e hx
 have e3:=k0e hy
 have k:=f1T (x:=x) (y:=y) (x0:=x%4294967296) (x1:=x/4294967296) (y0:=y%4294967296) (y1:=y/4294967296) (by omega) (by omega)
 have w:IntKind.u64.wrap ((x:Int)*(y:Int))=((x*y%18446744073709551616:Nat):Int):=by rw [<-Int.natCast_mul,o0Z]
 have a0:x%4294967296<4294967296:=by omega
 have a1:x/4294967296<4294967296:=by omega
 have b0:y%4294967296<4294967296:=by omega
 have b1:y/4294967296<4294967296:=by omega
 simp only [d0a,e1,e3,i0R,w]
 generalize x%4294967296=x0 at*
 generalize x/4294967296=x1 at*
 generalize y%4294967296=y0 at*
 generalize y/4294967296=y1 at*
 have m00:=s0j a0 b0
 have m10:=s0j a1 b0
 have m01:=s0j a0 b1
 have m11:=s0j a1 b1
 rw [s0S (a:=x0) (b:=y0) (by omega),s0S (a:=x1) (b:=y0) (by omega),s0S (a:=x0) (b:=y1) (by omega),s0S (a:=x1) (b:=y1) (by omega),k]
 generalize x0*y0=S at*
 generalize x1*y0=Q at*
 generalize x0*y1=R at*
 generalize x1*y1=T at*
 rw [i0R,s0T (by omega),i0R,k0e (by omega),s0T (by omega),s0T (by omega),i0R,s0T (by omega)]
 refine g1S ?_ rfl
 omega
end
end Go.Proofs.YtmgnedokogidoaaGreatDoor
namespace Go.Sy
open Go.RowKit
theorem h0r {x y:ByteArray} (h:x.data.toList=y.data.toList):x=y:=by
 cases x;cases y;simp at h;congr
theorem a1Y {n k w:Nat} (h:n<10^k) (hk:k<=w):e0x w n=List.replicate (w-k) 48++e0x k n:=by
 apply List.ext_getElem?
 intro i
 by_cases hi:i<w
 .rw [f0A _ _ _ hi]
  by_cases h2:i<w-k
  .rw [List.getElem?_append_left (by simpa using h2),List.getElem?_replicate,if_pos h2]
   have:n/10^(w-1-i)=0:=Nat.div_eq_of_lt (Nat.lt_of_lt_of_le h (Nat.pow_le_pow_right (by omega) (by omega)))
   rw [this];rfl
  .rw [List.getElem?_append_right (by simpa using Nat.le_of_not_lt h2),List.length_replicate,f0A _ _ _ (by omega)]
   rw [show k-1-(i-(w-k))=w-1-i from by omega]
 .rw [List.getElem?_eq_none (by rw [a0O];omega),List.getElem?_eq_none (by simp [a0O];omega)]
theorem e1n {w n:Nat} {x:Int} (h:x∈e0x w n):48<=x/\x<=57:=by
 obtain ⟨i,hi,rfl⟩:=List.getElem_of_mem h
 rw [a0O] at hi
 have:=f0A w n i hi
 rw [List.getElem?_eq_getElem (by rw [a0O];exact hi)] at this
 simp only [Option.some.injEq] at this
 rw [this];omega
theorem c0r (l:List Int):(a0F l).size=l.length:=by simp [a0F,ByteArray.size]
theorem l0g {l:List Int} (h:∀x∈l,0<=x/\x<=255) (i:Nat) (hi:i<l.length):a0r (a0F l) (i:Int)=l.getD i 0:=by
 unfold a0r a0F
 rw [Int.toNat_natCast]
 have hm:=h _ (List.getElem_mem hi)
 rw [List.getD,List.getElem?_eq_getElem (by simpa using hi),List.getD,List.getElem?_eq_getElem hi]
 simp
 have:(UInt8.ofNat (l[i].toNat)).toNat=l[i].toNat:=by
  rw [UInt8.toNat_ofNat'];omega
 omega
theorem l0h (a b:List Int):a0F a++a0F b=a0F (a++b):=by
 apply h0r
 simp [a0F,ByteArray.data_append]
theorem d0Q {a b:ByteArray} {n:Nat} (h:a.size=n):(a++b).extract 0 n=a:=by
 apply h0r
 have:a.data.toList.length=n:=by simpa using h
 simp only [ByteArray.data_extract,ByteArray.data_append,Array.toList_extract,Array.toList_append,List.extract_eq_take_drop,Nat.sub_zero,List.drop_zero]
 rw [List.take_append_of_le_length (by omega),List.take_of_length_le (by omega)]
theorem c0C {a b:ByteArray} {n m:Nat} (h:a.size=n) (hm:m=n+b.size):(a++b).extract n m=b:=by
 apply h0r
 have h1:a.data.toList.length=n:=by simpa using h
 have h2:b.data.toList.length=b.size:=by simp
 simp only [ByteArray.data_extract,ByteArray.data_append,Array.toList_extract,Array.toList_append,List.extract_eq_take_drop]
 rw [List.drop_append_of_le_length (by omega),List.drop_eq_nil_of_le (by omega),List.nil_append,List.take_of_length_le (by omega)]
def u0Wz (s:ByteArray) (i:Nat):Prop:=48<=a0r s (i:Int)/\a0r s (i:Int)<=57
instance (s:ByteArray) (i:Nat):Decidable (u0Wz s i):=by unfold u0Wz;infer_instance
def g0oz (s:ByteArray):Nat->Bool
 |0=>true
 |k+1=>g0oz s k&&decide (u0Wz s k)
def d0D (s:ByteArray):Nat->Int
 |0=>0
 |k+1=>10*d0D s k+(a0r s (k:Int)-48)
theorem h0Sz {s:ByteArray} {k n:Nat} (h:k<n) (hc:¬u0Wz s k):g0oz s n=false:=by
 induction n with
 |zero=>omega
 |succ n ih=>
  simp only [g0oz]
  by_cases e:k=n
  .subst e;simp [hc]
  .rw [ih (by omega)];rfl
theorem n0B {s:ByteArray}:∀k,g0oz s k=true->0<=d0D s k/\d0D s k<10^k
 |0,_=>by simp [d0D]
 |k+1,h=>by
  simp only [g0oz,Bool.and_eq_true,decide_eq_true_eq] at h
  have ih:=n0B k h.1
  have hd:=h.2
  unfold u0Wz at hd
  simp only [d0D]
  have:(10:Int)^(k+1)=10*10^k:=by rw [Int.pow_succ];omega
  omega
theorem x0R {w n:Nat} {s:ByteArray} (hs:s=a0F (e0x w n)):∀k,k<=w->g0oz s k=true/\d0D s k=((n/10^(w-k)%10^k:Nat):Int)
 |0,_=>by simp [g0oz,d0D,Nat.mod_one]
 |k+1,h=>by
  obtain ⟨i1,i2⟩:=x0R hs k (by omega)
  have hb:a0r s (k:Int)=((48+n/10^(w-1-k)%10:Nat):Int):=by
   rw [hs,l0g (fun x hx=>by have:=e1n hx;omega) k (by rw [a0O];omega),List.getD,f0A _ _ _ (by omega)]
   rfl
  constructor
  .simp only [g0oz,i1,Bool.true_and,decide_eq_true_eq]
   unfold u0Wz
   omega
  .simp only [d0D,i2,hb]
   have e1:w-k=(w-(k+1))+1:=by omega
   have e2:w-1-k=w-(k+1):=by omega
   rw [e2,e1,Nat.pow_succ,<-Nat.div_div_eq_div_mul]
   generalize n/10^(w-(k+1))=q
   rw [Nat.pow_succ,Nat.mul_comm (10^k) 10,Nat.mod_mul]
   omega
theorem toList_eq (s:ByteArray):s.toList=s.data.toList:=by
 simpa using ByteArray.toList_eq s
end Go.Sy
namespace Go.Proofs.YtmgnedokogidoaaGreatDoor
open Go.RowKit Go.Sy
section
attribute [local irreducible] a0B a0D a0u a0Y
theorem b0a {k:Nat} (h:k<9223372036854775806):IntKind.i64.wrap ((k:Int)+1)=((k+1:Nat):Int):=by rw [a0G (by omega) (by omega)];rfl
theorem a1Z (x y:Nat) (hx:x<18446744073709551616) (hy:y<18446744073709551616):c0a Tryz.prog 149 [.int .u64 x,.int .u64 y] (.tup [.int .u64 (x*y/18446744073709551616:Nat),.int .u64 (x*y%18446744073709551616:Nat)]):=by
 have c:=p0v x y hx hy
 refine a0p mixed a0x Tryz.func149 rfl (by kernel_rfl) (by kernel_rfl) (by kernel_rfl) ?_
 repeat' ((conv=>whnf);first|(refine a0j (c) rfl rfl rfl ?_)|((first|apply a0f|apply a0c|apply a0g|apply a0b|apply a0h|apply a0a)<;>intro h<;>try (exfalso;(try dsimp only at h);omega))|refine a0i ?_)
 all_goals (conv=>whnf)
 all_goals exact a0o rfl
def i1E (s p:ByteArray):Bool:=decide (p.size<=s.size)&&seq (s.extract 0 p.size) p
theorem p0w (s p:ByteArray) (hs:s.size<=9223372036854775807):c0a Tryz.prog 174 [.str s,.str p] (.bool (i1E s p)):=by
 refine a0p mixed a0x Tryz.func174 rfl (by kernel_rfl) (by kernel_rfl) (by kernel_rfl) ?_
 repeat' ((conv=>whnf);first|((first|apply a0f|apply a0c|apply a0g|apply a0b|apply a0h|apply a0a)<;>intro h<;>try (exfalso;(try dsimp only at h);omega))|refine a0i ?_)
 all_goals (conv=>whnf)
 all_goals refine a0o (congrArg SV.bool ?_)
 all_goals unfold i1E
 .rw [decide_eq_true (by omega)];rfl
 .rw [decide_eq_false (by omega)];rfl
theorem n0C (s p:ByteArray) (hs:s.size<=9223372036854775807):c0a Tryz.prog 150 [.str s,.str p] (.bool (i1E s p)):=by
 have c:=p0w s p hs
 refine a0p mixed a0x Tryz.func150 rfl (by kernel_rfl) (by kernel_rfl) (by kernel_rfl) ?_
 repeat' ((conv=>whnf);first|(refine a0j (c) rfl rfl rfl ?_)|((first|apply a0f|apply a0c|apply a0g|apply a0b|apply a0h|apply a0a)<;>intro h<;>try (exfalso;(try dsimp only at h);omega))|refine a0i ?_)
 all_goals (conv=>whnf)
 all_goals exact a0o rfl
theorem r0c (c:Int) (N n:Nat) (h:n<=N):(a0F (List.replicate N c)).extract 0 n=a0F (List.replicate n c):=by
 apply h0r
 simp only [a0F,ByteArray.data_extract,Array.toList_extract,List.extract_eq_take_drop,Nat.sub_zero,List.drop_zero,List.map_replicate,List.take_replicate]
 rw [Nat.min_eq_left h]
theorem r0d (n:Nat) (hn:n<=64):c0a Tryz.prog 124 [.str ⟨#[48]⟩,.int .i64 n] (.str (a0F (List.replicate n 48))):=by
 have m:=a1Z 1 n (by omega) (by omega)
 rw [Nat.one_mul,Nat.div_eq_of_lt (by omega),Nat.mod_eq_of_lt (by omega)] at m
 have hp:=fun s hs=>n0C s ⟨#[48]⟩ hs
 have wn:IntKind.u64.wrap (n:Int)=(n:Int):=j0Z (by omega) (by omega)
 rw [<-wn] at m
 have wi:IntKind.i64.wrap (IntKind.u64.wrap (n:Int))=(n:Int):=by rw [wn];exact a0G (by omega) (by omega)
 have hle:IntKind.i64.wrap (IntKind.u64.wrap (n:Int))<=64:=by rw [wi];omega
 refine a0p mixed a0x Tryz.func124 rfl (by kernel_rfl) (by kernel_rfl) (by kernel_rfl) ?_
 by_cases h0:n=0
 .subst h0
  repeat' ((conv=>whnf);first|((first|apply a0f|apply a0c|apply a0g|apply a0b|apply a0h|apply a0a)<;>intro h<;>try (exfalso;(try dsimp only at h);omega))|refine a0i ?_)
  all_goals (conv=>whnf)
  all_goals exact a0o rfl
 .by_cases h1:n=1
  .subst h1
   repeat' ((conv=>whnf);first|((first|apply a0f|apply a0c|apply a0g|apply a0b|apply a0h|apply a0a)<;>intro h<;>try (exfalso;(try dsimp only at h);omega))|refine a0i ?_)
   all_goals (conv=>whnf)
   all_goals exact a0o rfl
  .repeat' ((conv=>whnf);first|(refine a0j (m) rfl rfl rfl ?_)|(refine a0m (m) rfl rfl rfl ?_)|(refine a0j (hp _ (by decide)) rfl rfl rfl ?_)|(refine a0m (hp _ (by decide)) rfl rfl rfl ?_)|(refine a0q (show (0:Int)<=0/\0<=IntKind.i64.wrap (IntKind.u64.wrap (n:Int))/\IntKind.i64.wrap (IntKind.u64.wrap (n:Int))<=((64:Nat):Int) from ?_) ?_;(rw [wi];omega))|((first|apply a0f|apply a0c|apply a0g|apply a0b|apply a0h|apply a0a)<;>intro h<;>try (exfalso;(try dsimp only at h);omega))|refine a0i ?_)
   all_goals (conv=>whnf)
   .refine a0o (congrArg SV.str ?_)
    show (a0F (List.replicate 64 48)).extract 0 (IntKind.i64.wrap (IntKind.u64.wrap (n:Int))).toNat=_
    rw [wi,Int.toNat_natCast]
    exact r0c 48 64 n hn
   all_goals exact absurd hle (by assumption)
end
section
attribute [local irreducible] a0B a0D a0u a0Y
def c1l (w n:Nat):ByteArray:=if b0Y n<=w then a0F (e0x w n) else ⟨#[]⟩
theorem b1a (n:Nat):c0g (n:Int)=a0F (e0x (b0Y n) n):=by
 unfold c0g dec
 rw [if_neg (by omega),Int.toNat_natCast]
theorem r0e (n w:Nat) (hn:n<=9223372036854775807) (hw:w<=64):k0U Tryz.prog glT 102 [.int .i64 n,.int .i64 w] (.tup [.str (c1l w n),.bool (decide (b0Y n<=w))]):=by
 have f:=b0I (n:Int) (by omega) (by omega)
 rw [b1a] at f
 have z:(a0F (e0x (b0Y n) n)).size=b0Y n:=by rw [c0r,a0O]
 have hd:=k0n (u:=n) (by omega)
 refine a0p mixed a0x Tryz.func102 rfl (by kernel_rfl) (by kernel_rfl) (by kernel_rfl) ?_
 by_cases hk:b0Y n<=w
 .have c:=r0d (w-b0Y n) (by omega)
  have wc:((w-b0Y n:Nat):Int)=IntKind.i64.wrap ((w:Int)-((a0F (e0x (b0Y n) n)).size:Int)):=by
   rw [z,a0G (by omega) (by omega)];omega
  rw [wc] at c
  repeat' ((conv=>whnf);first|(refine a0t (f) rfl rfl rfl rfl ?_)|(refine a0j (c) rfl rfl rfl ?_)|(refine a0m (c) rfl rfl rfl ?_)|(refine a0q ?_ ?_;(rw [c0r,c0r,a0O,List.length_replicate];omega))|((first|apply a0f|apply a0c|apply a0g|apply a0b|apply a0h|apply a0a)<;>intro h<;>try (exfalso;(try dsimp only at h);omega))|refine a0i ?_)
  all_goals (conv=>whnf)
  .refine a0o ?_
   rw [show c1l w n=a0F (List.replicate (w-b0Y n) 48)++a0F (e0x (b0Y n) n) by
    unfold c1l;rw [if_pos hk,l0h,a1Y (g0m n) hk],decide_eq_true hk]
   rfl
 .repeat' ((conv=>whnf);first|(refine a0t (f) rfl rfl rfl rfl ?_)|((first|apply a0f|apply a0c|apply a0g|apply a0b|apply a0h|apply a0a)<;>intro h<;>try (exfalso;(try dsimp only at h);omega))|refine a0i ?_)
  all_goals (conv=>whnf)
  .refine a0o ?_
   rw [show c1l w n=⟨#[]⟩ by unfold c1l;rw [if_neg hk],decide_eq_false hk]
   rfl
def g0t (n w:Int):Prop:=1<=w/\w<=15/\0<=n/\b0Y n.toNat<=w.toNat
instance (n w:Int):Decidable (g0t n w):=by unfold g0t;infer_instance
def f1k (n w:Int):Int:=if g0t n w then 0 else 4
def d0p (n w:Int):ByteArray:=if g0t n w then a0F (e0x w.toNat n.toNat) else ⟨#[]⟩
theorem x0S {n w:Int} (h:¬g0t n w):f1k n w=4:=by unfold f1k;rw [if_neg h]
theorem x0T {n w:Int} (h:¬g0t n w):d0p n w=⟨#[]⟩:=by unfold d0p;rw [if_neg h]
theorem e1o {n w:Int} (h:g0t n w):f1k n w=0:=by unfold f1k;rw [if_pos h]
theorem r0f {n w:Int} (h:g0t n w):d0p n w=a0F (e0x w.toNat n.toNat):=by unfold d0p;rw [if_pos h]
attribute [irreducible] f1k d0p c1l
theorem f0E (n w:Int) (hn:n<=9223372036854775807):k0U Tryz.prog glT 83 [.int .i64 n,.int .i64 w] (.tup [.str (d0p n w),.int .i64 (f1k n w)]):=by
 by_cases hb:1<=w/\w<=15/\0<=n
 .obtain ⟨n',rfl⟩:=Int.eq_ofNat_of_zero_le hb.2.2
  obtain ⟨w',rfl⟩:=Int.eq_ofNat_of_zero_le (show 0<=w by omega)
  have c:=r0e n' w' (by omega) (by omega)
  by_cases hk:b0Y n'<=w'
  .have ho:g0t n' w':=⟨hb.1,hb.2.1,hb.2.2,by simpa using hk⟩
   rw [show c1l w' n'=a0F (e0x w' n') by unfold c1l;rw [if_pos hk],decide_eq_true hk] at c
   rw [r0f ho,e1o ho,Int.toNat_natCast,Int.toNat_natCast]
   refine a0p mixed a0x Tryz.func83 rfl (by kernel_rfl) (by kernel_rfl) (by kernel_rfl) ?_
   repeat' ((conv=>whnf);first|(refine a0t (c) rfl rfl rfl rfl ?_)|((first|apply a0f|apply a0c|apply a0g|apply a0b|apply a0h|apply a0a)<;>intro h<;>try (exfalso;(try dsimp only at h);omega))|refine a0i ?_)
   all_goals (conv=>whnf)
   all_goals first
    |exact a0o rfl
    |(exfalso;omega)
  .have ho:¬g0t n' w':=fun h=>hk (by simpa using h.2.2.2)
   rw [decide_eq_false hk] at c
   rw [x0T ho,x0S ho]
   refine a0p mixed a0x Tryz.func83 rfl (by kernel_rfl) (by kernel_rfl) (by kernel_rfl) ?_
   repeat' ((conv=>whnf);first|(refine a0t (c) rfl rfl rfl rfl ?_)|((first|apply a0f|apply a0c|apply a0g|apply a0b|apply a0h|apply a0a)<;>intro h<;>try (exfalso;(try dsimp only at h);omega))|refine a0i ?_)
   all_goals (conv=>whnf)
   all_goals first
    |exact a0o rfl
    |(exfalso;omega)
 .have ho:¬g0t n w:=fun h=>hb ⟨h.1,h.2.1,h.2.2.1⟩
  rw [x0T ho,x0S ho]
  refine a0p mixed a0x Tryz.func83 rfl (by kernel_rfl) (by kernel_rfl) (by kernel_rfl) ?_
  repeat' ((conv=>whnf);first|((first|apply a0f|apply a0c|apply a0g|apply a0b|apply a0h|apply a0a)<;>intro h<;>try (exfalso;(try dsimp only at h);omega))|refine a0i ?_)
  all_goals (conv=>whnf)
  all_goals first
   |exact a0o rfl
   |(exfalso;omega)
theorem m0i {n w:Nat} (h:n<10^w) (hw:1<=w):b0Y n<=w:=by
 rcases Nat.lt_or_ge w (b0Y n) with h1|h1
 .by_cases h0:n=0
  .subst h0;rw [b0Y] at h1;simp at h1;omega
  .have:=q0r n (by omega)
   have h2:=Nat.pow_le_pow_right (n:=10) (by omega) (show w<=b0Y n-1 by omega)
   omega
 .exact h1
def j1d (s:ByteArray) (i:Nat):Prop:=32<=a0r s (i:Int)/\a0r s (i:Int)<=126
instance (s:ByteArray) (i:Nat):Decidable (j1d s i):=by unfold j1d;infer_instance
end
section
attribute [local irreducible] a0B a0D a0u a0Y
def h1N (x:Int):Int:=if x<10 then 48+x else 87+x
def y0L (s:ByteArray):Nat->List Int
 |0=> []
 |k+1=>y0L s k++ [h1N (a0r s (k:Int)/16),h1N (a0r s (k:Int)%16)]
theorem g0u (s:ByteArray):∀k,(y0L s k).length=2*k
 |0=>rfl
 |k+1=>by simp only [y0L,List.length_append,g0u s k,List.length_cons,List.length_nil];omega
theorem x0U (s:ByteArray) (i:Int):0<=a0r s i/\a0r s i<=255:=by
 unfold a0r
 have:=(s.data.toList.getD i.toNat 0).toNat_lt
 omega
theorem e1p {x:Int} (h0:0<=x) (h:x<=255):y0P .u8 x 15=x%16:=by
 obtain ⟨n,rfl⟩:=Int.eq_ofNat_of_zero_le h0
 have h1:(BitVec.ofInt 8 (n:Int)&&&BitVec.ofInt 8 15).toNat=n%16:=by
  rw [BitVec.toNat_and,BitVec.toNat_ofInt,BitVec.toNat_ofInt]
  rw [show ((n:Int)%((2^8:Nat):Int)).toNat=n by omega,show ((15:Int)%((2^8:Nat):Int)).toNat=2^4-1 by decide,Nat.and_two_pow_sub_one_eq_mod]
 show IntKind.u8.wrap (((BitVec.ofInt 8 (n:Int)&&&BitVec.ofInt 8 15).toNat:Nat):Int)=_
 rw [h1,w0j (by omega) (by omega)]
 omega
theorem g1T {x:Int}:i0X .u8 x 4=x/16:=f0w (k:= .u8) 4 (by decide)
def h1O:ByteArray:=⟨#[48,49,50,51,52,53,54,55,56,57,97,98,99,100,101,102]⟩
theorem x0V {x:Int} (h0:0<=x) (h:x<16):a0r h1O x=h1N x:=by
 obtain ⟨n,rfl⟩:=Int.eq_ofNat_of_zero_le h0
 have hn:n<16:=by omega
 have:∀n:Nat,n<16->a0r h1O (n:Int)=h1N (n:Int):=by decide
 exact this n hn
theorem b1b (s:ByteArray) (hs:s.size<=1000):c0a Tryz.prog 103 [.str s] (.str (a0F (y0L s s.size))):=by
 refine a0p mixed a0x Tryz.func103 rfl (by kernel_rfl) (by kernel_rfl) (by kernel_rfl) ?_
 have e0:IntKind.i64.wrap (2*(s.size:Int))=((2*s.size:Nat):Int):=by rw [a0G (by omega) (by omega)];omega
 repeat' ((conv=>whnf);first|((first|apply a0f|apply a0c|apply a0g|apply a0b|apply a0h|apply a0a)<;>intro h<;>try (exfalso;(try dsimp only at h);omega))|refine a0i ?_)
 all_goals (conv=>whnf)
 refine a0z (fun k:Nat=>⟨[(0,.str s),(3,.sl 1 0 0 (2*k)),(10,.int .i64 s.size),(11,.int .i64 k)],[(1,some (.one false (.cols (2*k) [.sc (.ints .u8 (y0L s k))])))],2⟩) (fun k=>k<=s.size) (fun k=>s.size-k) 0 [0,1] [] ⟨rfl,⟨rfl,rfl,rfl,rfl,trivial⟩,⟨rfl,trivial⟩⟩ (by omega) ?_
 intro k hk
 have b0:=x0U s (k:Int)
 have a15:=e1p b0.1 b0.2
 have s4:=g1T (x:=a0r s (k:Int))
 repeat' ((conv=>whnf);first|(refine a0q (show 0<=i0X .u8 (a0r s (k:Int)) 4/\i0X .u8 (a0r s (k:Int)) 4<((16:Nat):Int) from ?_) ?_;(rw [s4];omega))|(refine a0q (show 0<=y0P .u8 (a0r s (k:Int)) 15/\y0P .u8 (a0r s (k:Int)) 15<((16:Nat):Int) from ?_) ?_;(rw [a15];omega))|((first|apply a0f|apply a0c|apply a0g|apply a0b|apply a0h|apply a0a)<;>intro h<;>try (exfalso;(try dsimp only at h);omega))|refine a0i ?_)
 all_goals (conv=>whnf)
 .refine ⟨k+1,[0,3],[],by omega,by omega,⟨rfl,⟨rfl,rfl,rfl,congrArg (fun z=>some (SV.int .i64 z)) (b0a (by omega)),trivial⟩,⟨?_,trivial⟩⟩⟩
  have t1:=x0V (x:=a0r s (k:Int)/16) (by omega) (by omega)
  have t2:=x0V (x:=a0r s (k:Int)%16) (by omega) (by omega)
  rw [<-s4] at t1
  rw [<-a15] at t2
  show some (HB.one false (Blk.cols (2*k+2) [BCol.sc (.ints .u8 (y0L s k++ [a0r h1O (i0X .u8 (a0r s (k:Int)) 4),a0r h1O (y0P .u8 (a0r s (k:Int)) 15)]))]))=some (HB.one false (Blk.cols (2*(k+1)) [BCol.sc (.ints .u8 (y0L s (k+1)))]))
  rw [t1,t2,s4,a15]
  rfl
 .have e:k=s.size:=by omega
  subst e
  refine a0o ?_
  rw [show seg 0 (2*s.size) (y0L s s.size)=y0L s s.size by
   unfold seg;rw [List.drop_zero,List.take_of_length_le (by rw [g0u];exact Nat.le_refl _)]]
  rfl
end
section
attribute [local irreducible] a0B a0D a0u a0Y
theorem u0C {s:ByteArray} {w i:Nat} (h:i<w) (hw:w<=s.size):a0r (s.extract 0 w) (i:Int)=a0r s (i:Int):=by
 unfold a0r
 rw [Int.toNat_natCast]
 congr 2
 simp only [ByteArray.data_extract,Array.toList_extract,List.extract_eq_take_drop,Nat.sub_zero,List.drop_zero,List.getD,List.getElem?_take,if_pos h]
theorem h0s {s:ByteArray} {w:Nat} (hw:w<=s.size):(s.extract 0 w).size=w:=by rw [ByteArray.size_extract];omega
theorem f0F {s:ByteArray} {w:Nat} (hw:w<=s.size):∀k,k<=w->g0oz (s.extract 0 w) k=g0oz s k/\d0D (s.extract 0 w) k=d0D s k
 |0,_=>⟨rfl,rfl⟩
 |k+1,h=>by
  obtain ⟨i1,i2⟩:=f0F hw k (by omega)
  have e:=u0C (s:=s) (w:=w) (i:=k) (by omega) hw
  constructor
  .simp only [g0oz,i1,u0Wz,e]
  .simp only [d0D,i2,e]
theorem r0g {s:ByteArray} {k:Nat} (h:g0oz s k=true) (h1:48<=a0r s (k:Int)) (h2:a0r s (k:Int)<=57):g0oz s (k+1)=true:=by
 simp only [g0oz,h,Bool.true_and,decide_eq_true_eq];exact ⟨h1,h2⟩
theorem b1c {s:ByteArray} {k:Nat} (h:g0oz s k=true) (hk:k<=15):0<=d0D s k/\d0D s k<1000000000000000:=by
 have:=n0B k h
 have h2:(10:Int)^k<=10^15:=by
  have:=Nat.pow_le_pow_right (n:=10) (by omega) hk
  have h3:((10^k:Nat):Int)<=((10^15:Nat):Int):=by exact_mod_cast this
  simpa using h3
 have h4:(10:Int)^15=1000000000000000:=by decide
 omega
def b1d (s:ByteArray):Int:=if g0oz s s.size=true then d0D s s.size else 0
theorem h0t (s:ByteArray) (hs:s.size<=15):c0a Tryz.prog 143 [.str s] (.tup [.int .i64 (b1d s),.bool (g0oz s s.size)]):=by
 refine a0p mixed a0x Tryz.func143 rfl (by kernel_rfl) (by kernel_rfl) (by kernel_rfl) ?_
 (conv=>whnf)
 refine a0z (fun k:Nat=>⟨[(0,.str s),(4,.int .i64 (d0D s k)),(7,.int .i64 s.size),(8,.int .i64 k)],[],1⟩) (fun k=>k<=s.size/\g0oz s k=true) (fun k=>s.size-k) 0 [0] [] ⟨rfl,⟨rfl,rfl,rfl,rfl,trivial⟩,trivial⟩ ⟨by omega,rfl⟩ ?_
 rintro k ⟨hk,hc⟩
 have hb:=b1c hc (by omega)
 have bb:=x0U s (k:Int)
 repeat' ((conv=>whnf);first|((first|apply a0f|apply a0c|apply a0g|apply a0b|apply a0h|apply a0a)<;>intro h<;>try (exfalso;(try dsimp only at h);omega))|refine a0i ?_)
 all_goals (conv=>whnf)
 .have hf:g0oz s s.size=false:=h0Sz (k:=k) (by omega) (fun h=>by have:=h.1;omega)
  refine a0o ?_
  rw [show b1d s=0 by unfold b1d;rw [hf];rfl,hf];rfl
 .have hf:g0oz s s.size=false:=h0Sz (k:=k) (by omega) (fun h=>by have:=h.2;omega)
  refine a0o ?_
  rw [show b1d s=0 by unfold b1d;rw [hf];rfl,hf];rfl
 .refine ⟨k+1,[0],[],⟨by omega,r0g hc (by omega) (by omega)⟩,by omega,⟨rfl,⟨rfl,?_,rfl,congrArg (fun z=>some (SV.int .i64 z)) (b0a (by omega)),trivial⟩,trivial⟩⟩
  refine congrArg (fun z=>some (SV.int .i64 z)) ?_
  show IntKind.i64.wrap (IntKind.i64.wrap (10*d0D s k)+IntKind.i64.wrap (IntKind.u8.wrap (a0r s (k:Int)-48)))=d0D s (k+1)
  rw [w0j (by omega) (by omega),a0G (n:=10*d0D s k) (by omega) (by omega),a0G (n:=a0r s (k:Int)-48) (by omega) (by omega),a0G (by omega) (by omega)]
  rfl
 .have e:k=s.size:=by omega
  subst e
  refine a0o ?_
  rw [show b1d s=d0D s s.size by unfold b1d;rw [if_pos hc],hc];rfl
def nuE (s:ByteArray) (w:Int):Int:=if w<1\/15<w then 4 else if (s.size:Int)<w then 1 else if g0oz s w.toNat=true then 0 else 2
def nuV (s:ByteArray) (w:Int):Int:=if nuE s w=0 then d0D s w.toNat else 0
def nuC (s:ByteArray) (w:Int):Int:=if nuE s w=0 then w else 0
theorem i0S (s:ByteArray) (w:Int):(nuE s w=0/\nuV s w=d0D s w.toNat/\nuC s w=w/\1<=w/\w<=15/\w<=(s.size:Int)/\g0oz s w.toNat=true)\/(nuE s w≠0/\nuV s w=0/\nuC s w=0/\((nuE s w=4/\(w<1\/15<w))\/(nuE s w=1/\1<=w/\w<=15/\(s.size:Int)<w)\/(nuE s w=2/\1<=w/\w<=15/\w<=(s.size:Int)/\g0oz s w.toNat=false))):=by
 unfold nuV nuC
 have:(nuE s w=0/\1<=w/\w<=15/\w<=(s.size:Int)/\g0oz s w.toNat=true)\/((nuE s w=4/\(w<1\/15<w))\/(nuE s w=1/\1<=w/\w<=15/\(s.size:Int)<w)\/(nuE s w=2/\1<=w/\w<=15/\w<=(s.size:Int)/\g0oz s w.toNat=false)):=by
  unfold nuE
  by_cases h1:w<1\/15<w
  .rw [if_pos h1];exact .inr (.inl ⟨rfl,h1⟩)
  .rw [if_neg h1]
   by_cases h2:(s.size:Int)<w
   .rw [if_pos h2];exact .inr (.inr (.inl ⟨rfl,by omega,by omega,h2⟩))
   .rw [if_neg h2]
    cases h3:g0oz s w.toNat with
    |true=>exact .inl ⟨rfl,by omega,by omega,by omega,rfl⟩
    |false=>exact .inr (.inr (.inr ⟨rfl,by omega,by omega,by omega,rfl⟩))
 rcases this with h|h
 .rw [if_pos h.1,if_pos h.1];exact .inl ⟨h.1,rfl,rfl,h.2⟩
 .have:nuE s w≠0:=by rcases h with h|h|h<;>rw [h.1]<;>decide
  rw [if_neg this,if_neg this];exact .inr ⟨this,rfl,rfl,h⟩
attribute [irreducible] nuE nuV nuC
theorem x0W (s:ByteArray) (w:Int) (hs:s.size<=9223372036854775000):FC Tryz.prog 3 142 [.str s,.ptr 1 0 0 0,.ptr 2 0 0 0] [(1,some (.one true (.cells [.int .i64 w]))),(2,some (.one false (.cells [.int .i64 0])))]
  (a0s (.tup [.int .i64 (nuC s w),.int .i64 (nuE s w)]) [(2,some (.one false (.cells [.int .i64 (nuV s w)])))] 3):=by
 rcases i0S s w with ⟨e1,e2,e3,h⟩|⟨_,e2,e3,h⟩
 .rw [e1,e2,e3]
  obtain ⟨w',rfl⟩:=Int.eq_ofNat_of_zero_le (show 0<=w by omega)
  rw [Int.toNat_natCast] at h⊢
  have hz:(s.extract 0 w').size=w':=h0s (by omega)
  have c:=h0t (s.extract 0 w') (by omega)
  rw [hz,show b1d (s.extract 0 w')=d0D s w' by
   unfold b1d;rw [hz,(f0F (by omega) w' (Nat.le_refl _)).1,(f0F (by omega) w' (Nat.le_refl _)).2,if_pos h.2.2.2],(f0F (by omega) w' (Nat.le_refl _)).1,h.2.2.2] at c
  refine a0p mixed a0x Tryz.func142 rfl (by kernel_rfl) (by kernel_rfl) (by kernel_rfl) ?_
  repeat' ((conv=>whnf);first|(refine a0j (c) rfl rfl rfl ?_)|(refine a0m (c) rfl rfl rfl ?_)|((first|apply a0f|apply a0c|apply a0g|apply a0b|apply a0h|apply a0a)<;>intro h<;>try (exfalso;(try dsimp only at h);omega))|refine a0i ?_)
  all_goals (conv=>whnf)
  all_goals exact a0n (l:= [0,1,2]) rfl rfl ⟨rfl,trivial⟩ (a0d a0k)
 .rw [e2,e3]
  rcases h with ⟨e1,h⟩|⟨e1,h⟩|⟨e1,h⟩
  .rw [e1]
   refine a0p mixed a0x Tryz.func142 rfl (by kernel_rfl) (by kernel_rfl) (by kernel_rfl) ?_
   repeat' ((conv=>whnf);first|((first|apply a0f|apply a0c|apply a0g|apply a0b|apply a0h|apply a0a)<;>intro h<;>try (exfalso;(try dsimp only at h);omega))|refine a0i ?_)
   all_goals (conv=>whnf)
   all_goals first
    |exact a0n (l:= [0,1,2]) rfl rfl ⟨rfl,trivial⟩ (a0d a0k)
    |(exfalso;omega)
  .rw [e1]
   refine a0p mixed a0x Tryz.func142 rfl (by kernel_rfl) (by kernel_rfl) (by kernel_rfl) ?_
   repeat' ((conv=>whnf);first|((first|apply a0f|apply a0c|apply a0g|apply a0b|apply a0h|apply a0a)<;>intro h<;>try (exfalso;(try dsimp only at h);omega))|refine a0i ?_)
   all_goals (conv=>whnf)
   all_goals first
    |exact a0n (l:= [0,1,2]) rfl rfl ⟨rfl,trivial⟩ (a0d a0k)
    |(exfalso;omega)
  .rw [e1]
   obtain ⟨w',rfl⟩:=Int.eq_ofNat_of_zero_le (show 0<=w by omega)
   rw [Int.toNat_natCast] at h
   have hz:(s.extract 0 w').size=w':=h0s (by omega)
   have c:=h0t (s.extract 0 w') (by omega)
   rw [hz,(f0F (by omega) w' (Nat.le_refl _)).1,h.2.2.2] at c
   refine a0p mixed a0x Tryz.func142 rfl (by kernel_rfl) (by kernel_rfl) (by kernel_rfl) ?_
   repeat' ((conv=>whnf);first|(refine a0j (c) rfl rfl rfl ?_)|(refine a0m (c) rfl rfl rfl ?_)|((first|apply a0f|apply a0c|apply a0g|apply a0b|apply a0h|apply a0a)<;>intro h<;>try (exfalso;(try dsimp only at h);omega))|refine a0i ?_)
   all_goals (conv=>whnf)
   all_goals first
    |exact a0n (l:= [0,1,2]) rfl rfl ⟨rfl,trivial⟩ (a0d a0k)
    |(exfalso;omega)
def rdB (s:ByteArray) (e:Int):Option HB:=some (.one false (.cells [.str s,.int .i64 e]))
theorem n0D (s:ByteArray) (w:Int) (hs:s.size<=9223372036854775000):FC Tryz.prog 4 140 [.ptr 1 0 0 0,.fn 142 [.ptr 2 0 0 0,.ptr 3 0 0 0]] [(1,rdB s 0),(2,some (.one true (.cells [.int .i64 w]))),(3,some (.one false (.cells [.int .i64 0])))]
  (a0s (.tup []) [(1,rdB (s.extract (nuC s w).toNat s.size) (nuE s w)),(3,some (.one false (.cells [.int .i64 (nuV s w)])))] 4):=by
 have c:=x0W s w hs
 rcases i0S s w with ⟨e1,e2,e3,h⟩|⟨e1,e2,e3,h⟩
 .rw [e1,e2,e3] at c⊢
  refine a0p mixed a0x Tryz.func140 rfl (by kernel_rfl) (by kernel_rfl) (by kernel_rfl) ?_
  repeat' ((conv=>whnf);first|refine a0e (l:= [0,2,3]) (c) ?_|refine a0l (l:= [0,2,3]) (c) ?_|((first|apply a0f|apply a0c|apply a0g|apply a0b|apply a0h|apply a0a)<;>intro h<;>try (exfalso;(try dsimp only at h);omega))|refine a0i ?_)
  all_goals (conv=>whnf)
  all_goals exact a0n (l:= [0,1,2,3]) rfl rfl ⟨rfl,rfl,trivial⟩ (a0d (a0d a0k))
 .rw [e2,e3] at c⊢
  rw [show s.extract (Int.toNat 0) s.size=s from by simp]
  refine a0p mixed a0x Tryz.func140 rfl (by kernel_rfl) (by kernel_rfl) (by kernel_rfl) ?_
  repeat' ((conv=>whnf);first|refine a0e (l:= [0,2,3]) (c) ?_|refine a0l (l:= [0,2,3]) (c) ?_|((first|apply a0f|apply a0c|apply a0g|apply a0b|apply a0h|apply a0a)<;>intro h<;>try (exfalso;(try dsimp only at h);omega))|refine a0i ?_)
  all_goals (conv=>whnf)
  all_goals first
   |exact a0n (l:= [0,1,2,3]) rfl rfl ⟨rfl,rfl,trivial⟩ (a0d (a0d a0k))
   |(exfalso;exact e1 (by assumption))
end
section
attribute [local irreducible] a0B a0D a0u a0Y
theorem k0A (s:ByteArray) (e:Int) (F:Nat) (he:e≠0):FC Tryz.prog 4 140 [.ptr 1 0 0 0,.fn F [.ptr 2 0 0 0,.ptr 3 0 0 0]] [(1,rdB s e)] (a0s (.tup []) [(1,rdB s e)] 4):=by
 refine a0p mixed a0x Tryz.func140 rfl (by kernel_rfl) (by kernel_rfl) (by kernel_rfl) ?_
 repeat' ((conv=>whnf);first|((first|apply a0f|apply a0c|apply a0g|apply a0b|apply a0h|apply a0a)<;>intro h<;>try (exfalso;(try dsimp only at h);omega))|refine a0i ?_)
 all_goals (conv=>whnf)
 all_goals first
  |exact a0n (l:= [0,1,2,3]) rfl rfl ⟨rfl,trivial⟩ (a0d a0k)
  |(exfalso;exact he (by assumption))
def nS (s:ByteArray) (e w:Int):ByteArray:=if e=0 then s.extract (nuC s w).toNat s.size else s
def nE (s:ByteArray) (e w:Int):Int:=if e=0 then nuE s w else e
def nV (s:ByteArray) (e w:Int):Int:=if e=0 then nuV s w else 0
theorem x0X (s:ByteArray) (e w:Int) (hs:s.size<=9223372036854775000):FC Tryz.prog 2 119 [.ptr 1 0 0 0,.int .i64 w] [(1,rdB s e)] (a0s (.int .i64 (nV s e w)) [(1,rdB (nS s e w) (nE s e w))] 2):=by
 unfold nS nE nV
 by_cases he:e=0
 .subst he
  have c:=n0D s w hs
  rw [if_pos rfl,if_pos rfl,if_pos rfl]
  refine a0p mixed a0x Tryz.func119 rfl (by kernel_rfl) (by kernel_rfl) (by kernel_rfl) ?_
  repeat' ((conv=>whnf);first|refine a0e (l:= [0,1,2,3]) (c) ?_|refine a0l (l:= [0,1,2,3]) (c) ?_|((first|apply a0f|apply a0c|apply a0g|apply a0b|apply a0h|apply a0a)<;>intro h<;>try (exfalso;(try dsimp only at h);omega))|refine a0i ?_)
  all_goals (conv=>whnf)
  all_goals exact a0n (l:= [0,1]) rfl rfl ⟨rfl,trivial⟩ (a0d a0k)
 .have c:=k0A s e 142 he
  rw [if_neg he,if_neg he,if_neg he]
  refine a0p mixed a0x Tryz.func119 rfl (by kernel_rfl) (by kernel_rfl) (by kernel_rfl) ?_
  repeat' ((conv=>whnf);first|refine a0e (l:= [0,1,2,3]) (c) ?_|refine a0l (l:= [0,1,2,3]) (c) ?_|((first|apply a0f|apply a0c|apply a0g|apply a0b|apply a0h|apply a0a)<;>intro h<;>try (exfalso;(try dsimp only at h);omega))|refine a0i ?_)
  all_goals (conv=>whnf)
  all_goals exact a0n (l:= [0,1]) rfl rfl ⟨rfl,trivial⟩ (a0d a0k)
theorem x0Y (s:ByteArray):FC Tryz.prog 1 117 [.str s] [] (a0s (.ptr 1 0 0 0) [(1,rdB s 0)] 2):=by
 refine a0p mixed a0x Tryz.func117 rfl (by kernel_rfl) (by kernel_rfl) (by kernel_rfl) ?_
 repeat' ((conv=>whnf);first|((first|apply a0f|apply a0c|apply a0g|apply a0b|apply a0h|apply a0a)<;>intro h<;>try (exfalso;(try dsimp only at h);omega))|refine a0i ?_)
 all_goals (conv=>whnf)
 all_goals exact a0n (l:= [0,1]) rfl rfl ⟨rfl,trivial⟩ (a0d a0k)
theorem e1q (s:ByteArray) (e:Int):FC Tryz.prog 2 121 [.ptr 1 0 0 0] [(1,rdB s e)] (a0s (.int .i64 s.size) [(1,rdB s e)] 2):=by
 refine a0p mixed a0x Tryz.func121 rfl (by kernel_rfl) (by kernel_rfl) (by kernel_rfl) ?_
 repeat' ((conv=>whnf);first|((first|apply a0f|apply a0c|apply a0g|apply a0b|apply a0h|apply a0a)<;>intro h<;>try (exfalso;(try dsimp only at h);omega))|refine a0i ?_)
 all_goals (conv=>whnf)
 all_goals exact a0n (l:= [0,1]) rfl rfl ⟨rfl,trivial⟩ (a0d a0k)
theorem m0j (s:ByteArray) (e:Int):FC Tryz.prog 2 120 [.ptr 1 0 0 0] [(1,rdB s e)] (a0s (.int .i64 e) [(1,rdB s e)] 2):=by
 refine a0p mixed a0x Tryz.func120 rfl (by kernel_rfl) (by kernel_rfl) (by kernel_rfl) ?_
 repeat' ((conv=>whnf);first|((first|apply a0f|apply a0c|apply a0g|apply a0b|apply a0h|apply a0a)<;>intro h<;>try (exfalso;(try dsimp only at h);omega))|refine a0i ?_)
 all_goals (conv=>whnf)
 all_goals exact a0n (l:= [0,1]) rfl rfl ⟨rfl,trivial⟩ (a0d a0k)
end
section
attribute [local irreducible] a0B a0D a0u a0Y
end
section
attribute [local irreducible] a0B a0D a0u a0Y
theorem e1r {s:ByteArray}:s.extract 0 s.size=s:=by simp
theorem g1U {a b:ByteArray} (h:seq a b=true):a=b:=by
 simpa [seq] using h
def tkE (s:ByteArray) (w:Int):Int:=if w<0 then 4 else if (s.size:Int)<w then 1 else 0
def tkS (s:ByteArray) (w:Int):ByteArray:=if tkE s w=0 then s.extract 0 w.toNat else ⟨#[]⟩
def y0M (e w:Int):Int:=if e=0 then w else 0
theorem f0G (s:ByteArray) (w:Int):(tkE s w=4/\w<0)\/(0<=w/\((tkE s w=1/\(s.size:Int)<w)\/(tkE s w=0/\w<=(s.size:Int)))):=by
 unfold tkE
 by_cases h1:w<0
 .rw [if_pos h1];exact .inl ⟨rfl,h1⟩
 .rw [if_neg h1]
  refine .inr ⟨by omega,?_⟩
  by_cases h2:(s.size:Int)<w
  .rw [if_pos h2];exact .inl ⟨rfl,h2⟩
  .rw [if_neg h2];exact .inr ⟨rfl,by omega⟩
theorem s0U {s:ByteArray} {w:Int} (h:tkE s w=0):tkS s w=s.extract 0 w.toNat:=by unfold tkS;rw [if_pos h]
theorem c1m {s:ByteArray} {w:Int} (h:tkE s w≠0):tkS s w=⟨#[]⟩:=by unfold tkS;rw [if_neg h]
attribute [irreducible] tkE tkS
theorem u0D (s:ByteArray) (w:Int) (hs:s.size<=9223372036854775000):FC Tryz.prog 3 141 [.str s,.ptr 1 0 0 0,.ptr 2 0 0 0] [(1,some (.one true (.cells [.int .i64 w]))),(2,some (.one false (.cells [.str ⟨#[]⟩])))]
  (a0s (.tup [.int .i64 (y0M (tkE s w) w),.int .i64 (tkE s w)]) [(2,some (.one false (.cells [.str (tkS s w)])))] 3):=by
 rcases f0G s w with ⟨e1,h⟩|⟨h1,⟨e1,h⟩|⟨e1,h⟩⟩
 .rw [c1m (by omega),e1,show y0M 4 w=0 from rfl]
  refine a0p mixed a0x Tryz.func141 rfl (by kernel_rfl) (by kernel_rfl) (by kernel_rfl) ?_
  repeat' ((conv=>whnf);first|((first|apply a0f|apply a0c|apply a0g|apply a0b|apply a0h|apply a0a)<;>intro h<;>try (exfalso;(try dsimp only at h);omega))|refine a0i ?_)
  all_goals (conv=>whnf)
  all_goals first
   |exact a0n (l:= [0,1,2]) rfl rfl ⟨rfl,trivial⟩ (a0d a0k)
   |(exfalso;omega)
 .rw [c1m (by omega),e1,show y0M 1 w=0 from rfl]
  refine a0p mixed a0x Tryz.func141 rfl (by kernel_rfl) (by kernel_rfl) (by kernel_rfl) ?_
  repeat' ((conv=>whnf);first|((first|apply a0f|apply a0c|apply a0g|apply a0b|apply a0h|apply a0a)<;>intro h<;>try (exfalso;(try dsimp only at h);omega))|refine a0i ?_)
  all_goals (conv=>whnf)
  all_goals first
   |exact a0n (l:= [0,1,2]) rfl rfl ⟨rfl,trivial⟩ (a0d a0k)
   |(exfalso;omega)
 .rw [s0U e1,e1,show y0M 0 w=w from rfl]
  refine a0p mixed a0x Tryz.func141 rfl (by kernel_rfl) (by kernel_rfl) (by kernel_rfl) ?_
  repeat' ((conv=>whnf);first|((first|apply a0f|apply a0c|apply a0g|apply a0b|apply a0h|apply a0a)<;>intro h<;>try (exfalso;(try dsimp only at h);omega))|refine a0i ?_)
  all_goals (conv=>whnf)
  all_goals first
   |exact a0n (l:= [0,1,2]) rfl rfl ⟨rfl,trivial⟩ (a0d a0k)
   |(exfalso;omega)
theorem u0E {F:Nat} {s V:ByteArray} {w E:Int} (hw:E=0->0<=w/\w<=(s.size:Int)) (c:FC Tryz.prog 3 F [.str s,.ptr 1 0 0 0,.ptr 2 0 0 0] [(1,some (.one true (.cells [.int .i64 w]))),(2,some (.one false (.cells [.str ⟨#[]⟩])))]
  (a0s (.tup [.int .i64 (y0M E w),.int .i64 E]) [(2,some (.one false (.cells [.str V])))] 3)):
  FC Tryz.prog 4 140 [.ptr 1 0 0 0,.fn F [.ptr 2 0 0 0,.ptr 3 0 0 0]] [(1,rdB s 0),(2,some (.one true (.cells [.int .i64 w]))),(3,some (.one false (.cells [.str ⟨#[]⟩])))]
  (a0s (.tup []) [(1,rdB (s.extract (y0M E w).toNat s.size) E),(3,some (.one false (.cells [.str V])))] 4):=by
 by_cases e1:E=0
 .subst e1
  have hw':=hw rfl
  rw [show y0M 0 w=w from rfl] at c⊢
  refine a0p mixed a0x Tryz.func140 rfl (by kernel_rfl) (by kernel_rfl) (by kernel_rfl) ?_
  repeat' ((conv=>whnf);first|refine a0e (l:= [0,2,3]) (c) ?_|refine a0l (l:= [0,2,3]) (c) ?_|((first|apply a0f|apply a0c|apply a0g|apply a0b|apply a0h|apply a0a)<;>intro h<;>try (exfalso;(try dsimp only at h);omega))|refine a0i ?_)
  all_goals (conv=>whnf)
  all_goals exact a0n (l:= [0,1,2,3]) rfl rfl ⟨rfl,rfl,trivial⟩ (a0d (a0d a0k))
 .rw [show y0M E w=0 by unfold y0M;rw [if_neg e1]] at c⊢
  rw [show s.extract (Int.toNat 0) s.size=s from by simp]
  refine a0p mixed a0x Tryz.func140 rfl (by kernel_rfl) (by kernel_rfl) (by kernel_rfl) ?_
  repeat' ((conv=>whnf);first|refine a0e (l:= [0,2,3]) (c) ?_|refine a0l (l:= [0,2,3]) (c) ?_|((first|apply a0f|apply a0c|apply a0g|apply a0b|apply a0h|apply a0a)<;>intro h<;>try (exfalso;(try dsimp only at h);omega))|refine a0i ?_)
  all_goals (conv=>whnf)
  all_goals first
   |exact a0n (l:= [0,1,2,3]) rfl rfl ⟨rfl,rfl,trivial⟩ (a0d (a0d a0k))
   |(exfalso;exact e1 (by assumption))
def tS (s:ByteArray) (e E w:Int):ByteArray:=if e=0 then s.extract (y0M E w).toNat s.size else s
def tE (e E:Int):Int:=if e=0 then E else e
def tV (e:Int) (V:ByteArray):ByteArray:=if e=0 then V else ⟨#[]⟩
theorem r0h (s:ByteArray) (e w:Int) (hs:s.size<=9223372036854775000):FC Tryz.prog 2 118 [.ptr 1 0 0 0,.int .i64 w] [(1,rdB s e)] (a0s (.str (tV e (tkS s w))) [(1,rdB (tS s e (tkE s w) w) (tE e (tkE s w)))] 2):=by
 unfold tS tE tV
 by_cases he:e=0
 .subst he
  have c:=u0E (E:=tkE s w) (w:=w) (fun h=>by
   rcases f0G s w with ⟨e1,_⟩|⟨h1,⟨e1,_⟩|⟨hz,_⟩⟩<;>omega) (u0D s w hs)
  rw [if_pos rfl,if_pos rfl,if_pos rfl]
  refine a0p mixed a0x Tryz.func118 rfl (by kernel_rfl) (by kernel_rfl) (by kernel_rfl) ?_
  repeat' ((conv=>whnf);first|refine a0e (l:= [0,1,2,3]) (c) ?_|refine a0l (l:= [0,1,2,3]) (c) ?_|((first|apply a0f|apply a0c|apply a0g|apply a0b|apply a0h|apply a0a)<;>intro h<;>try (exfalso;(try dsimp only at h);omega))|refine a0i ?_)
  all_goals (conv=>whnf)
  all_goals exact a0n (l:= [0,1]) rfl rfl ⟨rfl,trivial⟩ (a0d a0k)
 .have c:=k0A s e 141 he
  rw [if_neg he,if_neg he,if_neg he]
  refine a0p mixed a0x Tryz.func118 rfl (by kernel_rfl) (by kernel_rfl) (by kernel_rfl) ?_
  repeat' ((conv=>whnf);first|refine a0e (l:= [0,1,2,3]) (c) ?_|refine a0l (l:= [0,1,2,3]) (c) ?_|((first|apply a0f|apply a0c|apply a0g|apply a0b|apply a0h|apply a0a)<;>intro h<;>try (exfalso;(try dsimp only at h);omega))|refine a0i ?_)
  all_goals (conv=>whnf)
  all_goals exact a0n (l:= [0,1]) rfl rfl ⟨rfl,trivial⟩ (a0d a0k)
end
section
def hxS (h:Int):ByteArray:=a0F (y0L (u0Z h) 8)
theorem i0T (h:Int):(hxS h).size=16:=by unfold hxS;rw [c0r,g0u]
attribute [irreducible] hxS
def c1n:ByteArray:=⟨#[46]⟩
def r0i:ByteArray:=⟨#[43]⟩
theorem b0h (a b:ByteArray):(a++b).size=a.size+b.size:=by simp
theorem p0x {n w:Nat} (h:g0t n w):(d0p n w).size=w:=by rw [r0f h,c0r,a0O,Int.toNat_natCast]
theorem c1o {n:Nat} (h:n<10000):g0t n (4:Nat):=⟨by omega,by omega,by omega,by rw [Int.toNat_natCast,Int.toNat_natCast];exact m0i (by simpa using h) (by omega)⟩
theorem c1p {n:Nat} (h:n<100):g0t n (2:Nat):=⟨by omega,by omega,by omega,by rw [Int.toNat_natCast,Int.toNat_natCast];exact m0i (by simpa using h) (by omega)⟩
theorem c0M {n:Nat} (h:n<10000):(d0p n 4).size=4:=p0x (c1o h)
theorem f0H {n:Nat} (h:n<100):(d0p n 2).size=2:=p0x (c1p h)
def stK (g:List ByteArray):Nat->ByteArray
 |0=>⟨#[]⟩
 |k+1=>stK g k++(d0p (g.getD k ⟨#[]⟩).size 4++g.getD k ⟨#[]⟩)
def a0C:List ByteArray->ByteArray
 | []=>⟨#[]⟩
 |r::l=>(d0p r.size 4++r)++a0C l
theorem m0k (a:ByteArray):(⟨#[]⟩:ByteArray)++a=a:=by apply h0r;simp
theorem e1s (a:ByteArray):a++(⟨#[]⟩:ByteArray)=a:=by apply h0r;simp
theorem s0V (r:ByteArray) (l:List ByteArray):∀k,stK (r::l) (k+1)=(d0p r.size 4++r)++stK l k
 |0=>by simp only [stK,List.getD_cons_zero];rw [m0k,e1s]
 |k+1=>by
  rw [stK,s0V r l k]
  simp only [stK,List.getD_cons_succ,ByteArray.append_assoc]
theorem d0R:∀g:List ByteArray,stK g g.length=a0C g
 | []=>rfl
 |r::l=>by rw [List.length_cons,s0V,d0R l];rfl
def okR (g:List ByteArray):Prop:=∀r∈g,r.size<=4000
def d0G (g:List ByteArray):Nat->Nat
 |0=>0
 |k+1=>d0G g k+(4+(g.getD k ⟨#[]⟩).size)
theorem p0y {g:List ByteArray} (h:okR g) (i:Nat):(g.getD i ⟨#[]⟩).size<=4000:=by
 rcases Nat.lt_or_ge i g.length with hi|hi
 .rw [List.getD,List.getElem?_eq_getElem hi];exact h _ (List.getElem_mem hi)
 .rw [List.getD,List.getElem?_eq_none hi];decide
theorem d0S {g:List ByteArray} (h:okR g):∀k,(stK g k).size=d0G g k
 |0=>rfl
 |k+1=>by
  have:=p0y h k
  rw [stK,d0G,b0h,b0h,c0M (by omega),d0S h k]
theorem s0W {g:List ByteArray} (h:okR g):∀k,d0G g k<=4004*k
 |0=>Nat.le_refl _
 |k+1=>by
  have:=p0y h k
  have:=s0W h k
  simp only [d0G];omega
theorem m0l {g:List ByteArray}:∀k,4*k<=d0G g k
 |0=>Nat.le_refl _
 |k+1=>by have:=m0l (g:=g) k;simp only [d0G];omega
def rsT (s:ByteArray) (k:Nat):ByteArray:=s.extract (45*k) s.size
def c0D (r:ByteArray):ByteArray:=(if r.size<=45 then c1n else r0i)++d0p (min r.size 45:Nat) 2++r.extract 0 (min r.size 45)
def hK (p:Int) (s:ByteArray):Nat->Int
 |0=>p
 |k+1=>chI (hK p s k) (c0D (rsT s k))
def bK (p:Int) (s:ByteArray) (k:Nat):ByteArray:=hxS (hK p s (k+1))++c0D (rsT s k)
def bkL (p:Int) (s:ByteArray) (k:Nat):List ByteArray:=(List.range k).map (bK p s)
def b0i (s:ByteArray):Nat:=(s.size+44)/45
theorem s0X (p:Int) (s:ByteArray) (k:Nat):bkL p s (k+1)=bkL p s k++ [bK p s k]:=by simp [bkL,List.range_succ]
theorem r0j (p:Int) (s:ByteArray) {k i:Nat} (h:i<k):(bkL p s k).getD i ⟨#[]⟩=bK p s i:=by simp [bkL,List.getD,h]
theorem g1V {p:Int} (hp:0<=p/\p<18446744073709551616) (s:ByteArray):∀k,0<=hK p s k/\hK p s k<18446744073709551616
 |0=>hp
 |k+1=>s0y _ _
theorem f0I (s:ByteArray) (k:Nat):(rsT s k).size=s.size-45*k:=by unfold rsT;rw [ByteArray.size_extract];omega
theorem s0Y (s:ByteArray):rsT s 0=s:=by unfold rsT;simp
theorem n0E (s:ByteArray) (k:Nat):(rsT s k).extract (min (rsT s k).size 45) (rsT s k).size=rsT s (k+1):=by
 rw [f0I]
 apply h0r
 unfold rsT
 have hl:s.data.toList.length=s.size:=by simp
 simp only [ByteArray.data_extract,Array.toList_extract,List.extract_eq_take_drop]
 apply List.ext_getElem?
 intro i
 simp only [List.getElem?_take,List.getElem?_drop]
 by_cases h:45*(k+1)+i<s.size
 .rw [if_pos (by omega),if_pos (by omega),if_pos (by omega)]
  congr 1;omega
 .by_cases h2:i<s.size-45*k-min (s.size-45*k) 45
  .omega
  .rw [if_neg h2,if_neg (by omega)]
theorem f0J {r:ByteArray}:(c0D r).size=3+min r.size 45:=by
 unfold c0D
 rw [b0h,b0h,f0H (by omega),ByteArray.size_extract]
 split<;>simp only [c1n,r0i]<;>(show 1+2+_=_;omega)
theorem e1t (p:Int) (s:ByteArray) (k:Nat):(bK p s k).size=19+min (s.size-45*k) 45:=by
 unfold bK
 rw [b0h,i0T,f0J,f0I];omega
end
section
attribute [local irreducible] a0B a0D a0u a0Y
theorem e0E (p:Int):c0a Tryz.prog 84 [.int .u64 p] (.str (hxS p)):=by
 have c1:=b1b (u0Z p) (by rw [h0k];omega)
 rw [h0k] at c1
 unfold hxS
 refine a0p mixed a0x Tryz.func84 rfl (by kernel_rfl) (by kernel_rfl) (by kernel_rfl) ?_
 repeat' ((conv=>whnf);first|((first|apply a0f|apply a0c|apply a0g|apply a0b|apply a0h|apply a0a)<;>intro h<;>try (exfalso;(try dsimp only at h);omega))|refine a0i ?_)
 all_goals (conv=>whnf)
 refine a0z (fun k:Nat=>⟨[(0,.int .u64 p),(3,.ptr 1 0 0 0),(5,.int .i64 k)],[(1,some (.one false (.cols 8 [.sc (.ints .u8 (beZ p k))])))],2⟩) (fun k=>k<=8) (fun k=>8-k) 0 [0,1] [] ⟨rfl,⟨rfl,rfl,rfl,trivial⟩,⟨rfl,trivial⟩⟩ (by omega) ?_
 intro k hk
 by_cases hlt:k<8
 .have e:=s0z hlt
  repeat' ((conv=>whnf);first|(refine a0q (show 0<=IntKind.i64.wrap (56-IntKind.i64.wrap (8*(k:Int))) from ?_) ?_;(rw [e];omega))|((first|apply a0f|apply a0c|apply a0g|apply a0b|apply a0h|apply a0a)<;>intro h<;>try (exfalso;(try dsimp only at h);omega))|refine a0i ?_)
  all_goals (conv=>whnf)
  .refine ⟨k+1,[0,1],[],by omega,by omega,⟨rfl,⟨rfl,rfl,congrArg (fun z=>some (SV.int .i64 z)) (b0a (by omega)),trivial⟩,⟨?_,trivial⟩⟩⟩
   refine congrArg (fun z=>some (HB.one false (.cols 8 [.sc (.ints .u8 z)]))) ?_
   show (beZ p k).set k (IntKind.u8.wrap (i0X .u64 p (IntKind.i64.wrap (56-IntKind.i64.wrap (8*(k:Int))))))=_
   rw [e]
   exact x0g p k hlt
 .have e:k=8:=by omega
  subst e
  rw [show beZ p 8=beL p 8 from x0h p]
  have e8:a0F (seg 0 8 (beL p 8))=u0Z p:=by
   unfold seg u0Z;rw [List.drop_zero,List.take_of_length_le (by rw [d0o];exact Nat.le_refl _)]
  rw [<-e8] at c1
  repeat' ((conv=>whnf);first|(refine a0j (c1) rfl rfl rfl ?_)|(refine a0m (c1) rfl rfl rfl ?_)|((first|apply a0f|apply a0c|apply a0g|apply a0b|apply a0h|apply a0a)<;>intro h<;>try (exfalso;(try dsimp only at h);omega))|refine a0i ?_)
  all_goals (conv=>whnf)
  exact a0o (by rw [e8];rfl)
end
section
attribute [local irreducible] a0B a0D a0u a0Y
def grB (n:Nat) (g:List ByteArray):Option HB:=some (.one true (.cols n [.sc (.strs g)]))
def grW (n:Nat) (g:List ByteArray):Option HB:=some (.one false (.cols n [.sc (.strs g)]))
def e0L (g:List ByteArray):Nat->Bool
 |0=>false
 |k+1=>e0L g k||decide (4000<(g.getD k ⟨#[]⟩).size)
def l0i (g:List ByteArray):Int:=if g.length=0 then 8 else if 256<g.length then 12 else if e0L g g.length=true then 3 else 0
theorem u0F {g:List ByteArray} {k n:Nat} (h:k<n) (hc:4000<(g.getD k ⟨#[]⟩).size):e0L g n=true:=by
 induction n with
 |zero=>omega
 |succ n ih=>
  simp only [e0L]
  by_cases e:k=n
  .subst e;rw [decide_eq_true hc,Bool.or_true]
  .rw [ih (by omega)];rfl
theorem k0B {g:List ByteArray} {n:Nat} (h:e0L g n=false):∀k,k<n->(g.getD k ⟨#[]⟩).size<=4000:=by
 intro k hk
 rcases Nat.lt_or_ge 4000 (g.getD k ⟨#[]⟩).size with h'|h'
 .rw [u0F hk h'] at h;cases h
 .exact h'
theorem b1e {g:List ByteArray} (h:e0L g g.length=false):okR g:=by
 intro r hr
 obtain ⟨i,hi,rfl⟩:=List.getElem_of_mem hr
 have:=k0B h i hi
 rwa [List.getD,List.getElem?_eq_getElem hi] at this
theorem s0Z {g:List ByteArray} (h:okR g):∀k,e0L g k=false
 |0=>rfl
 |k+1=>by
  simp only [e0L,s0Z h k,Bool.false_or,decide_eq_false_iff_not]
  have:=p0y h k
  omega
theorem h0u {r:ByteArray} (h:r.size<=4000):(d0p r.size 4++r).size=4+r.size:=by rw [b0h,c0M (by omega)]
theorem t0a {g:List ByteArray}:∀{k:Nat},(∀i,i<k->(g.getD i ⟨#[]⟩).size<=4000)->(stK g k).size<=4004*k
 |0,_=>Nat.le_refl _
 |k+1,h=>by
  have h1:=h k (Nat.lt_succ_self k)
  have h2:=t0a (k:=k) (fun i hi=>h i (by omega))
  simp only [stK]
  rw [b0h,h0u h1]
  omega
def i1F (p:Int) (n:Nat) (g:List ByteArray):Nat->VS
 |0=>⟨[(0,.int .u64 p),(7,.ptr 2 0 0 0),(25,.sl 1 0 0 n),(26,.int .i64 n),(27,.int .i64 0)],[(0,some (GB glT)),(1,grB n g),(2,x0t)],3⟩
 |k+1=>⟨[(0,.int .u64 p),(7,.ptr 2 0 0 0),(25,.sl 1 0 0 n),(26,.int .i64 n),(27,.int .i64 (k+1:Nat))],[(0,some (GB glT)),(1,grB n g),(2,i0y 3 (stK g (k+1)).size),(3,e0K (stK g (k+1)))],4⟩
theorem x0Z (p:Int) (g:List ByteArray) (n:Nat) (hn:g.length=n) (he:l0i g≠0) (hm:n<=maxLen):FC Tryz.prog 2 55 [.int .u64 p,.sl 1 0 0 n] [(0,some (GB glT)),(1,grB n g)] (a0s (.tup [.nsl,.int .u64 0,.int .i64 (l0i g)]) [] 2):=by
 unfold maxLen at hm
 by_cases h0:n=0
 .rw [show l0i g=8 by unfold l0i;rw [if_pos (by omega)]]
  refine a0p mixed a0x Tryz.func55 rfl (by kernel_rfl) (by kernel_rfl) (by kernel_rfl) ?_
  repeat' ((conv=>whnf);first|((first|apply a0f|apply a0c|apply a0g|apply a0b|apply a0h|apply a0a)<;>intro h<;>try (exfalso;(try dsimp only at h);omega))|refine a0i ?_)
  all_goals (conv=>whnf)
  all_goals exact a0n (l:= [0,1]) rfl rfl trivial a0k
 .by_cases h1:256<n
  .rw [show l0i g=12 by unfold l0i;rw [if_neg (by omega),if_pos (by omega)]]
   refine a0p mixed a0x Tryz.func55 rfl (by kernel_rfl) (by kernel_rfl) (by kernel_rfl) ?_
   repeat' ((conv=>whnf);first|((first|apply a0f|apply a0c|apply a0g|apply a0b|apply a0h|apply a0a)<;>intro h<;>try (exfalso;(try dsimp only at h);omega))|refine a0i ?_)
   all_goals (conv=>whnf)
   all_goals exact a0n (l:= [0,1]) rfl rfl trivial a0k
  .have hl:e0L g g.length=true:=by
    cases h:e0L g g.length with
    |true=>rfl
    |false=>exact absurd (show l0i g=0 by unfold l0i;rw [if_neg (by omega),if_neg (by omega),h];rfl) he
   rw [show l0i g=3 by unfold l0i;rw [if_neg (by omega),if_neg (by omega),if_pos hl]]
   refine a0p mixed a0x Tryz.func55 rfl (by kernel_rfl) (by kernel_rfl) (by kernel_rfl) ?_
   repeat' ((conv=>whnf);first|((first|apply a0f|apply a0c|apply a0g|apply a0b|apply a0h|apply a0a)<;>intro h<;>try (exfalso;(try dsimp only at h);omega))|refine a0i ?_)
   all_goals (conv=>whnf)
   refine a0z (i1F p n g) (fun k=>k<=n/\e0L g k=false) (fun k=>n-k) 0 [0,1,2] [] ⟨rfl,⟨rfl,rfl,rfl,rfl,rfl,trivial⟩,⟨gwk rfl,rfl,rfl,trivial⟩⟩ ⟨by omega,rfl⟩ ?_
   rintro k ⟨hk,hf⟩
   have hlk:k=n->False:=fun e=>by rw [e,<-hn,hl] at hf;cases hf
   have hlt:k<n:=by
    rcases Nat.lt_or_ge k n with h|h
    .exact h
    .exact (hlk (by omega)).elim
   cases k with
   |zero=>
    by_cases hbig:4000<(g.getD 0 ⟨#[]⟩).size
    .repeat' ((conv=>whnf);first|((first|apply a0f|apply a0c|apply a0g|apply a0b|apply a0h|apply a0a)<;>intro h<;>try (exfalso;(try dsimp only at h);omega))|refine a0i ?_)
     all_goals (conv=>whnf)
     all_goals first
      |exact a0n (l:= [0,1]) rfl rfl trivial a0k
      |(exfalso;rename_i h;have h':¬((4000:Int)<((g.getD 0 ⟨#[]⟩).size:Int)):=h;omega)
    .have rs:=h0u (r:=g.getD 0 ⟨#[]⟩) (by omega)
     have ns:=c0M (n:=(g.getD 0 ⟨#[]⟩).size) (by omega)
     have c1:=f0E (g.getD 0 ⟨#[]⟩).size 4 (by omega)
     have c2:=h0Y (d0p (g.getD 0 ⟨#[]⟩).size 4++g.getD 0 ⟨#[]⟩) (by omega) (by omega)
     have fs:e0L g 1=false:=by simp only [e0L,Bool.false_or,decide_eq_false_iff_not];exact hbig
     have e1:stK g (0+1)=d0p (g.getD 0 ⟨#[]⟩).size 4++g.getD 0 ⟨#[]⟩:=m0k _
     repeat' ((conv=>whnf);first|(refine a0t (c1) rfl rfl rfl rfl ?_)|refine a0e (l:= [0,2]) (c2) ?_|(refine a0q (show (d0p (g.getD 0 ⟨#[]⟩).size 4).size+(g.getD 0 ⟨#[]⟩).size<=9223372036854775807 from by omega) ?_)|((first|apply a0f|apply a0c|apply a0g|apply a0b|apply a0h|apply a0a)<;>intro h<;>try (exfalso;(try dsimp only at h);omega))|refine a0i ?_)
     all_goals (conv=>whnf)
     all_goals first
      |(exfalso;rename_i h;have h':(4000:Int)<((g.getD 0 ⟨#[]⟩).size:Int):=h;omega)
      |(refine ⟨1,[0,1,2,3],[],⟨by omega,fs⟩,by omega,⟨rfl,⟨rfl,rfl,rfl,rfl,rfl,trivial⟩,⟨gwk rfl,rfl,?_,?_,trivial⟩⟩⟩<;>(rw [e1];rfl))
   |succ k=>
    by_cases hbig:4000<(g.getD (k+1) ⟨#[]⟩).size
    .repeat' ((conv=>whnf);first|((first|apply a0f|apply a0c|apply a0g|apply a0b|apply a0h|apply a0a)<;>intro h<;>try (exfalso;(try dsimp only at h);omega))|refine a0i ?_)
     all_goals (conv=>whnf)
     all_goals first
      |exact a0n (l:= [0,1]) rfl rfl trivial a0k
      |(exfalso;rename_i h;have h':¬((4000:Int)<((g.getD (k+1) ⟨#[]⟩).size:Int)):=h;omega)
      |(exfalso;omega)
    .have rs:=h0u (r:=g.getD (k+1) ⟨#[]⟩) (by omega)
     have ok:∀i,i<k+1->(g.getD i ⟨#[]⟩).size<=4000:=k0B hf
     have sz:=t0a ok
     have ns:=c0M (n:=(g.getD (k+1) ⟨#[]⟩).size) (by omega)
     have c1:=f0E (g.getD (k+1) ⟨#[]⟩).size 4 (by omega)
     have c2:=m0e (stK g (k+1)) (d0p (g.getD (k+1) ⟨#[]⟩).size 4++g.getD (k+1) ⟨#[]⟩) (by omega) (by omega)
     have fs:e0L g (k+1+1)=false:=by simp only [e0L];rw [show (e0L g k||decide (4000<(g.getD k ⟨#[]⟩).size))=false from hf,Bool.false_or,decide_eq_false_iff_not];exact hbig
     repeat' ((conv=>whnf);first|(refine a0t (c1) rfl rfl rfl rfl ?_)|refine a0e (l:= [0,2,3]) (c2) ?_|(refine a0q (show (d0p (g.getD (k+1) ⟨#[]⟩).size 4).size+(g.getD (k+1) ⟨#[]⟩).size<=9223372036854775807 from by omega) ?_)|((first|apply a0f|apply a0c|apply a0g|apply a0b|apply a0h|apply a0a)<;>intro h<;>try (exfalso;(try dsimp only at h);omega))|refine a0i ?_)
     all_goals (conv=>whnf)
     all_goals first
      |(exfalso;rename_i h;have h':(4000:Int)<((g.getD (k+1) ⟨#[]⟩).size:Int):=h;omega)
      |exact ⟨k+1+1,[0,1,2,4],[],⟨by omega,fs⟩,by omega,⟨rfl,⟨rfl,rfl,rfl,rfl,congrArg (fun z=>some (SV.int .i64 z)) (b0a (by omega)),trivial⟩,⟨gwk rfl,rfl,rfl,rfl,trivial⟩⟩⟩
attribute [local irreducible] rsT
theorem g1W (p:Int) (g:List ByteArray) (n:Nat) (hn:g.length=n) (he:l0i g=0):FC Tryz.prog 2 55 [.int .u64 p,.sl 1 0 0 n] [(0,some (GB glT)),(1,grB n g)] (a0s (.tup [.sl 2 0 0 (b0i (a0C g)),.int .u64 (hK p (a0C g) (b0i (a0C g))),.int .i64 0]) [(2,grW (b0i (a0C g)) (bkL p (a0C g) (b0i (a0C g))))] 3):=by
 have hc:n≠0/\¬256<n/\e0L g g.length=false:=by
  unfold l0i at he
  by_cases h0:g.length=0
  .rw [if_pos h0] at he;omega
  .rw [if_neg h0] at he
   by_cases h1:256<g.length
   .rw [if_pos h1] at he;omega
   .rw [if_neg h1] at he
    refine ⟨by omega,by omega,?_⟩
    cases h:e0L g g.length with
    |false=>rfl
    |true=>rw [if_pos h] at he;omega
 obtain ⟨h0,h1,hlf⟩:=hc
 have hok:=b1e hlf
 have ok:∀i,(g.getD i ⟨#[]⟩).size<=4000:=p0y hok
 refine a0p mixed a0x Tryz.func55 rfl (by kernel_rfl) (by kernel_rfl) (by kernel_rfl) ?_
 repeat' ((conv=>whnf);first|((first|apply a0f|apply a0c|apply a0g|apply a0b|apply a0h|apply a0a)<;>intro h<;>try (exfalso;(try dsimp only at h);omega))|refine a0i ?_)
 all_goals (conv=>whnf)
 refine a0z (i1F p n g) (fun k=>k<=n) (fun k=>n-k) 0 [0,1,2] [] ⟨rfl,⟨rfl,rfl,rfl,rfl,rfl,trivial⟩,⟨gwk rfl,rfl,rfl,trivial⟩⟩ (by omega) ?_
 intro k hk
 by_cases hlt:k<n
 .cases k with
  |zero=>
   have hbig:=ok 0
   have rs:=h0u (r:=g.getD 0 ⟨#[]⟩) (by omega)
   have ns:=c0M (n:=(g.getD 0 ⟨#[]⟩).size) (by omega)
   have c1:=f0E (g.getD 0 ⟨#[]⟩).size 4 (by omega)
   have c2:=h0Y (d0p (g.getD 0 ⟨#[]⟩).size 4++g.getD 0 ⟨#[]⟩) (by omega) (by omega)
   have e1:stK g (0+1)=d0p (g.getD 0 ⟨#[]⟩).size 4++g.getD 0 ⟨#[]⟩:=m0k _
   repeat' ((conv=>whnf);first|(refine a0t (c1) rfl rfl rfl rfl ?_)|refine a0e (l:= [0,2]) (c2) ?_|(refine a0q (show (d0p (g.getD 0 ⟨#[]⟩).size 4).size+(g.getD 0 ⟨#[]⟩).size<=9223372036854775807 from by omega) ?_)|((first|apply a0f|apply a0c|apply a0g|apply a0b|apply a0h|apply a0a)<;>intro h<;>try (exfalso;(try dsimp only at h);omega))|refine a0i ?_)
   all_goals (conv=>whnf)
   all_goals first
    |(exfalso;rename_i h;have h':(4000:Int)<((g.getD 0 ⟨#[]⟩).size:Int):=h;omega)
    |(refine ⟨1,[0,1,2,3],[],by omega,by omega,⟨rfl,⟨rfl,rfl,rfl,rfl,rfl,trivial⟩,⟨gwk rfl,rfl,?_,?_,trivial⟩⟩⟩<;>(rw [e1];rfl))
  |succ k=>
   have hbig:=ok (k+1)
   have rs:=h0u (r:=g.getD (k+1) ⟨#[]⟩) (by omega)
   have ns:=c0M (n:=(g.getD (k+1) ⟨#[]⟩).size) (by omega)
   have sz:=t0a (g:=g) (k:=k+1) (fun i _=>ok i)
   have c1:=f0E (g.getD (k+1) ⟨#[]⟩).size 4 (by omega)
   have c2:=m0e (stK g (k+1)) (d0p (g.getD (k+1) ⟨#[]⟩).size 4++g.getD (k+1) ⟨#[]⟩) (by omega) (by omega)
   repeat' ((conv=>whnf);first|(refine a0t (c1) rfl rfl rfl rfl ?_)|refine a0e (l:= [0,2,3]) (c2) ?_|(refine a0q (show (d0p (g.getD (k+1) ⟨#[]⟩).size 4).size+(g.getD (k+1) ⟨#[]⟩).size<=9223372036854775807 from by omega) ?_)|((first|apply a0f|apply a0c|apply a0g|apply a0b|apply a0h|apply a0a)<;>intro h<;>try (exfalso;(try dsimp only at h);omega))|refine a0i ?_)
   all_goals (conv=>whnf)
   all_goals first
    |(exfalso;rename_i h;have h':(4000:Int)<((g.getD (k+1) ⟨#[]⟩).size:Int):=h;omega)
    |exact ⟨k+1+1,[0,1,2,4],[],by omega,by omega,⟨rfl,⟨rfl,rfl,rfl,rfl,congrArg (fun z=>some (SV.int .i64 z)) (b0a (by omega)),trivial⟩,⟨gwk rfl,rfl,rfl,rfl,trivial⟩⟩⟩
 .obtain ⟨m,rfl⟩:∃m,k=m+1:=⟨k-1,by omega⟩
  have e:m+1=n:=by omega
  have es:stK g (m+1)=a0C g:=by rw [<-d0R g,hn,e]
  have sz:=t0a (g:=g) (k:=m+1) (fun i _=>ok i)
  have s0:0<(a0C g).size:=by rw [<-es];have:=m0l (g:=g) (m+1);rw [d0S hok];omega
  rw [es] at sz
  have c3:=e0n (a0C g) s0
  rw [show i1F p n g (m+1)=⟨[(0,.int .u64 p),(7,.ptr 2 0 0 0),(25,.sl 1 0 0 n),(26,.int .i64 n),(27,.int .i64 (m+1:Nat))],[(0,some (GB glT)),(1,grB n g),(2,i0y 3 (a0C g).size),(3,e0K (a0C g))],4⟩ from by rw [<-es];rfl]
  repeat' ((conv=>whnf);first|refine a0e (l:= [0,2,3]) (c3) ?_|((first|apply a0f|apply a0c|apply a0g|apply a0b|apply a0h|apply a0a)<;>intro h<;>try (exfalso;(try dsimp only at h);omega))|refine a0i ?_)
  all_goals (conv=>whnf)
  all_goals first
   |(exfalso;omega)
   |skip
  have hsz:(a0C g).size<=1100000:=by omega
  refine a0z (fun k:Nat=>⟨[(0,.int .u64 (hK p (a0C g) k)),(12,.sl 2 0 0 k),(13,.str (rsT (a0C g) k))],[(0,some (GB glT)),(1,grB n g),(2,grW k (bkL p (a0C g) k))],3⟩) (fun k=>k<=b0i (a0C g)) (fun k=>b0i (a0C g)-k) 0 [0,1,4] [.slot 12 [.sc (.strs [])]] ⟨rfl,⟨rfl,rfl,?_,trivial⟩,⟨gwk rfl,rfl,rfl,trivial⟩⟩ (Nat.zero_le _) ?_
  .rw [s0Y];rfl
  intro k hk
  have hrz:=f0I (a0C g) k
  by_cases hlt:k<b0i (a0C g)
  .have hpos:0<(rsT (a0C g) k).size:=by unfold b0i at hlt;omega
   by_cases h45:(rsT (a0C g) k).size<=45
   .have emn:min (rsT (a0C g) k).size 45=(rsT (a0C g) k).size:=by omega
    have eb:((⟨#[46]⟩:ByteArray)++d0p (((rsT (a0C g) k).size:Nat)) 2)++(rsT (a0C g) k).extract 0 ((rsT (a0C g) k).size)=c0D (rsT (a0C g) k):=by
     unfold c0D;rw [emn,if_pos h45];rfl
    have n2:(d0p (((rsT (a0C g) k).size:Nat)) 2).size=2:=f0H (n:=(rsT (a0C g) k).size) (by omega)
    have bz:=f0J (r:=rsT (a0C g) k)
    have xz:((rsT (a0C g) k).extract 0 ((rsT (a0C g) k).size)).size=(rsT (a0C g) k).size:=h0s (by omega)
    have e2:chI (hK p (a0C g) k) (((⟨#[46]⟩:ByteArray)++d0p (((rsT (a0C g) k).size:Nat)) 2)++(rsT (a0C g) k).extract 0 ((rsT (a0C g) k).size))=hK p (a0C g) (k+1):=by rw [eb];rfl
    have c1:=f0E (((rsT (a0C g) k).size:Nat)) 2 (by omega)
    have c2:=e0m (hK p (a0C g) k) (((⟨#[46]⟩:ByteArray)++d0p (((rsT (a0C g) k).size:Nat)) 2)++(rsT (a0C g) k).extract 0 ((rsT (a0C g) k).size)) (by rw [eb];omega)
    rw [e2] at c2
    have c4:=e0E (hK p (a0C g) (k+1))
    have m1:(⟨#[46]⟩:ByteArray).size=1:=rfl
    have k1:(⟨#[46]⟩:ByteArray).size+(d0p (((rsT (a0C g) k).size:Nat)) 2).size<=9223372036854775807:=by omega
    have k2:((⟨#[46]⟩:ByteArray)++d0p (((rsT (a0C g) k).size:Nat)) 2).size+((rsT (a0C g) k).extract 0 ((rsT (a0C g) k).size)).size<=9223372036854775807:=by rw [b0h];omega
    have k3:(hxS (hK p (a0C g) (k+1))).size+(((⟨#[46]⟩:ByteArray)++d0p (((rsT (a0C g) k).size:Nat)) 2)++(rsT (a0C g) k).extract 0 ((rsT (a0C g) k).size)).size<=9223372036854775807:=by rw [eb,i0T];omega
    repeat' ((conv=>whnf);first|(refine a0t (c1) rfl rfl rfl rfl ?_)|(refine a0w (c1) rfl rfl rfl rfl ?_)|(refine a0j (c2) rfl rfl rfl ?_)|(refine a0m (c2) rfl rfl rfl ?_)|(refine a0j (c4) rfl rfl rfl ?_)|(refine a0m (c4) rfl rfl rfl ?_)|refine a0q k1 ?_|refine a0q k2 ?_|refine a0q k3 ?_|((first|apply a0f|apply a0c|apply a0g|apply a0b|apply a0h|apply a0a)<;>intro h<;>try (exfalso;(try dsimp only at h);omega))|refine a0i ?_)
    all_goals (conv=>whnf)
    all_goals first
     |(exfalso;rename_i h;rw [h] at hpos;exact absurd hpos (by decide))
     |skip
    have er:some (SV.str ((rsT (a0C g) k).extract (rsT (a0C g) k).size (rsT (a0C g) k).size))=some (SV.str (rsT (a0C g) (k+1))):=by
     have:=n0E (a0C g) k;rw [emn] at this;rw [this]
    refine ⟨k+1,[0,1,4],[],by omega,by omega,⟨rfl,⟨rfl,rfl,er,trivial⟩,⟨gwk rfl,rfl,?_,trivial⟩⟩⟩
    rw [s0X]
    unfold bK
    rw [<-eb]
    rfl
   .have emn:min (rsT (a0C g) k).size 45=45:=by omega
    have eb:((⟨#[43]⟩:ByteArray)++d0p (45) 2)++(rsT (a0C g) k).extract 0 (45)=c0D (rsT (a0C g) k):=by
     unfold c0D;rw [emn,if_neg h45];rfl
    have n2:(d0p (45) 2).size=2:=f0H (n:=45) (by omega)
    have bz:=f0J (r:=rsT (a0C g) k)
    have xz:((rsT (a0C g) k).extract 0 (45)).size=45:=h0s (by omega)
    have e2:chI (hK p (a0C g) k) (((⟨#[43]⟩:ByteArray)++d0p (45) 2)++(rsT (a0C g) k).extract 0 (45))=hK p (a0C g) (k+1):=by rw [eb];rfl
    have c1:=f0E (45) 2 (by omega)
    have c2:=e0m (hK p (a0C g) k) (((⟨#[43]⟩:ByteArray)++d0p (45) 2)++(rsT (a0C g) k).extract 0 (45)) (by rw [eb];omega)
    rw [e2] at c2
    have c4:=e0E (hK p (a0C g) (k+1))
    have m1:(⟨#[43]⟩:ByteArray).size=1:=rfl
    have k1:(⟨#[43]⟩:ByteArray).size+(d0p (45) 2).size<=9223372036854775807:=by omega
    have k2:((⟨#[43]⟩:ByteArray)++d0p (45) 2).size+((rsT (a0C g) k).extract 0 (45)).size<=9223372036854775807:=by rw [b0h];omega
    have k3:(hxS (hK p (a0C g) (k+1))).size+(((⟨#[43]⟩:ByteArray)++d0p (45) 2)++(rsT (a0C g) k).extract 0 (45)).size<=9223372036854775807:=by rw [eb,i0T];omega
    repeat' ((conv=>whnf);first|(refine a0t (c1) rfl rfl rfl rfl ?_)|(refine a0w (c1) rfl rfl rfl rfl ?_)|(refine a0j (c2) rfl rfl rfl ?_)|(refine a0m (c2) rfl rfl rfl ?_)|(refine a0j (c4) rfl rfl rfl ?_)|(refine a0m (c4) rfl rfl rfl ?_)|refine a0q k1 ?_|refine a0q k2 ?_|refine a0q k3 ?_|((first|apply a0f|apply a0c|apply a0g|apply a0b|apply a0h|apply a0a)<;>intro h<;>try (exfalso;(try dsimp only at h);omega))|refine a0i ?_)
    all_goals (conv=>whnf)
    all_goals first
     |(exfalso;rename_i h;rw [h] at hpos;exact absurd hpos (by decide))
     |skip
    have er:some (SV.str ((rsT (a0C g) k).extract 45 (rsT (a0C g) k).size))=some (SV.str (rsT (a0C g) (k+1))):=by
     have:=n0E (a0C g) k;rw [emn] at this;rw [this]
    refine ⟨k+1,[0,1,4],[],by omega,by omega,⟨rfl,⟨rfl,rfl,er,trivial⟩,⟨gwk rfl,rfl,?_,trivial⟩⟩⟩
    rw [s0X]
    unfold bK
    rw [<-eb]
    rfl
  .have ek:k=b0i (a0C g):=by omega
   have hz:(rsT (a0C g) k).size=0:=by rw [hrz];unfold b0i at ek;omega
   have he0:rsT (a0C g) k=⟨#[]⟩:=by
    apply h0r
    have:(rsT (a0C g) k).data.toList.length=0:=by simpa using hz
    rw [List.eq_nil_of_length_eq_zero this]
   rw [he0]
   subst ek
   repeat' ((conv=>whnf);first|((first|apply a0f|apply a0c|apply a0g|apply a0b|apply a0h|apply a0a)<;>intro h<;>try (exfalso;(try dsimp only at h);omega))|refine a0i ?_)
   all_goals (conv=>whnf)
   all_goals exact a0n (l:= [0,1,2]) rfl rfl ⟨rfl,trivial⟩ (a0d a0k)
end
section
attribute [local irreducible] a0B a0D a0u a0Y
def unP (b:ByteArray):ByteArray:=b.extract 19 b.size
def unR (b:ByteArray):ByteArray:=b.extract 16 b.size
def unM (b:ByteArray):ByteArray:=(unR b).extract 0 1
def unD (b:ByteArray):ByteArray:=(unR b).extract 1 (unR b).size
def t0b (p:Int) (b:ByteArray):Prop:=19<b.size/\b.extract 0 16=hxS (chI p (unR b))/\nuE (unD b) 2=0/\nuV (unD b) 2=((unP b).size:Int)/\(unP b).size<=45/\(unM b=c1n\/(unM b=r0i/\(unP b).size=45))
attribute [local irreducible] seq ByteArray.extract
instance (p:Int) (b:ByteArray):Decidable (t0b p b):=by unfold t0b;infer_instance
def k0C (b:ByteArray):Bool:=seq (unM b) c1n
theorem t0c {b:ByteArray} (h:19<b.size):(unR b).size=b.size-16:=by unfold unR;rw [ByteArray.size_extract];omega
theorem n0F {b:ByteArray} (h:19<b.size):(unP b).size=b.size-19:=by unfold unP;rw [ByteArray.size_extract];omega
theorem g1X {a b:ByteArray} (h:a≠b):seq a b=false:=by
 cases e:seq a b with
 |false=>rfl
 |true=>exact absurd (g1U e) h
theorem b1f (a:ByteArray):seq a a=true:=by simp [seq]
def unV (p:Int) (b:ByteArray):SV:= .tup [.str (unP b),.bool (k0C b),.int .u64 (chI p (unR b)),.bool true]
def unN:SV:= .tup [.str ⟨#[]⟩,.bool false,.int .u64 0,.bool false]
theorem u0G (p:Int) (b:ByteArray) (hs:b.size<=9223372036854775000) (h:t0b p b):c0a Tryz.prog 98 [.int .u64 p,.str b] (unV p b):=by
 obtain ⟨h1,h2,h3,h4,h5,h6⟩:=h
 have zr:=t0c h1
 have zp:=n0F h1
 have c1:=e0m p (unR b) (by omega)
 have c2:=e0E (chI p (unR b))
 have c3:=x0Y (unR b)
 have c4:=r0h (unR b) 0 1 (by omega)
 have t0:tkE (unR b) 1=0:=by rcases f0G (unR b) 1 with ⟨_,h⟩|⟨_,⟨_,h⟩|⟨h,_⟩⟩<;>omega
 have t1:tV 0 (tkS (unR b) 1)=unM b:=by rw [s0U t0];rfl
 have t2:tS (unR b) 0 (tkE (unR b) 1) 1=unD b:=by unfold tS;rw [if_pos rfl,t0];rfl
 have t3:tE 0 (tkE (unR b) 1)=0:=by rw [t0];rfl
 rw [t1,t2,t3] at c4
 have c5:=x0X (unD b) 0 2 (by unfold unD;rw [ByteArray.size_extract];omega)
 have n1:nV (unD b) 0 2=((unP b).size:Int):=by unfold nV;rw [if_pos rfl,h4]
 have n2:nE (unD b) 0 2=0:=by unfold nE;rw [if_pos rfl,h3]
 rw [n1,n2] at c5
 have c6:=m0j (nS (unD b) 0 2) 0
 rw [<-h2] at c2
 obtain ⟨V,hV⟩:∃V,((unP b).size:Int)=V:=⟨_,rfl⟩
 have hp5:¬((45:Int)<V):=by omega
 rw [hV] at c5
 unfold unV k0C
 have hD:unM b≠c1n->unM b=r0i/\V=45:=fun hn=>by
  rcases h6 with h6|⟨h6,h7⟩
  .exact absurd h6 hn
  .exact ⟨h6,by omega⟩
 refine a0p mixed a0x Tryz.func98 rfl (by kernel_rfl) (by kernel_rfl) (by kernel_rfl) ?_
 repeat' ((conv=>whnf);first|(refine a0j (c1) rfl rfl rfl ?_)|(refine a0m (c1) rfl rfl rfl ?_)|(refine a0j (c2) rfl rfl rfl ?_)|(refine a0m (c2) rfl rfl rfl ?_)|refine a0e (l:= [0]) (c3) ?_|refine a0l (l:= [0]) (c3) ?_|refine a0e (l:= [0,1]) (c4) ?_|refine a0e (l:= [0,1]) (c5) ?_|refine a0e (l:= [0,1]) (c6) ?_|((first|apply a0g|apply a0b)<;>intro h<;>(try first|(exfalso;exact h rfl)|(exfalso;exact absurd h (by decide))))|((first|apply a0f|apply a0c|apply a0g|apply a0b|apply a0h|apply a0a)<;>intro h<;>try (exfalso;(try dsimp only at h);omega))|refine a0i ?_)
 all_goals (conv=>whnf)
 all_goals first
  |exact a0o rfl
  |(exfalso;rename_i h;exact h rfl)
  |(exfalso;rename_i h;exact hp5 h)
  |(exfalso;rename_i h;exact h hV.symm)
  |(exfalso;rename_i h1;exact h (hD h1).1)
  |(exfalso;rename_i h1 _;exact h (hD h1).2)
theorem n0G (p:Int) (b:ByteArray) (hs:b.size<=9223372036854775000) (h:¬t0b p b):c0a Tryz.prog 98 [.int .u64 p,.str b] unN:=by
 unfold unN
 by_cases h1:19<b.size
 .have zr:=t0c h1
  have zp:=n0F h1
  have c1:=e0m p (unR b) (by omega)
  have c2:=e0E (chI p (unR b))
  by_cases h2:b.extract 0 16=hxS (chI p (unR b))
  .rw [<-h2] at c2
   have c3:=x0Y (unR b)
   have c4:=r0h (unR b) 0 1 (by omega)
   have t0:tkE (unR b) 1=0:=by rcases f0G (unR b) 1 with ⟨_,h⟩|⟨_,⟨_,h⟩|⟨h,_⟩⟩<;>omega
   have t1:tV 0 (tkS (unR b) 1)=unM b:=by rw [s0U t0];rfl
   have t2:tS (unR b) 0 (tkE (unR b) 1) 1=unD b:=by unfold tS;rw [if_pos rfl,t0];rfl
   have t3:tE 0 (tkE (unR b) 1)=0:=by rw [t0];rfl
   rw [t1,t2,t3] at c4
   have c5:=x0X (unD b) 0 2 (by unfold unD;rw [ByteArray.size_extract];omega)
   have c6:=m0j (nS (unD b) 0 2) (nE (unD b) 0 2)
   by_cases h3:nE (unD b) 0 2=0/\nV (unD b) 0 2=((unP b).size:Int)/\(unP b).size<=45
   .obtain ⟨h3,h4,h5⟩:=h3
    have h6:¬(unM b=c1n\/(unM b=r0i/\(unP b).size=45)):=fun h6=>h ⟨h1,h2,by have:=h3;unfold nE at this;rwa [if_pos rfl] at this,by have:=h4;unfold nV at this;rwa [if_pos rfl] at this,h5,h6⟩
    rw [h4,h3] at c5
    rw [h3] at c6
    obtain ⟨V,hV⟩:∃V,((unP b).size:Int)=V:=⟨_,rfl⟩
    have hp5:¬((45:Int)<V):=by omega
    rw [hV] at c5
    refine a0p mixed a0x Tryz.func98 rfl (by kernel_rfl) (by kernel_rfl) (by kernel_rfl) ?_
    repeat' ((conv=>whnf);first|(refine a0j (c1) rfl rfl rfl ?_)|(refine a0m (c1) rfl rfl rfl ?_)|(refine a0j (c2) rfl rfl rfl ?_)|(refine a0m (c2) rfl rfl rfl ?_)|refine a0e (l:= [0]) (c3) ?_|refine a0l (l:= [0]) (c3) ?_|refine a0e (l:= [0,1]) (c4) ?_|refine a0e (l:= [0,1]) (c5) ?_|refine a0e (l:= [0,1]) (c6) ?_|((first|apply a0g|apply a0b)<;>intro h<;>(try first|(exfalso;exact h rfl)|(exfalso;exact absurd h (by decide))))|((first|apply a0f|apply a0c|apply a0g|apply a0b|apply a0h|apply a0a)<;>intro h<;>try (exfalso;(try dsimp only at h);omega))|refine a0i ?_)
    all_goals (conv=>whnf)
    all_goals first
     |exact a0o rfl
     |(exfalso;rename_i h;exact h rfl)
     |(exfalso;rename_i h;exact hp5 h)
     |(exfalso;rename_i h;exact h6 (.inl h))
     |(exfalso;rename_i h;exact h hV.symm)
     |(exfalso;rename_i hp hn;exact h6 (.inr ⟨hp,by omega⟩))
     |(exfalso;rename_i hp hn _;exact h6 (.inr ⟨hp,by omega⟩))
     |(exfalso;rename_i hn hp;exact h6 (.inr ⟨hp,by omega⟩))
   .obtain ⟨E,hE⟩:∃E,nE (unD b) 0 2=E:=⟨_,rfl⟩
    obtain ⟨V,hV⟩:∃V,nV (unD b) 0 2=V:=⟨_,rfl⟩
    rw [hE,hV] at c5 h3
    rw [hE] at c6
    have h3':E=0->V=((b.extract 19 b.size).size:Int)->V<=45->False:=fun e1 e2 e3=>h3 ⟨e1,e2,by have:V=((unP b).size:Int):=e2;omega⟩
    refine a0p mixed a0x Tryz.func98 rfl (by kernel_rfl) (by kernel_rfl) (by kernel_rfl) ?_
    repeat' ((conv=>whnf);first|(refine a0j (c1) rfl rfl rfl ?_)|(refine a0m (c1) rfl rfl rfl ?_)|(refine a0j (c2) rfl rfl rfl ?_)|(refine a0m (c2) rfl rfl rfl ?_)|refine a0e (l:= [0]) (c3) ?_|refine a0l (l:= [0]) (c3) ?_|refine a0e (l:= [0,1]) (c4) ?_|refine a0e (l:= [0,1]) (c5) ?_|refine a0e (l:= [0,1]) (c6) ?_|((first|apply a0g|apply a0b)<;>intro h<;>(try first|(exfalso;exact h rfl)|(exfalso;exact absurd h (by decide))))|((first|apply a0f|apply a0c|apply a0g|apply a0b|apply a0h|apply a0a)<;>intro h<;>try (exfalso;(try dsimp only at h);omega))|refine a0i ?_)
    all_goals (conv=>whnf)
    all_goals first
     |exact a0o rfl
     |(exfalso;rename_i h;exact h rfl)
     |(exfalso;omega)
     |(exfalso;rename_i a1 a2 a3 a4 a5;exact h3' a1 a2 (by omega))
     |(exfalso;rename_i a1 a2 a3;exact h3' a1 a2 (by omega))
  .refine a0p mixed a0x Tryz.func98 rfl (by kernel_rfl) (by kernel_rfl) (by kernel_rfl) ?_
   repeat' ((conv=>whnf);first|(refine a0j (c1) rfl rfl rfl ?_)|(refine a0m (c1) rfl rfl rfl ?_)|(refine a0j (c2) rfl rfl rfl ?_)|(refine a0m (c2) rfl rfl rfl ?_)|((first|apply a0g|apply a0b)<;>intro h<;>(try first|(exfalso;exact h rfl)|(exfalso;exact absurd h (by decide))))|((first|apply a0f|apply a0c|apply a0g|apply a0b|apply a0h|apply a0a)<;>intro h<;>try (exfalso;(try dsimp only at h);omega))|refine a0i ?_)
   all_goals (conv=>whnf)
   all_goals first
    |exact a0o rfl
    |(exfalso;rename_i h;exact h2 h)
 .refine a0p mixed a0x Tryz.func98 rfl (by kernel_rfl) (by kernel_rfl) (by kernel_rfl) ?_
  repeat' ((conv=>whnf);first|((first|apply a0f|apply a0c|apply a0g|apply a0b|apply a0h|apply a0a)<;>intro h<;>try (exfalso;(try dsimp only at h);omega))|refine a0i ?_)
  all_goals (conv=>whnf)
  all_goals first
   |exact a0o rfl
   |(exfalso;omega)
end
section
attribute [local irreducible] a0B a0D a0u a0Y
attribute [local irreducible] seq ByteArray.extract
def ucN (s:ByteArray):ByteArray:=s.extract 4 s.size
def ucA (s:ByteArray):Prop:=nuE s 4=0/\nuV s 4<=4000
def ucB (s:ByteArray) (k:Nat):Prop:=nuV s 4<=((ucN s).size:Int)/\k<256
instance (s:ByteArray):Decidable (ucA s):=by unfold ucA;infer_instance
instance (s:ByteArray) (k:Nat):Decidable (ucB s k):=by unfold ucB;infer_instance
def u0H (s:ByteArray):ByteArray:=(ucN s).extract 0 (nuV s 4).toNat
def ucT (s:ByteArray):ByteArray:=(ucN s).extract (nuV s 4).toNat (ucN s).size
def ucR:Nat->ByteArray->List ByteArray->Option (List ByteArray)
 |0,_,_=>none
 |f+1,s,acc=>if s.size=0 then (if acc.length=0 then none else some acc) else if ucA s then (if ucB s acc.length then ucR f (ucT s) (acc++ [u0H s]) else none) else none
def ucG (s:ByteArray):Option (List ByteArray):=ucR (s.size+1) s []
theorem g1Y {s:ByteArray} (h:nuE s 4=0):nuC s 4=4/\4<=s.size/\0<=nuV s 4:=by
 rcases i0S s 4 with ⟨_,h2,h3,_,_,h4,h5⟩|⟨h1,_⟩
 .exact ⟨h3,by omega,by rw [h2];exact (n0B _ h5).1⟩
 .exact absurd h h1
theorem t0d (s:ByteArray):(ucN s).size=s.size-4:=by unfold ucN;rw [ByteArray.size_extract];omega
theorem b1g {s:ByteArray}:(ucT s).size=(s.size-4)-(nuV s 4).toNat:=by unfold ucT;rw [ByteArray.size_extract,t0d];omega
def ucS (s:ByteArray) (acc:List ByteArray):VS:=⟨[(4,.sl 2 0 0 acc.length),(5,.ptr 1 0 0 0)],[(1,rdB s 0),(2,grW acc.length acc)],3⟩
def ucI (R:Option (List ByteArray)) (x:Nat×ByteArray×List ByteArray):Prop:=x.2.1.size<x.1/\ucR x.1 x.2.1 x.2.2=R/\x.2.2.length<=256/\x.2.1.size<=1000000000/\(0<x.2.1.size\/0<x.2.2.length)
theorem r0k {f:Nat} {s:ByteArray} {acc:List ByteArray} (h0:s.size≠0) (ha:ucA s) (hb:ucB s acc.length):ucR (f+1) s acc=ucR f (ucT s) (acc++ [u0H s]):=by
 simp only [ucR];rw [if_neg h0,if_pos ha,if_pos hb]
theorem c1q {f:Nat} {s:ByteArray} {acc:List ByteArray} (h0:s.size≠0) (ha:¬ucA s):ucR (f+1) s acc=none:=by
 simp only [ucR];rw [if_neg h0,if_neg ha]
theorem c1r {f:Nat} {s:ByteArray} {acc:List ByteArray} (h0:s.size≠0) (hb:¬ucB s acc.length):ucR (f+1) s acc=none:=by
 unfold ucR;rw [if_neg h0]
 by_cases ha:ucA s
 .rw [if_pos ha,if_neg hb]
 .rw [if_neg ha]
theorem y0a {f:Nat} {s:ByteArray} {acc:List ByteArray} (h0:s.size=0) (hl:0<acc.length):ucR (f+1) s acc=some acc:=by
 simp only [ucR];rw [if_pos h0,if_neg (by omega)]
def y0b (R:Option (List ByteArray)):SV->a0v->Nat->Prop:=match R with
 |none=>a0s (.tup [.nsl,.bool false]) [] 1
 |some g=>a0s (.tup [.sl 1 0 0 g.length,.bool true]) [(1,grW g.length g)] 2
theorem t0e (s:ByteArray) (h0:0<s.size) (hs:s.size<=1000000000):FC Tryz.prog 1 99 [.str s] [] (y0b (ucG s)):=by
 have c0:=x0Y s
 obtain ⟨R,hR⟩:∃R,ucG s=R:=⟨_,rfl⟩
 rw [hR]
 refine a0p mixed a0x Tryz.func99 rfl (by kernel_rfl) (by kernel_rfl) (by kernel_rfl) ?_
 repeat' ((conv=>whnf);first|refine a0e (l:= [0]) (c0) ?_|((first|apply a0f|apply a0c|apply a0g|apply a0b|apply a0h|apply a0a)<;>intro h<;>try (exfalso;(try dsimp only at h);omega))|refine a0i ?_)
 all_goals (conv=>whnf)
 refine a0z (fun x:Nat×ByteArray×List ByteArray=>ucS x.2.1 x.2.2) (ucI R) (fun x=>x.2.1.size) (s.size+1,s,[]) [0,1,2] [.slot 4 [.sc (.strs [])]] ⟨rfl,⟨rfl,rfl,trivial⟩,⟨rfl,rfl,trivial⟩⟩ ⟨Nat.lt_succ_self _,hR,Nat.zero_le _,hs,.inl h0⟩ ?_
 rintro ⟨f,t,acc⟩ ⟨hf,hr,hl,hz,hp⟩
 dsimp only at hf hr hl hz hp⊢
 obtain ⟨f,rfl⟩:∃f',f=f'+1:=⟨f-1,by omega⟩
 have c1:=e1q t 0
 by_cases hz0:t.size=0
 .rw [y0a hz0 (by omega)] at hr
  subst hr
  rw [hz0] at c1
  repeat' ((conv=>whnf);first|refine a0e (l:= [0,1]) (c1) ?_|((first|apply a0f|apply a0c|apply a0g|apply a0b|apply a0h|apply a0a)<;>intro h<;>try (exfalso;(try dsimp only at h);omega))|refine a0i ?_)
  all_goals (conv=>whnf)
  all_goals first
   |exact a0n (l:= [0,2]) rfl (congrArg (fun b=>SV.tup [.sl 2 0 0 acc.length,.bool b]) (decide_eq_true (by omega))) ⟨rfl,trivial⟩ (a0d a0k)
   |(exfalso;omega)
 .have c2:=x0X t 0 4 (by omega)
  by_cases ha:ucA t
  .obtain ⟨n1,n2,n3⟩:=g1Y ha.1
   have hv4:=ha.2
   have e1:nV t 0 4=nuV t 4:=by unfold nV;rw [if_pos rfl]
   have e2:nE t 0 4=0:=by unfold nE;rw [if_pos rfl,ha.1]
   have e3:nS t 0 4=ucN t:=by unfold nS;rw [if_pos rfl,n1];rfl
   rw [e1,e2,e3] at c2
   have c3:=m0j (ucN t) 0
   have zn:=t0d t
   have c4:=r0h (ucN t) 0 (nuV t 4) (by omega)
   by_cases hb:ucB t acc.length
   .have hb1:=hb.1
    have hb2:=hb.2
    have zt:=b1g (s:=t)
    have t0:tkE (ucN t) (nuV t 4)=0:=by rcases f0G (ucN t) (nuV t 4) with ⟨_,h⟩|⟨_,⟨_,h⟩|⟨h,_⟩⟩<;>omega
    have t1:tV 0 (tkS (ucN t) (nuV t 4))=u0H t:=by rw [s0U t0];rfl
    have t2:tS (ucN t) 0 (tkE (ucN t) (nuV t 4)) (nuV t 4)=ucT t:=by unfold tS;rw [if_pos rfl,t0];rfl
    have t3:tE 0 (tkE (ucN t) (nuV t 4))=0:=by rw [t0];rfl
    rw [t1,t2,t3] at c4
    have c5:=m0j (ucT t) 0
    rw [r0k hz0 ha hb] at hr
    obtain ⟨V,hV⟩:∃V,nuV t 4=V:=⟨_,rfl⟩
    rw [hV] at c2 c4 hv4
    repeat' ((conv=>whnf);first|refine a0e (l:= [0,1]) (c1) ?_|refine a0e (l:= [0,1]) (c2) ?_|refine a0e (l:= [0,1]) (c3) ?_|refine a0e (l:= [0,1]) (c4) ?_|refine a0e (l:= [0,1]) (c5) ?_|((first|apply a0f|apply a0c|apply a0g|apply a0b|apply a0h|apply a0a)<;>intro h<;>try (exfalso;(try dsimp only at h);omega))|refine a0i ?_)
    all_goals (conv=>whnf)
    all_goals first
     |(exfalso;omega)
     |(exfalso;exact h rfl)
     |skip
    refine ⟨(f,ucT t,acc++ [u0H t]),[0,1,4],[],⟨by dsimp only;omega,hr,by rw [List.length_append];show acc.length+1<=256;omega,by dsimp only;omega,.inr (by rw [List.length_append];show 0<acc.length+1;omega)⟩,by dsimp only;omega,⟨rfl,⟨?_,rfl,trivial⟩,⟨rfl,?_,trivial⟩⟩⟩
    .dsimp only;rw [List.length_append];rfl
    .dsimp only;rw [List.length_append];rfl
   .rw [c1r hz0 hb] at hr
    subst hr
    obtain ⟨E,hE⟩:∃E,tkE (ucN t) (nuV t 4)=E:=⟨_,rfl⟩
    have hE0:E=0->256<=acc.length:=fun e=>by
     by_cases h:256<=acc.length
     .exact h
     .exfalso
      refine hb ⟨?_,by omega⟩
      rcases f0G (ucN t) (nuV t 4) with ⟨_,h⟩|⟨_,⟨_,h⟩|⟨h,_⟩⟩<;>omega
    have t3:tE 0 E=E:=rfl
    obtain ⟨S2,hS2⟩:∃S2,tS (ucN t) 0 (tkE (ucN t) (nuV t 4)) (nuV t 4)=S2:=⟨_,rfl⟩
    rw [hS2,hE,t3] at c4
    have c5:=m0j S2 E
    obtain ⟨V,hV⟩:∃V,nuV t 4=V:=⟨_,rfl⟩
    rw [hV] at c2 c4 hv4
    repeat' ((conv=>whnf);first|refine a0e (l:= [0,1]) (c1) ?_|refine a0e (l:= [0,1]) (c2) ?_|refine a0e (l:= [0,1]) (c3) ?_|refine a0e (l:= [0,1]) (c4) ?_|refine a0e (l:= [0,1]) (c5) ?_|((first|apply a0f|apply a0c|apply a0g|apply a0b|apply a0h|apply a0a)<;>intro h<;>try (exfalso;(try dsimp only at h);omega))|refine a0i ?_)
    all_goals (conv=>whnf)
    all_goals first
     |exact a0n (l:= [0]) rfl rfl trivial a0k
     |(exfalso;omega)
     |(exfalso;exact h rfl)
  .rw [c1q hz0 ha] at hr
   subst hr
   have e1:nV t 0 4=nuV t 4:=by unfold nV;rw [if_pos rfl]
   have e2:nE t 0 4=nuE t 4:=by unfold nE;rw [if_pos rfl]
   obtain ⟨V,hV⟩:∃V,nuV t 4=V:=⟨_,rfl⟩
   obtain ⟨E,hE⟩:∃E,nuE t 4=E:=⟨_,rfl⟩
   unfold ucA at ha
   rw [hV,hE] at ha
   rw [e1,e2,hV,hE] at c2
   have c3:=m0j (nS t 0 4) E
   repeat' ((conv=>whnf);first|refine a0e (l:= [0,1]) (c1) ?_|refine a0e (l:= [0,1]) (c2) ?_|refine a0e (l:= [0,1]) (c3) ?_|((first|apply a0f|apply a0c|apply a0g|apply a0b|apply a0h|apply a0a)<;>intro h<;>try (exfalso;(try dsimp only at h);omega))|refine a0i ?_)
   all_goals (conv=>whnf)
   all_goals first
    |exact a0n (l:= [0]) rfl rfl trivial a0k
    |(exfalso;omega)
end
section
attribute [local irreducible] a0B a0D a0u a0Y
def n0H (p:Nat->Bool) (n k:Nat):List Bool:=(List.range n).map (fun i=>decide (i<k)&&p i)
theorem b1h (p:Nat->Bool) (n k:Nat) (h:k<n):(n0H p n k).set k (p k)=n0H p n (k+1):=by
 apply List.ext_getElem?
 intro i
 simp only [n0H,List.getElem?_set,List.getElem?_map,List.length_map,List.length_range]
 by_cases e:k=i
 .subst e;simp [h]
 .rw [if_neg e]
  rcases Nat.lt_or_ge i n with h1|h1
  .rw [List.getElem?_range h1]
   simp only [Option.map_some,Option.some.injEq]
   by_cases h2:i<k
   .simp [h2,show i<k+1 by omega]
   .simp [h2,show¬i<k+1 by omega]
  .rw [List.getElem?_eq_none (by simpa using h1)];rfl
def b1i (b:Int) (i:Nat):Bool:=decide (y0P .u8 (i0X .u8 b (i:Int)) 1=1)
attribute [irreducible] b1i
theorem e1u (b:Int) (i:Nat):b1i b i=decide (y0P .u8 (i0X .u8 b (i:Int)) 1=1):=by unfold b1i;rfl
theorem k0D (b:Int):c0a Tryz.prog 86 [.int .u8 b] (.arr 8 [.bools (n0H (b1i b) 8 8)]):=by
 refine a0p mixed a0x Tryz.func86 rfl (by kernel_rfl) (by kernel_rfl) (by kernel_rfl) ?_
 (conv=>whnf)
 refine a0z (fun k:Nat=>⟨[(0,.int .u8 b),(2,.ptr 1 0 0 0),(3,.ptr 2 0 0 0),(5,.int .i64 k)],[(1,some (.one false (.cols 8 [.sc (.bools (List.replicate 8 false))]))),(2,some (.one false (.cols 8 [.sc (.bools (n0H (b1i b) 8 k))])))],3⟩) (fun k=>k<=8) (fun k=>8-k) 0 [0,1,2] [] ⟨rfl,⟨rfl,rfl,rfl,rfl,trivial⟩,⟨rfl,rfl,trivial⟩⟩ (by omega) ?_
 intro k hk
 repeat' ((conv=>whnf);first|((first|apply a0f|apply a0c|apply a0g|apply a0b|apply a0h|apply a0a)<;>intro h<;>try (exfalso;(try dsimp only at h);omega))|refine a0i ?_)
 all_goals (conv=>whnf)
 .skip
  refine ⟨k+1,[0,1,2],[],by omega,by omega,⟨rfl,⟨rfl,rfl,rfl,?_,trivial⟩,⟨rfl,?_,trivial⟩⟩⟩
  .exact congrArg (fun z=>some (SV.int .i64 z)) (b0a (by omega))
  .have e:=b1h (b1i b) 8 k (by omega)
   rw [e1u] at e
   exact congrArg (fun z=>some (HB.one false (.cols 8 [.sc (.bools z)]))) e
 .have e:k=8:=by omega
  subst e
  exact a0o rfl
def b1j (m:Int) (k:Nat):Bool:=b1i (IntKind.u8.wrap (i0X .u64 m ((8*(k/8):Nat):Int))) (k%8)
theorem f0K (p:Nat->Bool) (n k i:Nat) (h:i<n):(n0H p n k)[i]?=some (decide (i<k)&&p i):=by
 simp only [n0H,List.getElem?_map,List.getElem?_range h,Option.map_some]
theorem i0U (p:Nat->Bool) (n k:Nat):(n0H p n k).length=n:=by simp [n0H]
theorem y0c (m:Int) (j:Nat) (h:j<8) (x:Nat) (hx:x=8):e0H (8*j) x (n0H (b1j m) 64 (8*j)) (seg 0 8 (n0H (b1i (IntKind.u8.wrap (i0X .u64 m ((8*j:Nat):Int)))) 8 8))=n0H (b1j m) 64 (8*(j+1)):=by
 subst hx
 apply List.ext_getElem?
 intro i
 have e1:(List.take (8*j) (n0H (b1j m) 64 (8*j))).length=8*j:=by simp [i0U];omega
 have e2:(List.take 8 (seg 0 8 (n0H (b1i (IntKind.u8.wrap (i0X .u64 m ((8*j:Nat):Int)))) 8 8))).length=8:=by simp [seg,i0U]
 simp only [e0H]
 rcases Nat.lt_or_ge i (8*j) with h1|h1
 .rw [List.append_assoc,List.getElem?_append_left (by omega),List.getElem?_take,if_pos h1,f0K _ _ _ _ (by omega),f0K _ _ _ _ (by omega)]
  simp [h1,show i<8*(j+1) by omega]
 .rcases Nat.lt_or_ge i (8*j+8) with h2|h2
  .rw [List.append_assoc,List.getElem?_append_right (by omega),e1,List.getElem?_append_left (by omega),List.getElem?_take,if_pos (by omega)]
   simp only [seg,List.drop_zero]
   rw [List.getElem?_take,if_pos (by omega),f0K _ _ _ _ (by omega),f0K _ _ _ _ (by omega)]
   have h3:i/8=j:=by omega
   have h4:i%8=i-8*j:=by omega
   simp only [b1j,h3,h4,show i-8*j<8 by omega,show i<8*(j+1) by omega]
  .rw [List.getElem?_append_right (by rw [List.length_append];omega),List.length_append,e1,e2,List.getElem?_drop]
   rw [show 8*j+8+(i-(8*j+8))=i from by omega]
   rcases Nat.lt_or_ge i 64 with h5|h5
   .rw [f0K _ _ _ _ h5,f0K _ _ _ _ h5]
    simp [show¬i<8*j by omega,show¬i<8*(j+1) by omega]
   .rw [List.getElem?_eq_none (by rw [i0U];exact h5),List.getElem?_eq_none (by rw [i0U];exact h5)]
theorem r0l (m:Int):c0a Tryz.prog 60 [.int .u64 m] (.arr 64 [.bools (n0H (b1j m) 64 64)]):=by
 refine a0p mixed a0x Tryz.func60 rfl (by kernel_rfl) (by kernel_rfl) (by kernel_rfl) ?_
 (conv=>whnf)
 refine a0z (fun j:Nat=>⟨[(0,.int .u64 m),(2,.ptr 1 0 0 0),(3,.ptr 2 0 0 0),(4,.int .i64 (8*j:Nat))],[(1,some (.one false (.cols 64 [.sc (.bools (List.replicate 64 false))]))),(2,some (.one false (.cols 64 [.sc (.bools (n0H (b1j m) 64 (8*j)))])))],3⟩) (fun j=>j<=8) (fun j=>8-j) 0 [0,1,2] [] ⟨rfl,⟨rfl,rfl,rfl,rfl,trivial⟩,⟨rfl,rfl,trivial⟩⟩ (by omega) ?_
 intro j hj
 repeat' ((conv=>whnf);first|(refine a0j (k0D _) rfl rfl rfl ?_)|((first|apply a0f|apply a0c|apply a0g|apply a0b|apply a0h|apply a0a)<;>intro h<;>try (exfalso;(try dsimp only at h);omega))|refine a0i ?_)
 all_goals (conv=>whnf)
 .refine ⟨j+1,[0,1,2],[],by omega,by omega,⟨rfl,⟨rfl,rfl,rfl,?_,trivial⟩,⟨rfl,?_,trivial⟩⟩⟩
  .refine congrArg (fun z=>some (SV.int .i64 z)) ?_
   rw [a0G (by omega) (by omega)];omega
  .refine congrArg (fun z=>some (HB.one false (.cols 64 [.sc (.bools z)]))) ?_
   refine y0c m j (by omega) _ ?_
   dsimp only;omega
 .have e:j=8:=by omega
  subst e
  exact a0o rfl
end
end Go.Proofs.YtmgnedokogidoaaGreatDoor
