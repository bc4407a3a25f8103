/- The condition is right: calls. No program in sight. -/
import Derived.Test.YtlankgapiecloaaGreatDoorYC1
namespace Go.Sy
open Go.RowKit
theorem injRow_ok {ρ:Nat→Nat} {h:Nat}:∀(H:Heap),injRow ρ h H=true→∀k o,(k,o)∈H→k≠h→ρ h≠ρ k
 | [],_,k,o,hm,_=>by cases hm
 |(x,y)::r,hi,k,o,hm,hne=>by
  simp only [injRow,Bool.and_eq_true,Bool.or_eq_true,Bool.not_eq_true'] at hi
  rcases List.mem_cons.1 hm with e|hm
  ·cases e
   rcases hi.1 with h1|h1
   ·exact absurd (Nat.eq_of_beq_eq_true h1).symm hne
   ·intro e;rw [e] at h1;simp at h1
  ·exact injRow_ok r hi.2 k o hm hne
theorem injH_ok {ρ:Nat→Nat} {all:Heap}:∀(H:Heap),injH ρ all H=true→∀h hb,(h,some hb)∈H→hb.ro=false→∀k o,(k,o)∈all→k≠h→ρ h≠ρ k
 | [],_,h,hb,hm,_=>by cases hm
 |(x,some y)::r,hi,h,hb,hm,hr=>by
  simp only [injH,Bool.and_eq_true,Bool.or_eq_true] at hi
  rcases List.mem_cons.1 hm with e|hm
  ·cases e
   rcases hi.1 with h1|h1
   ·rw [hr] at h1;cases h1
   ·exact fun k o hk hne=>injRow_ok all h1 k o hk hne
  ·exact injH_ok r hi.2 h hb hm hr
 |(x,none)::r,hi,h,hb,hm,hr=>by
  simp only [injH] at hi
  rcases List.mem_cons.1 hm with e|hm
  ·cases e
  ·exact injH_ok r hi h hb hm hr
theorem rho_lt {l:List Nat} {nx h:Nat} (hh:h<l.length):rho l nx h=l[h]:=by
 unfold rho;rw [nth_eq,List.getElem?_eq_getElem hh]
theorem rho_ge {l:List Nat} {nx h:Nat} (hh:l.length≤h):rho l nx h=nx+(h-l.length):=by
 unfold rho;rw [nth_eq,List.getElem?_eq_none hh]
theorem call_core {g:G} {w:World} {l:List Nat} {nx:Nat} {args args0:List SV} {H Hc:Heap} {post:SV→Heap→Nat→Prop} {vals:List Value} (hf:Fits l nx args args0 H Hc) (hg:g.glob) (hH:Holds g Hc w) (hv:Rvs g args vals)
  (hun:∀sv H' n',post sv H' n'→∀h q,nx≤h→h<nx+(n'-l.length)→g h q=none):
  ∃g0:G,g0.glob∧g0.upto l.length∧Holds g0 H w∧Rvs g0 args0 vals∧∀v w',Out g0 w l.length H post v w'→∃sv H' n' g',post sv H' n'∧After g Hc nx w (SV.ren (rho l nx) sv) (renH (rho l nx) H'++lost (rho l nx) H) (n'-l.length) g' v w':=by
 have hpos:0<l.length∧rho l nx 0=0:=by
  have:=hf.head
  unfold headOk at this
  split at this
  ·exact ⟨by simp,by simp [rho,nth]⟩
  ·cases this
 let ρ:=rho l nx
 let g0:G:=fun h q=>if h<l.length then g (ρ h) q else none
 have hs:Same l.length ρ g0 g:=by intro h q β hh;simp only [g0,hh,if_true]
 have hg0:g0.glob:=by
  intro q
  obtain ⟨es,cap,e⟩:=hg q
  refine ⟨es,cap,?_⟩
  simp only [g0,hpos.1,if_true]
  rw [show ρ 0=0 from hpos.2];exact e
 have hup:g0.upto l.length:=by intro h q hh;simp only [g0];rw [if_neg (by omega)]
 have toC:∀h q ro b,Ent H h q ro b→h<l.length∧b.wf l.length=true∧∃ro' β,Ent Hc (ρ h) q ro' (b.ren ρ)∧(ro=false→ro'=false)∧g (ρ h) q=some β∧g0 h q=some β∧BlkAt g0 β ro b w:=by
  intro h q ro b he
  obtain ⟨h1,h2⟩:=heapWf_ent H hf.wfH h q ro b he
  obtain ⟨ro',h3,h4⟩:=hmatch_ent H hf.heap h q ro b he
  obtain ⟨β,h5,h6⟩:=hH.blk _ _ _ _ h3
  exact ⟨h1,h2,ro',β,h3,h4,h5,(hs h q β h1).2 h5,blkAt_back hs h2 h4 h6⟩
 have hH0:Holds g0 H w:=by
  refine ⟨?_,?_⟩
  ·intro h q ro b he
   obtain ⟨_,_,_,β,_,_,_,h7,h8⟩:=toC h q ro b he
   exact ⟨β,h7,h8⟩
  ·intro h q h' q' b ro' b' β β' hne he he' hgb hgb' hc hc'
   obtain ⟨h1,h2,ro1,β1,h3,h4,h5,h6,_⟩:=toC h q false b he
   obtain ⟨k1,k2,ro2,β2,k3,k4,k5,k6,_⟩:=toC h' q' ro' b' he'
   rw [hgb] at h6;cases h6
   rw [hgb'] at k6;cases k6
   have:=h4 rfl
   subst this
   refine hH.sep (ρ h) q (ρ h') q' (b.ren ρ) ro2 (b'.ren ρ) β β' ?_ h3 k3 h5 k5 hc hc'
   rintro ⟨e1,e2⟩
   by_cases e:h=h'
   ·exact hne ⟨e,e2⟩
   ·obtain ⟨hb,m1,m2⟩:=ent_mem H h q false b he
    obtain ⟨hb',m3,_⟩:=ent_mem H h' q' ro' b' he'
    exact injH_ok H hf.inj h hb m1 m2 h' (some hb') m3 (Ne.symm e) e1
 have hv0:Rvs g0 args0 vals:=(Rvs.ren hs args0 vals hf.wfA).2 (by rw [←hf.args];exact hv)
 refine ⟨g0,hg0,hup,hH0,hv0,?_⟩
 rintro v w' ⟨sv,H',n',g',hp,hnn,hup',hkeep,hrv,hH',hrw,hfr,hown⟩
 have hunb:=hun sv H' n' hp
 let gc:G:=fun k q=>if nx≤k∧k<nx+(n'-l.length) then g' (l.length+(k-nx)) q else g k q
 have hle:G.le g gc:=by
  intro k q β e
  simp only [gc]
  rw [if_neg]
  ·exact e
  ·rintro ⟨h1,h2⟩;rw [hunb k q h1 h2] at e;cases e
 have hinto:Into ρ g' gc:=by
  intro h q β e
  rcases Nat.lt_or_ge h l.length with hh|hh
  ·rw [hkeep h q hh] at e
   exact hle _ _ _ ((hs h q β hh).1 e)
  ·have hlt:h<n':=by
    rcases Nat.lt_or_ge h n' with h1|h1
    ·exact h1
    ·rw [hup' h q h1] at e;cases e
   have e1:ρ h=nx+(h-l.length):=rho_ge hh
   simp only [gc,e1]
   rw [if_pos (by omega),show l.length+(nx+(h-l.length)-nx)=h from by omega]
   exact e
 have wsub:∀k,Wset g0 H k→Wset g Hc k:=by
  rintro k ⟨h,q,b,β,he,hgb,hc,hk⟩
  obtain ⟨h1,h2,ro1,β1,h3,h4,h5,h6,_⟩:=toC h q false b he
  rw [hgb] at h6;cases h6
  have:=h4 rfl
  subst this
  exact ⟨ρ h,q,_,β,h3,h5,hc,hk⟩
 have apart:∀h q ro b β,Ent Hc h q ro b→(∀k hb,(k,some hb)∈H→hb.ro=false→ρ k≠h)→g h q=some β→0<β.cap→¬Wset g0 H β.blk:=by
  rintro h q ro b β he hno hgb hc ⟨k,q',b',β',he',hgb',hc',hk⟩
  obtain ⟨h1,h2,ro1,β1,h3,h4,h5,h6,_⟩:=toC k q' false b' he'
  rw [hgb'] at h6;cases h6
  have:=h4 rfl
  subst this
  obtain ⟨hb,m1,m2⟩:=ent_mem H k q' false b' he'
  exact hH.sep (ρ k) q' h q _ ro b β' β (fun e=>hno k hb m1 m2 e.1) h3 he h5 hgb hc' hc hk
 have cls:∀h q ro b,Ent ((renH ρ H'++lost ρ H)++Hc) h q ro b→(∃k b0 β,ρ k=h∧Ent H' k q ro b0∧b=b0.ren ρ∧g' k q=some β∧gc h q=some β∧BlkAt g' β ro b0 w')∨(∃β,Ent Hc h q ro b∧g h q=some β∧gc h q=some β∧BlkAt g β ro b w∧(0<β.cap→¬Wset g0 H β.blk)):=by
  intro h q ro b he
  rw [List.append_assoc] at he
  rcases renH_ent H' h q ro b he with ⟨k,b0,e1,e2,e3⟩|he
  ·obtain ⟨β,h1,h2⟩:=hH'.blk k q ro b0 e2
   exact .inl ⟨k,b0,β,e1,e2,e3,h1,by rw [←e1];exact hinto _ _ _ h1,h2⟩
  ·obtain ⟨h1,h2⟩:=lost_ent H h q ro b he
   obtain ⟨β,h3,h4⟩:=hH.blk h q ro b h1
   exact .inr ⟨β,h1,h3,hle _ _ _ h3,h4,fun hc=>apart h q ro b β h1 h2 h3 hc⟩
 refine ⟨sv,H',n',gc,hp,hle,?_,Rv.into hinto sv v hrv,⟨?_,?_⟩,⟨hfr.os,hfr.tape,hfr.output,hfr.size,fun k hk hW=>hfr.block k hk (fun h=>hW (wsub k h))⟩,?_⟩
 ·intro k q e hk
  simp only [gc]
  rw [if_neg hk];exact e
 ·intro h q ro b he
  rcases cls h q ro b he with ⟨k,b0,β,_,_,e3,_,h5,h6⟩|⟨β,h1,h2,h3,h4,h5⟩
  ·subst e3;exact ⟨β,h5,blkAt_into hinto h6⟩
  ·exact ⟨β,h3,blkAt_mono h4 hle hfr.size (fun hc=>hfr.block _ (h4.lt hc) (h5 hc))⟩
 ·intro h q h' q' b ro' b' β β' hne he he' hgb hgb' hc hc'
  have own:∀k b0 β,Ent H' k q false b0→g' k q=some β→0<β.cap→Wset g0 H β.blk∨w.heap.size≤β.blk:=fun k b0 β he hgb hc=>hown k q b0 β he hgb hc
  have own':∀k b0 β,Ent H' k q' false b0→g' k q'=some β→0<β.cap→Wset g0 H β.blk∨w.heap.size≤β.blk:=fun k b0 β he hgb hc=>hown k q' b0 β he hgb hc
  rcases cls h q false b he with ⟨k,b0,β1,e1,e2,e3,e4,e5,e6⟩|⟨β1,e1,e2,e3,e4,e5⟩
  ·rw [hgb] at e5;cases e5
   rcases cls h' q' ro' b' he' with ⟨k',b0',β2,f1,f2,f3,f4,f5,f6⟩|⟨β2,f1,f2,f3,f4,f5⟩
   ·rw [hgb'] at f5;cases f5
    exact hH'.sep k q k' q' b0 ro' b0' β β' (fun e=>hne ⟨by rw [←e1,←f1,e.1],e.2⟩) e2 f2 e4 f4 hc hc'
   ·rw [hgb'] at f3;cases f3
    rcases own k b0 β e2 e4 hc with ho|ho
    ·intro e;rw [e] at ho;exact f5 hc' ho
    ·have:=f4.lt hc';omega
  ·rw [hgb] at e3;cases e3
   rcases cls h' q' ro' b' he' with ⟨k',b0',β2,f1,f2,f3,f4,f5,f6⟩|⟨β2,f1,f2,f3,f4,f5⟩
   ·rw [hgb'] at f5;cases f5
    have hr:=hrw k' q' ro' b0' f2
    subst hr
    rcases own' k' b0' β' f2 f4 hc' with ho|ho
    ·intro e;rw [←e] at ho;exact e5 hc ho
    ·have:=e4.lt hc;omega
   ·rw [hgb'] at f3;cases f3
    exact hH.sep h q h' q' b ro' b' β β' hne e1 f1 e2 f2 hc hc'
 ·intro h q b β he hgb hc
  rcases cls h q false b he with ⟨k,b0,β1,e1,e2,e3,e4,e5,e6⟩|⟨β1,e1,e2,e3,e4,e5⟩
  ·rw [hgb] at e5;cases e5
   rcases hown k q b0 β e2 e4 hc with ho|ho
   ·exact .inl (wsub _ ho)
   ·exact .inr ho
  ·rw [hgb] at e3;cases e3
   exact .inl ⟨h,q,b,β,e1,e2,hc,rfl⟩
end Go.Sy
