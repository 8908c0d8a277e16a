/- Wire, part seven: the reader, a number. Conditions: not too many bytes. -/
import Derived.Test.YtbfailbgdnpaiaaGreatDoorX6
import Derived.Test.YtbfailbgdnpaiaaGreatDoorX4
import Derived.Laws.RangeAny
import Derived.Test.YtbfailbgdnpaiaaGreatDoorX3
import Derived.Test.YtbfailbgdnpaiaaGreatDoorX5
set_option maxRecDepth 20000
set_option maxHeartbeats 8000000
namespace Go.Proofs.YtbfailbgdnpaiaaGreatDoor
open Go Go.Eng Go.RowKit

theorem or8 (a x:Nat) (hx:x<256) (ha:a<2 ^ 56):jY .or .u64 (IntKind.u64.wrap ((a:Int)*2 ^ min (8:Int).toNat IntKind.u64.bits)) (x:Int)=(a:Int)*256+x:=by
 have e0:min (8:Int).toNat IntKind.u64.bits=8:=rfl;have h1:IntKind.u64.wrap ((a:Int)*2 ^ 8)=((a <<< 8:Nat):Int):=by
  rw [Nat.shiftLeft_eq];simp only [IntKind.wrap,IntKind.signed,IntKind.bits];simp;omega
 rw [e0,h1];have h2:(BitVec.ofInt 64 ((a <<< 8:Nat):Int) ||| BitVec.ofInt 64 (x:Int)).toNat=a*256+x:=by
  rw [BitVec.toNat_or];simp only [BitVec.ofInt_natCast,BitVec.toNat_ofNat];have e1:a <<< 8 % 2 ^ 64=a <<< 8:=Nat.mod_eq_of_lt (by rw [Nat.shiftLeft_eq];omega);have e2:x % 2 ^ 64=x:=Nat.mod_eq_of_lt (by omega);rw [e1,e2,← Nat.shiftLeft_add_eq_or_of_lt (b:=x) (i:=8) (by omega),Nat.shiftLeft_eq]
 have h3:jY .or .u64 ((a <<< 8:Nat):Int) (x:Int)=IntKind.u64.wrap (((BitVec.ofInt 64 ((a <<< 8:Nat):Int) ||| BitVec.ofInt 64 (x:Int)).toNat:Nat):Int):=rfl;rw [h3,h2];simp only [IntKind.wrap,IntKind.signed,IntKind.bits];simp;omega
theorem ao9 {a x:Int} (hx:0≤x∧x<256) (ha:0≤a∧a<72057594037927936):jY .or .u64 (IntKind.u64.wrap (a*2 ^ min (8:Int).toNat IntKind.u64.bits)) x=a*256+x:=by
 obtain ⟨n,rfl⟩:=Int.eq_ofNat_of_zero_le ha.1;obtain ⟨m,rfl⟩:=Int.eq_ofNat_of_zero_le hx.1;exact or8 n m (by omega) (by omega)
theorem Tt:∀ c:Fin 256,IntKind.i64.wrap (c.val:Int)=(c.val:Int):=by decide +kernel
theorem Tu {c:Int} (h:0≤c∧c<256):IntKind.i64.wrap c=c:=by
 have:=Tt ⟨c.toNat,by omega⟩;simpa [atv h.1] using this
theorem Tv (l:List Int) (x a:Int):be (l ++ [x]) a=be l a*256+x:=by
 induction l generalizing a with
 | nil => rfl
 | cons y l ih => exact ih _
theorem fq.take {l:List Int} (h:fq l) (n:Nat):fq (l.take n):=fun x hx=>h x (arf hx)
theorem fq.drop {l:List Int} (h:fq l) (n:Nat):fq (l.drop n):=fun x hx=>h x (List.mem_of_mem_drop hx)
theorem Xp {b:World} {F:List SP} {A:Option Addr} {c at' to':Nat} {xs:List Int} (hv:∀ w,Sat b F w→VL (Value.int .u8) w (.slice A xs.length c) xs) (h1:at'≤to') (h2:to'≤xs.length) (hc:xs.length≤c) (hm:c≤9223372036854775807) (hz:A=none→c=0) :
  ∀ w,Sat b F w→VL (Value.int .u8) w (.slice (if c=at' then A else A.map fun x=>x.add (at'*1)) (to' - at') (c - at')) ((xs.take to').drop at'):=fun w H =>
 VL.sub (hv w H) h1 h2 (by omega) (by omega) (fun hlt bk off hA=>by
  rw [if_neg (by omega),hA];simp only [aq5,Addr.add,aq8]
  split
  ·rename_i h0;simp [h0]
  ·rfl) (fun hn=>by
  split at hn
  ·omega
  ·simp only [Option.map_eq_none_iff] at hn;have:=hz hn;omega)
section
variable {b:World} {F:List SP} {g gw:Nat} {v:Value} {B:List Int} {s:RS}
abbrev wrP (g gw:Nat) (v:Value) (B:List Int) (s:RS):List SP:= [pt g vO [pp gw,v,ii s.at'],pt gw p7 [ii s.e,ii s.fa],rB v B]
theorem we:SC Tryz.prog eL [pp g] b (wrP g gw v B s++F) (fun u F'=>u = .bool (decide (s.e≠0))∧F'=wrP g gw v B s++F):=by
 refine ao Tryz.func168 Z Z Z <| anf <| ae Z <| aby ?_
 (iterate 6 refine ae Z ?_)
 refine ba 0 Z Z Z ?_
 (iterate 6 refine ae Z ?_)
 refine ba 0 Z Z Z <| au Z Z Z (gN.at (af 3 [1,0,2] Z) (af 3 [1,0,2] Z)) <| apn Z Z <| ane <| aj <| bh Z Z av ?_;exact ⟨rfl,rfl⟩
theorem p8 (hB:B.length≤1000000) (hb:fq B):SC Tryz.prog iG [pp g] b (wrP g gw v B s++F) (fun u F'=>u=ii (ia B s).1∧F'=wrP g gw v B (ia B s).2++F):=by
 refine ao Tryz.func169 Z Z Z <| bu (fun w H=>(H.oat (k:=2) Z).form) ?_;rintro ⟨A,c0,rfl,hc1,hc2,hc3⟩;refine anf <| ae Z <| ane <| ac <| anf <| ae Z <| au Z Z Z (we) <| ane ?_;by_cases h1:s.e≠0
 ·rw [ap5 h1];refine ar Z <| anf <| ae Z <| ane <| aj <| al <| bh Z Z av ?_;rw [yf h1];exact ⟨rfl,rfl⟩
 rw [aqo h1];have h1':s.e=0:=by simpa using h1
 refine ai Z <| ah <| ab <| ac <| ac <| cq flo _ (by decide +kernel) av <| bj Z Zl <| bj Z Zl <| bj Z Zl <| cd 0 Z Z Z Z <| bj Z Zl <| bj Z Zl <| bj Z Zl <| cd 0 Z Z Z Z <| bj Z Zl <| bj Z Zl <| ap <| ab ?_;refine cj Z (fun h2=> ?_) (fun h2=> ?_)
 ·have hr:ia B s=(0,⟨s.at',6,s.at'⟩):=by unfold ia;rw [if_neg h1,if_pos (by omega)]
  refine ac <| ij flo 8 _ [] Z (by decide +kernel) av <| bj Z Zl <| bj Z Zl <| bj Z Zl <| cd 0 Z Z Z Z <| bj Z Zl <| bj Z Zl <| bj Z Zl <| cd 0 Z Z Z Z <| ap <| ik Z (dc _) <| dh Z Z Z Z ((te).ent (af 3 [1,0,2] Z)) ?_;rintro _ _ rfl;refine ⟨dc _,(ap <| ab <| anf <| ae Z <| ane <| aj <| al <| bh Z Z (af 3 [1,0,2] Z) ?_)⟩;rw [hr,if_pos h1',if_pos h1'];exact ⟨rfl,rfl⟩
 have hlt:s.at'<B.length:=by omega
 obtain ⟨gb,ob,rfl⟩:=hc3 (by omega);have hrow:∀ (F:List SP) (k:Nat),nth F k=some (rB (.slice (some ⟨gb,ob,none⟩) B.length c0) B)→∀ w,Sat b F w→∀ i (hi:i<B.length),w.cell? ⟨gb,ob+i,none⟩=some (.int .u8 B[i]):=fun F k hk w H i hi=>by
  have:=VL.at (vlB hk w H) i hi;simpa using this
 have hbyte:0≤B[s.at']∧B[s.at']<256:=hb _ (apw hlt);have hget:B[s.at']?.getD 0=B[s.at']:=by rw [apv hlt];rfl
 have hr:ia B s=if B[s.at']<192 then (B[s.at'],⟨s.at'+1,0,s.fa⟩) else if 199<B[s.at'] then (0,⟨s.at',5,s.at'⟩) else if B.length<s.at'+1+(B[s.at'] - 191).toNat then (0,⟨s.at',6,s.at'⟩)
   else if 9223372036854775808≤be ((B.drop (s.at'+1)).take (B[s.at'] - 191).toNat) 0∨nf (be ((B.drop (s.at'+1)).take (B[s.at'] - 191).toNat) 0)≠(B[s.at'] - 191).toNat then (0,⟨s.at',5,s.at'⟩) else (be ((B.drop (s.at'+1)).take (B[s.at'] - 191).toNat) 0,⟨s.at'+1+(B[s.at'] - 191).toNat,0,s.fa⟩):=by
  unfold ia;rw [if_neg h1,if_neg (by omega),hget]
 have hcell:∀ w,Sat b (wrP g gw (.slice (some ⟨gb,ob,none⟩) B.length c0) B s++F) w→w.cell? ⟨gb,ob+s.at',none⟩=some (.int .u8 B[s.at']):=fun w H=>hrow _ 2 Z w H s.at' hlt
 generalize B[s.at']=c at hbyte hr hget hcell ⊢;refine ah <| ab <| ac <| cq flo _ (by decide +kernel) av <| bj Z Zl <| bj Z Zl <| bj Z Zl <| cd 0 Z Z Z Z <| bj Z Zl <| bj Z Zl <| bj Z Zl <| cd 0 Z Z Z Z <| dx Z Z ?_;refine j7 Z (fun w H=>bx Z Z Z (by rw [b5];simpa using hcell w H)) Z Z ?_;refine bj Z Zl <| bj Z Zl <| eu 3 (ii c) Z (ap2 (Value.int .i64) (Tu hbyte)) <| ap <| ab <| anf <| ae Z <| ay Z <| apn Z Z <| ane <| ac <| ak <| anf <| apo Z Z Z <| ane ?_;obtain ⟨k,hk⟩:∃ k:Nat,max (c - 191) 0=(k:Int):=⟨(max (c - 191) 0).toNat,by omega⟩;refine sm 4 (ii k) Z (ap2 (Value.int .i64) hk) ?_
 skip
 refine cj Z (fun h3=> ?_) (fun h3=> ?_)
 ·rw [if_neg (by omega),if_pos h3] at hr;refine ac <| ij flo 8 _ [] Z (by decide +kernel) av <| bj Z Zl <| bj Z Zl <| bj Z Zl <| cd 0 Z Z Z Z <| bj Z Zl <| bj Z Zl <| bj Z Zl <| cd 0 Z Z Z Z <| ap <| ik Z (dc _) <| dh Z Z Z Z ((te).ent (af 3 [1,0,2] Z)) ?_;rintro _ _ rfl;refine ⟨dc _,(ap <| ab <| anf <| ae Z <| ane <| aj <| az <| al <| bh Z Z (af 3 [1,0,2] Z) ?_)⟩;rw [hr,if_pos h1',if_pos h1'];exact ⟨rfl,rfl⟩
 refine ac <| cq flo _ (by decide +kernel) av <| bj Z Zl <| bj Z Zl <| bj Z Zl <| cd 0 Z Z Z Z <| bj Z Zl <| bj Z Zl <| bj Z Zl <| bj Z Zl <| cd 0 Z Z Z Z <| dx Z Z <| dx Z Z <| bj Z Zl <| bj Z Zl <| bj Z Zl <| ap <| ab ?_;refine cj Z (fun h4=> ?_) (fun h4=> ?_)
 ·have h192:¬ c<192:=by omega
  rw [if_neg h192,if_neg h3,if_pos (by omega)] at hr;refine ac <| ij flo 8 _ [] Z (by decide +kernel) av <| bj Z Zl <| bj Z Zl <| bj Z Zl <| cd 0 Z Z Z Z <| bj Z Zl <| bj Z Zl <| bj Z Zl <| cd 0 Z Z Z Z <| ap <| ik Z (dc _) <| dh Z Z Z Z ((te).ent (af 3 [1,0,2] Z)) ?_;rintro _ _ rfl;refine ⟨dc _,(ap <| ab <| anf <| ae Z <| ane <| aj <| az <| al <| bh Z Z (af 3 [1,0,2] Z) ?_)⟩;rw [hr,if_pos h1',if_pos h1'];exact ⟨rfl,rfl⟩
 refine anf <| apo Z Z Z <| ane ?_;refine cj Z (fun h5=> ?_) (fun h5=> ?_)
 ·rw [if_pos (by omega)] at hr;refine anf <| apo Z Z Z <| ba 0 Z Z Z <| ay Z <| apn Z Z <| cg 0 Z Z Z Z <| aby <| apn Z Z <| ane <| aj <| az <| al <| bh Z Z av ?_;rw [hr];exact ⟨rfl,by rw [h1'];rfl⟩
 have h192:¬ c<192:=by omega
 have hkc:(c - 191).toNat=k:=by omega
 have hkb:s.at'+1+k≤B.length:=by omega
 have hk8:k≤8:=by omega
 rw [if_neg h192,if_neg h3,if_neg (by omega),hkc] at hr;have hDl:((B.drop (s.at'+1)).take k).length=k:=by simp;omega
 have hDb:fq ((B.drop (s.at'+1)).take k):=(hb.drop _).take _;have hcut:∀ w,Sat b (wrP g gw (.slice (some ⟨gb,ob,none⟩) B.length c0) B s++F) w→VL (Value.int .u8) w (.slice (if c0=s.at'+1 then some ⟨gb,ob,none⟩ else (some (⟨gb,ob,none⟩:Addr)).map fun x=>x.add ((s.at'+1)*1)) k (c0 - (s.at'+1))) ((B.drop (s.at'+1)).take k):=fun w H=>by
  have:=Xp (vlB (l:=B) (v:= .slice (some ⟨gb,ob,none⟩) B.length c0) (k:=2) Z) (at':=s.at'+1) (to':=s.at'+1+k) (by omega) (by omega) hc1 hc2 (fun h=>by cases h) w H;rw [at1,arp] at this;exact this
 refine ah <| bg <| ab <| anf <| ae Z <| ane <| ac <| ac <| cq flo _ (by decide +kernel) av <| bj Z Zl <| bj Z Zl <| bj Z Zl <| cd 0 Z Z Z Z <| bj Z Zl <| bj Z Zl <| bj Z Zl <| cd 0 Z Z Z Z <| dx Z Z <| bj Z Zl <| bj Z Zl <| bj Z Zl <| cd 0 Z Z Z Z <| dx Z Z <| bj Z Zl <| dx Z Z <| dx Z Z <| bj Z Zl <| bj Z Zl ?_;refine eu 105 (.slice (if c0=s.at'+1 then some ⟨gb,ob,none⟩ else (some (⟨gb,ob,none⟩:Addr)).map fun x=>x.add ((s.at'+1)*1)) k (c0 - (s.at'+1))) Z ?_ ?_
 ·have e1:((s.at':Int)+1).toNat=s.at'+1:=by omega
  have e2:((s.at':Int)+1+(k:Int)).toNat=s.at'+1+k:=by omega
  rw [e1,e2,arp]
 refine ap ?_;generalize (if c0=s.at'+1 then some (⟨gb,ob,none⟩:Addr) else (some (⟨gb,ob,none⟩:Addr)).map fun x=>x.add ((s.at'+1)*1))=A2 at hcut ⊢;generalize (B.drop (s.at'+1)).take k=D at hcut hr hDl hDb;have hform:∀ w,Sat b (wrP g gw (.slice (some ⟨gb,ob,none⟩) B.length c0) B s++F) w→(0<k→∃ bk off,A2=some ⟨bk,off,none⟩):=fun w H=>by
  obtain ⟨A9,c9,e9,_,_,_,h9⟩:=(hcut w H).form;simp only [Value.slice.injEq] at e9;rw [e9.1];rw [hDl] at h9;exact h9
 refine ab <| ak <| bu hform ?_;intro hA2;obtain ⟨b2,o2,rfl⟩:=hA2 (by omega)
 skip
 refine G7 (S:=Nat) (fun i=> [(0,pp g),(4,ii k),(5,.int .u64 (be (D.take i) 0)),(105,.slice (some ⟨b2,o2,none⟩) k (c0 - (s.at'+1))),(106,ii k),(107,ii i)]) (fun _=>wrP g gw (.slice (some ⟨gb,ob,none⟩) B.length c0) B s++F) (fun i=>i≤k) (fun i=>k - i) 0 ⟨rfl,rfl,rfl,rfl,?_,rfl,trivial⟩ av (aqc _) ?_
 ·exact ap2 (fun n=>some (Value.int .i64 n)) (by omega)
 intro i hi;have hbd:=Xm (hDb.take i);rw [ap7,hDl,asx hi] at hbd;refine anf <| ae Z <| ane <| ac ?_;refine cj Z (fun h6=> ?_) (fun h6=> ?_)
 ·have h6':i<k:=by omega
  have hp7:(256:Int) ^ i≤256 ^ 7:=Ci (by omega);have hDi:i<D.length:=by omega
  have hx:=hDb _ (apw hDi);have hci:∀ w,Sat b (wrP g gw (.slice (some ⟨gb,ob,none⟩) B.length c0) B s++F) w→w.cell? ⟨b2,o2+i,none⟩=some (.int .u8 D[i]):=fun w H=>VL.at (hcut w H) i hDi
  have hsn:be (D.take (i+1)) 0=be (D.take i) 0*256+D[i]:=by rw [apz hDi,Tv]
  generalize D[i]=x at hx hci hsn;refine ah <| ab <| ac <| ak <| anf <| ay Z ?_;refine fc Z (fun w H=>bx Z Z Z (by rw [b5];simpa using hci w H)) Z ?_;refine ae Z <| ane <| aa <| ae Z <| ay Z <| apo Z Z Z <| ae Z <| ad <| bg <| ab <| aa <| ay Z <| ae Z <| ad ?_;rw [show (i:Int)+1=((i+1:Nat):Int) by omega];refine zr (i+1) ⟨rfl,rfl,(ap2 (fun n=>some (Value.int .u64 n)) ?_),rfl,rfl,rfl,trivial⟩ av h6' (by omega);rw [hsn];have e3:IntKind.u64.wrap x=x:=by
   simp only [IntKind.wrap,IntKind.signed,IntKind.bits];simp;omega
  rw [e3];exact ao9 hx ⟨hbd.1,by omega⟩
 obtain rfl:i=k:=by omega
 rw [aqh (by omega)] at hbd ⊢;have hp8:(256:Int) ^ i≤256 ^ 8:=Ci hk8;generalize be D 0=n at hbd hr ⊢;refine b8 <| aw <| ax <| aq <| ab <| ac <| anf <| apo Z Z Z ?_;have hw:n<9223372036854775808→IntKind.i64.wrap n=n:=fun h=>by
  simp only [IntKind.wrap,IntKind.signed,IntKind.bits];simp;omega
 refine ni 119 Z (fun h7=> ?_) (fun h7=> ?_)
 ·rw [if_pos (.inl h7)] at hr
  (iterate 6 refine ae Z ?_)
  refine ane <| ar Z <| ac <| ij flo 8 _ [] Z (by decide +kernel) av <| bj Z Zl <| bj Z Zl <| bj Z Zl <| cd 0 Z Z Z Z <| bj Z Zl <| bj Z Zl <| bj Z Zl <| cd 0 Z Z Z Z <| ap <| ik Z (dc _) <| dh Z Z Z Z ((te).ent (af 3 [1,0,2] Z)) ?_;rintro _ _ rfl;refine ⟨dc _,(ap <| ab <| anf <| ae Z <| ane <| aj <| al <| bh Z Z (af 3 [1,0,2] Z) ?_)⟩;rw [hr,if_pos h1',if_pos h1'];exact ⟨rfl,rfl⟩
 refine apn Z Z <| bn 121 (ii n) Z (ap2 (Value.int .i64) (hw (by omega))) <| au Z Z Z (H6) <| apo Z Z Z <| ane ?_;refine jC Z (fun h8=> ?_) (fun h8=> ?_)
 ·rw [if_pos (.inr (by omega))] at hr;refine ac <| ij flo 8 _ [] Z (by decide +kernel) av <| bj Z Zl <| bj Z Zl <| bj Z Zl <| cd 0 Z Z Z Z <| bj Z Zl <| bj Z Zl <| bj Z Zl <| cd 0 Z Z Z Z <| ap <| ik Z (dc _) <| dh Z Z Z Z ((te).ent (af 3 [1,0,2] Z)) ?_;rintro _ _ rfl;refine ⟨dc _,(ap <| ab <| anf <| ae Z <| ane <| aj <| al <| bh Z Z (af 3 [1,0,2] Z) ?_)⟩;rw [hr,if_pos h1',if_pos h1'];exact ⟨rfl,rfl⟩
 rw [if_neg (by omega)] at hr;refine ah <| ab <| anf <| apo Z Z Z <| ba 0 Z Z Z <| ae Z <| ay Z <| ay Z <| apn Z Z <| cg 0 Z Z Z Z <| aby <| apo Z Z Z <| ane <| aj <| bh Z Z av ?_;rw [hr];refine ⟨ap2 (Value.int .i64) (hw (by omega)),?_⟩;rw [h1'];have e9:(s.at':Int)+(1+(i:Int))=((s.at'+1+i:Nat):Int):=by omega
 rw [e9]
 rfl
end

section
variable {b:World} {F:List SP} {g gw:Nat} {v:Value} {B:List Int} {s:RS}
theorem Cl {most:Int} (hB:B.length≤1000000) (hb:fq B):SC Tryz.prog eK [pp g,ii most] b (wrP g gw v B s++F) (fun u F'=>u=ii (lk B most s).1∧F'=wrP g gw v B (lk B most s).2++F):=by
 refine ao Tryz.func167 Z Z Z <| anf <| ae Z <| ane <| ac <| anf <| ae Z <| au Z Z Z (we) <| ane ?_;by_cases h1:s.e≠0
 ·rw [ap5 h1];refine ar Z <| anf <| ae Z <| ane <| aj <| al <| bh Z Z av ?_;rw [wc _ h1];exact ⟨rfl,rfl⟩
 rw [aqo h1];refine ai Z <| ah <| ab <| anf <| apo Z Z Z <| ba 0 Z Z Z <| ae Z <| aby <| ae Z <| am Z Z Z (p8 hB hb) ?_;rintro _ _ ⟨rfl,rfl⟩;have hr:lk B most s=((ia B s).1,if most<(ia B s).1 then (ia B s).2.fail 4 s.at' else (ia B s).2):=by unfold lk;rw [if_neg h1]
 generalize ia B s=q at hr ⊢;obtain ⟨n,s2⟩:=q;dsimp only at hr ⊢;refine ae Z <| ane <| ac <| anf <| apo Z Z Z <| ane ?_;refine cj Z (fun h2=> ?_) (fun h2=> ?_)
 ·rw [if_pos h2] at hr;refine aa <| apo Z Z Z <| ba 0 Z Z Z <| ae Z <| am Z Z Z ((te).ent (af 3 [1,0,2] Z)) ?_;rintro _ _ rfl;refine aby <| apn Z Z <| ane <| aj <| bh Z Z (af 3 [1,0,2] Z) ?_;rw [hr];refine ⟨rfl,?_⟩;dsimp only;unfold RS.fail
  split <;> rfl
 ·rw [if_neg h2] at hr;refine ah <| ab <| anf <| apn Z Z <| ane <| aj <| bh Z Z av ?_;rw [hr];exact ⟨rfl,rfl⟩
theorem Cm {n pl:Int} (hn:0≤n) (hB:B.length≤1000000) (hat:s.e=0→s.at'≤B.length):SC Tryz.prog eR [pp g,ii n,ii pl] b (wrP g gw v B s++F) (fun u F'=>F'=rB u (wa B n pl s).1::(wrP g gw v B (wa B n pl s).2++F)):=by
 refine ao Tryz.func244 Z Z Z <| bu (fun w H=>(H.oat (k:=2) Z).form) ?_;rintro ⟨A,c0,rfl,hc1,hc2,hc3⟩;refine anf <| ae Z <| ane <| ac <| anf <| ae Z <| au Z Z Z (we) <| ane ?_;by_cases h1:s.e≠0
 ·rw [ap5 h1];refine ar Z <| anf <| ae Z <| ane <| aj <| al <| bh Z Z (de im 1 Z) ?_;rw [fH _ _ h1]
  rfl
 rw [aqo h1];have h1':s.e=0:=by simpa using h1
 have hat:=hat h1';refine ai Z <| ah <| ab <| ac <| ac <| cq flo _ (by decide +kernel) av <| bj Z Zl <| bj Z Zl <| bj Z Zl <| bj Z Zl <| cd 0 Z Z Z Z <| bj Z Zl <| bj Z Zl <| bj Z Zl <| bj Z Zl <| cd 0 Z Z Z Z <| dx Z Z <| bj Z Zl <| ap <| ab ?_;refine cj Z (fun h2=> ?_) (fun h2=> ?_)
 ·have hr:wa B n pl s=([],⟨s.at',6,pl⟩):=by unfold wa;rw [if_neg h1,if_pos h2]
  refine anf <| apo Z Z Z <| ba 0 Z Z Z <| ae Z <| am Z Z Z ((te).ent (af 3 [1,0,2] Z)) ?_;rintro _ _ rfl;refine aby <| ae Z <| ane <| aj <| al <| bh Z Z ((af 3 [1,0,2] Z).trans (de im 1 Z)) ?_;rw [hr,if_pos h1',if_pos h1']
  rfl
 have hr:wa B n pl s=((B.drop s.at').take n.toNat,⟨s.at'+n.toNat,0,s.fa⟩):=by unfold wa;rw [if_neg h1,if_neg h2]
 obtain ⟨m,rfl⟩:=Int.eq_ofNat_of_zero_le hn;have hm:s.at'+m≤B.length:=by omega
 have hcut:∀ w,Sat b (wrP g gw (.slice A B.length c0) B s++F) w→VL (Value.int .u8) w (.slice (if c0=s.at' then A else A.map fun x=>x.add (s.at'*1)) (s.at'+m - s.at') (c0 - s.at')) ((B.drop s.at').take m):=fun w H=>by
  have:=Xp (vlB (l:=B) (v:= .slice A B.length c0) (k:=2) Z) (at':=s.at') (to':=s.at'+m) (by omega) (by omega) hc1 hc2 (fun h=>by
   rcases aq4 c0 with h0 | h0
   ·exact h0
   ·obtain ⟨_,_,h9⟩:=hc3 h0;rw [h] at h9;cases h9) w H
  rw [at1,arp] at this;rw [arp];exact this
 refine ah <| ab <| ac <| cq flo _ (by decide +kernel) av <| bj Z Zl <| bj Z Zl <| bj Z Zl <| cd 0 Z Z Z Z <| bj Z Zl <| bj Z Zl <| bj Z Zl <| cd 0 Z Z Z Z <| bj Z Zl <| bj Z Zl <| bj Z Zl <| cd 0 Z Z Z Z <| bj Z Zl <| dx Z Z <| dx Z Z ?_;refine eu 42 (.slice (if c0=s.at' then A else A.map fun x=>x.add (s.at'*1)) (s.at'+m - s.at') (c0 - s.at')) Z ?_ ?_
 ·have e1:((s.at':Int)+(m:Int)).toNat=s.at'+m:=by omega
  rw [e1,apu]
 refine dh Z Z Z Z (tH hcut (by simp;omega)) ?_;rintro r _ rfl;refine ⟨af 1 [] rfl,(bj Z Zl <| ap <| ab <| anf <| apo Z Z Z <| ba 1 Z Z Z <| ae Z <| ay Z <| apn Z Z <| cg 1 Z Z Z Z <| aby <| apn Z Z <| ane <| aj <| bh Z Z av ?_)⟩;rw [hr,h1',apu];have e9:(s.at':Int)+(m:Int)=((s.at'+m:Nat):Int):=by omega
 rw [e9]
 rfl
theorem wX:SC Tryz.prog dG [pp g] b (wrP g gw v B s++F) (fun u F'=>u=ii (if s.e≠0 then 0 else (s.at':Int))∧F'=wrP g gw v B s++F):=by
 refine ao Tryz.func243 Z Z Z <| anf <| ae Z <| ane <| ac <| anf <| ae Z <| au Z Z Z (we) <| ane ?_;by_cases h1:s.e≠0
 ·rw [ap5 h1];refine ar Z <| anf <| ae Z <| ane <| aj <| al <| bh Z Z av ?_;rw [if_pos h1];exact ⟨rfl,rfl⟩
 ·rw [aqo h1];refine ai Z <| ah <| ab <| anf <| apo Z Z Z <| ba 0 Z Z Z <| ae Z <| ane <| aj <| bh Z Z av ?_;rw [if_neg h1];exact ⟨rfl,rfl⟩
theorem On {most:Int} (h:s.e=0→s.at'≤B.length):(lk B most s).2.e=0→(lk B most s).2.at'≤B.length:=fun he=>by
 have:=(Hz most).stuck B s he;exact ((Hz most).go B [] s he (h this)).2.1
theorem H9 (hb:fq B):0≤(ia B s).1∧(ia B s).1<9223372036854775808:=by
 unfold ia
 split
 ·exact ⟨ato _,by show (0:Int)<_;decide⟩
 ·split
  ·exact ⟨ato _,by show (0:Int)<_;decide⟩
  ·rename_i h1 h2
   have hg:B[s.at']?.getD 0=B[s.at']'(by omega):=by rw [apv (by omega)];rfl
   have hc:=hb _ (apw (show s.at'<B.length by omega));rw [hg];dsimp only
   split
   ·exact ⟨hc.1,by show _<_;dsimp only;omega⟩
   ·split
    ·exact ⟨ato _,by show (0:Int)<_;decide⟩
    ·split
     ·exact ⟨ato _,by show (0:Int)<_;decide⟩
     ·split
      ·exact ⟨ato _,by show (0:Int)<_;decide⟩
      ·rename_i h9
       have:=Xm ((hb.drop (s.at'+1)).take (B[s.at'] - 191).toNat);exact ⟨this.1,by dsimp only;omega⟩
theorem Cn {most:Int} (hb:fq B):0≤(lk B most s).1∧(lk B most s).1<9223372036854775808:=by
 unfold lk
 split
 ·exact ⟨ato _,by show (0:Int)<_;decide⟩
 ·exact H9 hb
theorem Ku {most:Int} (hB:B.length≤1000000) (hb:fq B) (hat:s.e=0→s.at'≤B.length):SC Tryz.prog dC [pp g,ii most] b (wrP g gw v B s++F) (fun u F'=>F'=rB u (ng B most s).1::(wrP g gw v B (ng B most s).2++F)):=by
 refine ao Tryz.func172 Z Z Z <| anf <| ae Z <| aby <| ae Z <| au Z Z Z (wX) <| ae Z <| aby <| apo Z Z Z <| am Z Z Z (Cl hB hb) ?_;rintro _ _ ⟨rfl,rfl⟩;refine ae Z <| am Z Z Z (Cm (Cn hb).1 hB (On hat)) ?_;rintro r _ rfl;refine ae Z <| ane <| aj <| bh Z Z av ?_;by_cases h1:s.e≠0
 ·rw [yU _ h1,wc _ h1,fH _ _ h1];rfl
 ·rw [if_neg h1];rfl
theorem fI {most:Int} (hB:B.length≤1000000) (hb:fq B) (hat:s.e=0→s.at'≤B.length):SC Tryz.prog eF [pp g,ii most] b (wrP g gw v B s++F) (fun u F'=>u = .string (strOfNums (ng B most s).1)∧F'=wrP g gw v B (ng B most s).2++F):=by
 refine ao Tryz.func82 Z Z Z <| anf <| ae Z <| aby <| apn Z Z <| am Z Z Z (Ku hB hb hat) ?_;rintro r _ rfl;refine qZ Z Z Z Z Z Z Z (vlB (l:=(ng B most s).1) (k:=0) Z) <| ae Z <| ane <| aj <| bh Z Z (af 1 [] Z) ?_;exact ⟨rfl,rfl⟩
theorem Tw (hB:B.length≤1000000) (hb:fq B):SC Tryz.prog iH [pp g] b (wrP g gw v B s++F) (fun u F'=>u=qn (yT B s).1.1 (yT B s).1.2∧F'=wrP g gw v B (yT B s).2++F):=by
 refine ao Tryz.func174 Z Z Z <| anf <| bq Z Z Z Z Z fun g2=>aby <| ae Z <| am Z Z Z ((p8 (F:=pt g2 t_api_Dot [ii 0,ii 0]::F) hB hb).ent (af 4 [1,2,3,0] Z)) ?_
 rintro _ _ ⟨rfl,rfl⟩;refine ae Z <| bq Z Z Z Z Z fun g3=>cg 0 Z Z Z Z <| aby <| ae Z <| am Z Z Z ((p8 (F:=pt g3 t_api_Dot [ii (ia B s).1,ii 0]::pt g2 t_api_Dot [ii 0,ii 0]::F) hB hb).ent (af 5 [1,2,3,0,4] Z)) ?_
 rintro _ _ ⟨rfl,rfl⟩;refine ae Z <| cg 3 Z Z Z Z <| ane <| ac <| anf <| ae Z <| au Z Z Z (we) <| ane ?_;have hr:yT B s=(if (ia B (ia B s).2).2.e≠0 then (0,0) else ((ia B s).1,(ia B (ia B s).2).1),(ia B (ia B s).2).2):=rfl;by_cases h1:(ia B (ia B s).2).2.e≠0
 ·rw [ap5 h1];refine ar Z <| anf <| ae Z <| cg 4 Z Z Z Z <| ane <| aj <| al <| ez Z (.agg 4 Z Z Z Z Z .nil) (af 5 [0,1,2] Z) ?_;rw [hr,if_pos h1];exact ⟨rfl,rfl⟩
 ·rw [aqo h1];refine ai Z <| ah <| ab <| anf <| ba 3 Z Z Z <| cg 4 Z Z Z Z <| ane <| aj <| ez Z (.agg 4 Z Z Z Z Z .nil) (af 5 [0,1,2] Z) ?_;rw [hr,if_neg h1];exact ⟨rfl,rfl⟩
theorem lL (hB:B.length≤1000000) (hat:s.e=0→s.at'≤B.length):SC Tryz.prog eN [pp g] b (wrP g gw v B s++F) (fun u F'=>u=ii (fG B s)∧F'=wrP g gw v B s++F):=by
 refine ao Tryz.func171 Z Z Z <| bu (fun w H=>(H.oat (k:=2) Z).form) ?_;rintro ⟨A,c0,rfl,hc1,hc2,hc3⟩;refine anf <| ae Z <| ane <| ac <| anf <| ae Z <| au Z Z Z (we) <| ane ?_;by_cases h1:s.e≠0
 ·rw [ap5 h1];refine ar Z <| anf <| ae Z <| ane <| aj <| al <| bh Z Z av ?_;unfold fG;rw [if_pos h1];exact ⟨rfl,rfl⟩
 ·rw [aqo h1];have hat:=hat (by simpa using h1);refine ai Z <| ah <| ab <| ac <| cq flo _ (by decide +kernel) av <| bj Z Zl <| bj Z Zl <| bj Z Zl <| cd 0 Z Z Z Z <| bj Z Zl <| bj Z Zl <| bj Z Zl <| bj Z Zl <| cd 0 Z Z Z Z <| dx Z Z <| bj Z Zl <| ap <| ab <| aj <| bh Z Z av ?_;unfold fG;rw [if_neg h1];exact ⟨rfl,rfl⟩
theorem yV (hB:B.length≤1000000):SC Tryz.prog iA [pp g] b (wrP g gw v B s++F) (fun u F'=>u = .agg ⟨[ii (tG B s).1,ii (tG B s).2]⟩∧F'=wrP g gw v B s++F):=by
 refine ao Tryz.func85 Z Z Z <| bu (fun w H=>(H.oat (k:=2) Z).form) ?_;rintro ⟨A,c0,rfl,hc1,hc2,hc3⟩;refine anf <| bq Z Z Z Z Z fun g2=>ane <| ac <| ak <| anf ?_
 (iterate 6 refine ae Z ?_)
 refine ba 1 Z Z Z <| apo Z Z Z <| ane <| ai Z <| ac <| cq flo _ (by decide +kernel) av <| bj Z Zl <| bj Z Zl <| bj Z Zl <| cd 1 Z Z Z Z <| fe Z Z Z Z ((gN.at (af 4 [2,0,1,3] Z) (af 4 [1,2,0,3] Z))) av <| bj Z Zl <| bj Z Zl ?_;by_cases h1:s.e≠0
 ·refine eu 21 (.bool false) Z (by rw [ap5 h1];rfl) ?_;refine eu 20 (.bool false) Z (by rw [ap5 h1];rfl) ?_
  (iterate 12 refine bj Z Zl ?_)
  refine ap <| ab <| ai Z <| ah <| bg <| ab <| anf <| apo Z Z Z <| ba 1 Z Z Z <| apn Z Z <| ba 2 Z Z Z <| cg 0 Z Z Z Z <| ane <| aj <| ez Z (.agg 0 Z Z Z Z Z .nil) (af 4 [1,2,3] Z) ?_;unfold tG;rw [if_neg (fun h=>h1 h.1)];exact ⟨rfl,rfl⟩
 ·have h1':s.e=0:=by simpa using h1
  refine eu 21 (.bool true) Z (by rw [aqo h1];rfl) ?_;refine bj Z Zl <| bj Z Zl <| bj Z Zl <| cd 1 Z Z Z Z <| bj Z Zl <| bj Z Zl <| bj Z Zl <| cd 1 Z Z Z Z <| bj Z Zl <| bj Z Zl <| bj Z Zl <| bj Z Zl <| ap <| ab ?_;refine cj Z (fun h2=> ?_) (fun h2=> ?_)
  ·refine anf <| apo Z Z Z <| ba 1 Z Z Z <| ae Z <| cg 0 Z Z Z Z <| ane <| aj <| az <| al <| ez Z (.agg 0 Z Z Z Z Z .nil) (af 4 [1,2,3] Z) ?_;unfold tG;rw [if_pos ⟨h1',by omega⟩];exact ⟨rfl,rfl⟩
  ·refine ah <| bg <| ab <| anf <| apo Z Z Z <| ba 1 Z Z Z <| apn Z Z <| ba 2 Z Z Z <| cg 0 Z Z Z Z <| ane <| aj <| ez Z (.agg 0 Z Z Z Z Z .nil) (af 4 [1,2,3] Z) ?_;unfold tG;rw [if_neg (fun h=>h2 (by omega))];exact ⟨rfl,rfl⟩
theorem Oo (hB:B.length≤1000000) (hat:s.e=0→s.at'≤B.length):SC Tryz.prog jM [pp g] b (wrP g gw v B s++F) (fun u F'=>u=idV (rID B s).1∧F'=wrP g gw v B (rID B s).2++F):=by
 have hl32:(rID B s).1.length=32:=by
  unfold rID
  split
  ·simp
  ·split
   ·simp
   ·rename_i h1 h2
    have:=hat (by simpa using h1);simp;omega
 refine ao Tryz.func175 Z Z Z <| anf <| bq Z Z Z Z Z fun g2=>ane <| ac <| ij flo 5 (pt g2 t_api_ID (u8s (List.replicate 32 0))::F) [] Z (by decide +kernel) (af 4 [0] Z) <| dx Z Z <| bj Z Zl <| bj Z Zl <| dh Z Z Z Z ((wX (F:=pt g2 t_api_ID (u8s (List.replicate 32 0))::F)).ent (af 4 [1,2,3,0] Z)) ?_
 rintro _ _ ⟨rfl,rfl⟩;refine ⟨af 4 [3] rfl,?_⟩
 skip
 refine dh Z Z Z Z (Cm (F:=pt g2 t_api_ID (u8s (List.replicate 32 0))::F) (by decide) hB hat) ?_;rintro r _ rfl;refine ⟨af 5 [4] rfl,?_⟩
 skip
 refine ap <| ik Z (dc _) ?_;have ht:rID B s=(if (wa B 32 (if s.e≠0 then 0 else (s.at':Int)) s).1 = [] then List.replicate 32 0 else (wa B 32 (if s.e≠0 then 0 else (s.at':Int)) s).1,(wa B 32 (if s.e≠0 then 0 else (s.at':Int)) s).2)∧((wa B 32 (if s.e≠0 then 0 else (s.at':Int)) s).1 = []∨(wa B 32 (if s.e≠0 then 0 else (s.at':Int)) s).1.length=32):=by
  unfold rID wa;by_cases h1:s.e≠0
  ·simp [h1]
  ·have hat:=hat (by simpa using h1);simp only [if_neg h1];by_cases h2:(B.length:Int) - s.at'<32
   ·simp [h2]
   ·have hl:((B.drop s.at').take (32:Int).toNat).length=32:=by simp;omega
    simp only [if_neg h2];have hne:(B.drop s.at').take (32:Int).toNat≠ []:=fun h=>by rw [h] at hl;cases hl
    rw [if_neg hne];exact ⟨rfl,.inr hl⟩
 generalize wa B 32 (if s.e≠0 then 0 else (s.at':Int)) s=q at ht ⊢;obtain ⟨D,s2⟩:=q;obtain ⟨hr,hD⟩:=ht;dsimp only at hr hD ⊢;have hDl:D.length≤32:=by rcases hD with h | h <;> simp [h]
 refine Y6 Z Z Z (J8 (o:=0) (dLen:=32) (dCap:=32) (m:=D.length) (news:=u8s D) 4 Z Z Z Z Z Z Z (fun w H=>(vlB (l:=D) (k:=0) Z w H)) hDl (by simp;omega) (ec _)) (dc _) ?_;refine ap ?_;have hsp:spl (u8s (List.replicate 32 0)) 0 (u8s D)=u8s (rID B s).1:=by
  rw [hr];rcases hD with h | h
  ·subst h;rfl
  ·have hne:D≠ []:=fun e=>by subst e;cases h
   dsimp only;rw [if_neg hne];simp only [spl,ar1,arb,aqy];rw [aq0 (by simp [h]),aqg]
 rw [hsp];have hs2:s2=(rID B s).2:=by rw [hr]
 subst hs2;generalize (rID B s).1=d at hl32 ⊢;refine ab <| anf <| b7 4 Z Z Z Z Z Z (ek hl32) Z ?_;refine eh 4 Z Z Z Z Z Z Z (by rw [bz,hl32];rfl) (ec _) (by simp [hl32]) ?_;refine ane <| aj ?_;refine ez Z (.whole 4 Z Z Z Z (by rw [bz,hl32];rfl) .nil) (af 5 [1,2,3] Z) ?_;exact ⟨rfl,rfl⟩
end

theorem Ty {F G:List SP} {v:Value} {n:Nat} {cs:List Value} {l:List Int} (k:Nat) (hk:nth F k=some (row fp 1 v n cs)) (hl:n=l.length) (hc:cs=Cc l) (hG:jf F k (rZ v l)=some G):Ent F G:=by
 subst hl;subst hc;exact mo k hk (fun _ h=>h) hG
theorem tI (B:List Int) (n:Nat) (s:RS):mj B (n+1) s=((mj B n s).1 ++ [(ia B (mj B n s).2).1],(ia B (mj B n s).2).2):=by
 induction n generalizing s with
 | zero => rfl
 | succ n ih =>
  rw [mj,ih];simp only [mj,aq2]
theorem Kv (B:List Int) (n:Nat) (s:RS):(mj B n s).1.length=n:=by
 induction n generalizing s with
 | zero => rfl
 | succ n ih => simp only [mj, ap3, ih]
theorem F8 {B:List Int} {i n:Nat} {s:RS} (h:i≤n) (he:(mj B i s).2.e≠0):(mj B n s).2=(mj B i s).2:=by
 induction h with
 | refl => rfl
 | step _ ih => rw [tI, ih, yf he]
theorem Oq {B:List Int} {most:Int} {s:RS} (h:(lk B most s).2.e=0):(lk B most s).1≤most:=by
 unfold lk at h ⊢;by_cases h1:s.e≠0
 ·rw [if_pos h1] at h;exact absurd h h1
 rw [if_neg h1] at h ⊢;dsimp only at h ⊢;by_cases h2:most<(ia B s).1
 ·rw [if_pos h2] at h;unfold RS.fail at h
  split at h
  ·cases h
  ·rename_i h3;exact absurd h h3
 ·omega
theorem Kw {B:List Int} {most:Int} {s:RS} (hb:fq B):∃ n:Nat,(lk B most s).1=n∧n<9223372036854775808:=by
 have:=Cn (most:=most) (s:=s) hb;exact ⟨(lk B most s).1.toNat,by omega,by omega⟩
section
variable {b:World} {F:List SP} {g gw:Nat} {v va:Value} {B:List Int} {s:RS}
theorem Tz {most:Int} (hm:most≤1000000) (hB:B.length≤1000000) (hb:fq B):SC Tryz.prog bR [pp g,ii most] b (wrP g gw v B s++F) (fun u F'=>F'=rZ u (F6 B most s).1::(wrP g gw v B (F6 B most s).2++F)):=by
 refine ao Tryz.func79 Z Z Z <| anf <| ae Z <| ane <| ac <| anf <| apn Z Z <| am Z Z Z (Cl hB hb) ?_;rintro _ _ ⟨rfl,rfl⟩;obtain ⟨n,hn,hn63⟩:=Kw (most:=most) (s:=s) hb;have hr:F6 B most s=(if (mj B n (lk B most s).2).2.e≠0 then [] else (mj B n (lk B most s).2).1,(mj B n (lk B most s).2).2):=by
  unfold F6;dsimp only;rw [hn,apu]
 have hle:(lk B most s).2.e=0→n≤1000000:=fun h=>by have:=Oq h;omega
 rw [hn];generalize (lk B most s).2=s1 at hr hle ⊢;refine ae Z <| ane <| ak <| d6 (S:=Nat × Value) (fun t=> [(0,pp g),(4,t.2),(7,ii n),(8,ii t.1)]) (fun t=>rZ t.2 (mj B t.1 s1).1::(wrP g gw v B (mj B t.1 s1).2++F)) (fun t=>t.1≤n) (fun t=>n - t.1) (0,.slice none 0 0) (de fp 1 Z) (aqc _) ?_;rintro ⟨i,r⟩ hi;dsimp only at hi ⊢;refine anf <| ae Z <| ane <| ac ?_;refine cj Z (fun h=> ?_) (fun h=> ?_)
 ·have h':i<n:=by omega
  refine ah <| ab <| ac <| ak <| ac <| anf <| ae Z <| au Z Z Z ((we (F:=rZ r (mj B i s1).1::F)).at (af 4 [1,2,3,0] Z) (af 4 [3,0,1,2] Z)) <| ane ?_;by_cases h2:(mj B i s1).2.e≠0
  ·rw [ap5 h2];refine ar Z <| anf <| ae Z <| ane <| aj <| al <| az <| al <| du <| az <| al <| bh Z Z ((af 1 [] Z).trans (de fp 1 Z)) ?_;rw [hr,F8 hi h2,if_pos h2]
   rfl
  ·rw [aqo h2];have hnn:=H9 (B:=B) (s:=(mj B i s1).2) hb;have hli:=Kv B i s1;have h0:s1.e=0:=arx fun hne=>h2 (by rw [Cj hne];exact hne)
   have hle:=hle h0;have hsn:=tI B i s1;generalize hx:(ia B (mj B i s1).2).1=x at hsn hnn;refine ai Z <| ah <| ab <| aa <| apn Z Z <| am Z Z Z ((p8 (F:=rZ r (mj B i s1).1::F) hB hb).ent (af 4 [1,2,3,0] Z)) ?_;rintro _ _ ⟨rfl,rfl⟩;rw [hx];refine lp [ii x] Z Z Z Z Z Z Z Z Z fun gl=> ?_;refine ef (m:=1) (news:= [ii x]) 4 Z Z Z Z Z Z Z Z Z (fun w H=>(H.blk (k:=0) Z).sl Z (by decide)) (by simp [Value.oneCell']) (by omega) (fun _=>rfl) fun r2=> ?_;refine eg ((Ty (l:=(mj B (i+1) s1).1) 4 Z (by rw [hsn];simp) (by rw [hsn];simp [Cc]) Z).trans (af 5 [4,1,2,3] Z)) ?_;refine ae Z <| ad <| bg <| ab <| aa <| ay Z <| ae Z <| ad ?_;rw [show (i:Int)+1=((i+1:Nat):Int) by omega];refine dj (i+1,r2) ?_ h';dsimp only;rw [hsn];exact Ent.refl _
 obtain rfl:i=n:=by omega
 refine b8 <| aw <| ax <| aq <| ab <| ac <| anf <| ae Z <| au Z Z Z ((we (F:=rZ r (mj B i s1).1::F)).at (af 4 [1,2,3,0] Z) (af 4 [3,0,1,2] Z)) <| ane ?_;by_cases h2:(mj B i s1).2.e≠0
 ·rw [ap5 h2];refine ar Z <| anf <| ae Z <| ane <| aj <| al <| bh Z Z ((af 1 [] Z).trans (de fp 1 Z)) ?_;rw [hr,if_pos h2]
  rfl
 ·rw [aqo h2];refine ai Z <| ah <| ab <| anf <| apn Z Z <| ane <| aj <| bh Z Z av ?_;rw [hr,if_neg h2]
  rfl
theorem oO {vb:Value} (hv:∀ w,Sat b F w→VL (Value.int .u8) w vb B) (hB:B.length≤1000000):SC Tryz.prog mS [vb] b F (fun u F'=>∃ g gw v,u=pp g∧F'=wrP g gw v B r0++F):=by
 refine ao Tryz.func78 Z Z Z <| anf <| ae Z <| aby <| ae Z <| br Z Z Z Z Z fun g1=>ae Z <| am Z Z Z (tH (up hv (af 1 [] Z)) hB) ?_
 rintro r _ rfl;refine b6 (fun w H=>(H.oat (k:=0) Z).form) ?_;rintro ⟨A,c,rfl,_,_,_⟩;refine ae Z <| br Z Z Z Z Z fun g2=>ae Z <| ane <| aj <| bh Z Z (af 3 [0,2,1] Z) ?_
 exact ⟨g2,g1,_,rfl,rfl⟩
end


def iK (c:Int):Bool:=(decide (97≤c)&&decide (c≤122)) || (decide (48≤c)&&decide (c≤57))
theorem yg {c:Int}:iK c=true↔(97≤c∧c≤122)∨(48≤c∧c≤57):=by simp [iK]
inductive RK | word | inside | second | dashes
 deriving DecidableEq
abbrev RQ:=RK × Nat
def fJ (n:Nat) (c:Int):Option RQ:=if iK c=true then some (.inside,n) else none
def jj:RQ→Int→Option RQ
 | (.word, n), c => fJ n c
 | (.inside, n), c => if c = 47 ∧ 0 < n then some (.word, n - 1) else if c = 46 then some (.word, n) else if c = 95 then some (.second, n) else if c = 45 then some (.dashes, n) else fJ n c
 | (.second, n), c => if c = 95 then some (.word, n) else fJ n c
 | (.dashes, n), c => if c = 45 then some (.dashes, n) else fJ n c
theorem y1 {n:Nat} {c:Int} {q:RQ} (h:fJ n c=some q):0≤c∧c<128:=by
 unfold fJ at h
 split at h
 ·rename_i hl;have:=yg.1 hl;omega
 ·cases h
theorem fK {q q':RQ} {c:Int} (h:jj q c=some q'):0≤c∧c<128:=by
 obtain ⟨k,n⟩:=q;cases k <;> simp only [jj] at h
 ·exact y1 h
 ·split at h
  ·omega
  ·split at h
   ·omega
   ·split at h
    ·omega
    ·split at h
     ·omega
     ·exact y1 h
 ·split at h
  ·omega
  ·exact y1 h
 ·split at h
  ·omega
  ·exact y1 h

def ww (L:List Int):Int:=L.getLast?.getD 47
def jV (L:List Int):Int:=L.dropLast.getLast?.getD 47
def y2 (L:List Int):Nat:=L.countP (fun c=>decide (c=47))
theorem ry (L:List Int) (c:Int):ww (L ++ [c])=c:=by simp [ww]
theorem oP (L:List Int) (c:Int):jV (L ++ [c])=ww L:=by simp [ww,jV]
theorem yW (L:List Int) (c:Int):y2 (L ++ [c])=y2 L+(if c=47 then 1 else 0):=by
 simp only [y2,List.countP_append,List.countP_cons,List.countP_nil,ar6,aqy]
def iW (L:List Int) (c:Int):Bool :=
 if iK c=true then true
 else if ww L=47∨ww L=46 then false
 else if iK (ww L)=true then decide (c=46∨c=95∨c=45∨c=47)
 else if ww L=95 then decide (c=95∧jV L≠95)
 else decide (c=45)
def Co (L:List Int) (q:RQ):Prop:=q.2+y2 L=7∧match q.1 with
 | .word => ww L = 47 ∨ ww L = 46 ∨ (ww L = 95 ∧ jV L = 95)
 | .inside => iK (ww L) = true
 | .second => ww L = 95 ∧ jV L ≠ 95
 | .dashes => ww L = 45
theorem Ot:Co [] (.word,7):=⟨rfl,.inl rfl⟩
theorem Co.ends {L:List Int} {q:RQ} (h:Co L q):decide (q.1 = .inside)=iK (ww L):=by
 obtain ⟨k,n⟩:=q;obtain ⟨_,h⟩:=h;cases k <;> simp only at h
 ·rcases h with h | h | ⟨h,_⟩ <;> rw [h] <;> rfl
 ·rw [h];rfl
 ·rw [h.1];rfl
 ·rw [h];rfl
theorem Co.step {L:List Int} {q:RQ} (h:Co L q) (c:Int) :
  (jj q c).isSome=(iW L c&&decide (1+y2 (L ++ [c])≤8))∧∀ q',jj q c=some q'→Co (L ++ [c]) q':=by
 obtain ⟨k,n⟩:=q;obtain ⟨hn,h⟩:=h;simp only at hn h;have hs:=yW L c;by_cases hl:iK c=true
 ·have hc:=yg.1 hl;have e47:c≠47:=by omega
  have hw:jj (k,n) c=some (.inside,n):=by
   cases k <;> simp only [jj,fJ,if_pos hl]
   ·rw [if_neg (by omega),if_neg (by omega),if_neg (by omega),if_neg (by omega)]
   ·rw [if_neg (by omega)]
   ·rw [if_neg (by omega)]
  rw [hw];refine ⟨?_,?_⟩
  ·rw [hs,if_neg e47];simp only [iW,if_pos hl,Option.isSome_some,Bool.true_and];exact (ap5 (by omega)).symm
  ·rintro q' he;cases he;refine ⟨?_,?_⟩
   ·simp only [hs,if_neg e47];omega
   ·simp only [ry];exact hl
 ·have hw:∀ n,fJ n c=none:=fun n=>by simp only [fJ,if_neg hl]
  have hnl:∀ {x:Int},x=47∨x=46∨x=95∨x=45→iK x=false:=by
   rintro x (rfl | rfl | rfl | rfl) <;> decide
  cases k
  ·simp only [jj,hw];refine ⟨?_,fun q' he=>by cases he⟩;have:iW L c=false:=by
    simp only [iW,if_neg hl];rcases h with h | h | ⟨h,h'⟩
    ·rw [if_pos (.inl h)]
    ·rw [if_pos (.inr h)]
    ·rw [if_neg (by omega),if_neg (by rw [hnl (.inr (.inr (.inl h)))];simp),if_pos h];simp [h']
   rw [this];rfl
  ·simp only at h;have hb:iW L c=decide (c=46∨c=95∨c=45∨c=47):=by
    simp only [iW,if_neg hl];rw [if_neg (by
     rintro (e | e)
     ·rw [hnl (.inl e)] at h;cases h
     ·rw [hnl (.inr (.inl e))] at h;cases h),if_pos h]
   rw [hb];simp only [jj,hw];by_cases e1:c=47
   ·subst e1;rw [if_pos rfl] at hs;by_cases h0:0<n
    ·rw [if_pos ⟨rfl,h0⟩];refine ⟨?_,?_⟩
     ·rw [ap5 (show 1+y2 (L ++ [47])≤8 by omega)];rfl
     ·rintro q' he;cases he;exact ⟨by simp only [hs];omega,by simp only [ry];exact .inl trivial⟩
    ·rw [if_neg (by omega),if_neg (by omega),if_neg (by omega),if_neg (by omega)];refine ⟨?_,fun q' he=>by cases he⟩;rw [aqo (show ¬ (1+y2 (L ++ [47])≤8) by omega),Bool.and_false];rfl
   ·rw [if_neg (by omega)];rw [if_neg e1] at hs;have hd:decide (1+y2 (L ++ [c])≤8)=true:=ap5 (by omega);rw [hd,Bool.and_true];by_cases e2:c=46
    ·subst e2;rw [if_pos rfl];refine ⟨rfl,?_⟩;rintro q' he;cases he;exact ⟨by simp only [hs];omega,by simp only [ry];exact .inr (.inl trivial)⟩
    ·rw [if_neg e2];by_cases e3:c=95
     ·subst e3;rw [if_pos rfl];refine ⟨rfl,?_⟩;rintro q' he;cases he;refine ⟨by simp only [hs];omega,?_⟩;simp only [ry,oP];exact ⟨trivial,fun e=>by rw [e] at h;exact absurd h (by decide)⟩
     ·rw [if_neg e3];by_cases e4:c=45
      ·subst e4;rw [if_pos rfl];refine ⟨rfl,?_⟩;rintro q' he;cases he;exact ⟨by simp only [hs];omega,by simp only [ry]⟩
      ·rw [if_neg e4];exact ⟨(aqo (by omega)).symm,fun q' he=>by cases he⟩
  ·obtain ⟨h1,h2⟩:=h;have hb:iW L c=decide (c=95∧jV L≠95):=by
    simp only [iW,if_neg hl];rw [if_neg (by omega),if_neg (by rw [hnl (.inr (.inr (.inl h1)))];simp),if_pos h1]
   rw [hb];simp only [jj,hw];by_cases e3:c=95
   ·subst e3;rw [if_neg (by decide)] at hs;rw [if_pos rfl];refine ⟨?_,?_⟩
    ·rw [ap5 (⟨rfl,h2⟩:(95:Int)=95∧jV L≠95)];simp;omega
    ·rintro q' he;cases he;refine ⟨by simp only [hs];omega,?_⟩;simp only [ry,oP];exact .inr (.inr ⟨trivial,h1⟩)
   ·rw [if_neg e3];refine ⟨?_,fun q' he=>by cases he⟩;rw [aqo (by omega)];rfl
  ·simp only at h;have hb:iW L c=decide (c=45):=by
    simp only [iW,if_neg hl];rw [if_neg (by omega),if_neg (by rw [hnl (.inr (.inr (.inr h)))];simp),if_neg (by omega)]
   rw [hb];simp only [jj,hw];by_cases e4:c=45
   ·subst e4;rw [if_neg (by decide)] at hs;rw [if_pos rfl];refine ⟨?_,?_⟩
    ·simp;omega
    ·rintro q' he;cases he;exact ⟨by simp only [hs];omega,by simp only [ry]⟩
   ·rw [if_neg e4];refine ⟨?_,fun q' he=>by cases he⟩;rw [aqo e4];rfl
def tf:List Int→Option RQ:=List.foldlM jj (.word,7)
theorem tJ (L:List Int) (c:Int):tf (L ++ [c])=(tf L).bind (jj · c):=by
 simp only [tf,List.foldlM_append,List.foldlM_cons,List.foldlM_nil];cases L.foldlM jj (RK.word,7) with
 | none => rfl
 | some q => simp only [Option.bind_eq_bind, Option.bind_some]; cases jj q c <;> rfl
theorem wY {L:List Int} {q:RQ} (h:tf L=some q):Co L q:=by
 have key:∀ (n:Nat) (L:List Int) (q:RQ),L.length=n→tf L=some q→Co L q:=by
  intro n
  induction n with
  | zero =>
   intro L q hn h;have:L = []:=aql hn;subst this;cases h;exact Ot
  | succ n ih =>
   intro L q hn h;rcases List.eq_nil_or_concat L with rfl | ⟨L',c,rfl⟩
   ·cases hn
   rw [List.concat_eq_append] at h hn ⊢;rw [tJ] at h;cases hL:tf L' with
   | none => rw [hL] at h; cases h
   | some p => rw [hL] at h; exact ((ih L' p (by simpa using hn) hL).step c).2 q h
 exact key _ L q Z h
theorem tK {L:List Int} {p k:Nat} {q:RQ} (h:tf (L.take p)=some q) (hk:k≤p):∃ q',tf (L.take k)=some q':=by
 rw [show p=k+(p - k) by omega,List.take_add] at h;simp only [tf,List.foldlM_append] at h ⊢;cases hf:List.foldlM jj (RK.word,7) (L.take k) with
 | none => rw [hf] at h; cases h
 | some q' => exact ⟨q', rfl⟩
def Cp (L:List Int):Option Nat:=(List.range L.length).find? fun p=>(tf (L.take (p+1))).isNone
theorem cP {L:List Int} {p:Nat} (hp:p<L.length):tf (L.take (p+1))=(tf (L.take p)).bind (jj · L[p]):=by
 rw [apz hp,tJ]
theorem F9 {L:List Int} {p:Nat} {q:RQ} (hp:p<L.length) (h:tf (L.take p)=some q) (h2:jj q L[p]=none):Cp L=some p:=by
 unfold Cp;rw [List.find?_range_eq_some];refine ⟨?_,by simpa using hp,fun k hk=> ?_⟩
 ·rw [cP hp,h];simp [h2]
 ·obtain ⟨q',hq⟩:=tK h (show k+1≤p by omega);rw [hq];rfl
theorem Ga {L:List Int} {q:RQ} (h:tf L=some q):Cp L=none:=by
 unfold Cp;rw [List.find?_eq_none];intro k hk;have h':tf (L.take L.length)=some q:=by rw [aqk];exact h
 obtain ⟨q',hq⟩:=tK h' (show k+1≤L.length by have:=aqr.1 hk;omega);rw [hq];simp
def jk (L:List Int):Int × Int:=if 128<L.length then (4,128) else match Cp L with
 | some p => (7, p)
 | none => if iK (ww L) = true then (0, 0) else (7, L.length)
theorem Gb {L:List Int} (h:128<L.length):jk L=(4,128):=if_pos h
theorem Kx {L:List Int} {p:Nat} {q:RQ} (hl:¬ 128<L.length) (hp:p<L.length) (h:tf (L.take p)=some q) (h2:jj q L[p]=none):jk L=(7,(p:Int)):=by
 unfold jk;rw [if_neg hl,F9 hp h h2]
theorem Ky {L:List Int} {q:RQ} (hl:¬ 128<L.length) (h:tf L=some q):jk L=if q.1 = .inside then (0,0) else (7,(L.length:Int)):=by
 unfold jk;rw [if_neg hl,Ga h];have:=(wY h).ends;by_cases hq:q.1 = .inside
 ·rw [if_pos hq];rw [ap5 hq] at this;simp only [← this,ata]
 ·rw [if_neg hq];rw [aqo hq] at this;simp only [← this];rfl
theorem qD {s:ByteArray} {p:Nat} (hp:p<s.size) (hl:p<(dz s).length):(dz s)[p]=((s[p]'hp).toNat:Int):=by
 simp only [dz,aq7,Array.getElem_toList]
 rfl
theorem Kz {s:ByteArray} {p:Nat} (hp:p<s.size) (hl:p<(dz s).length) (q:RQ):jj q ((Utf8.decode s p).1:Int)=jj q (dz s)[p]:=by
 rw [qD hp hl];by_cases h:(s[p]'hp).toNat<128
 ·rw [Go.decode_ascii s p hp h]
 ·have h1:=(Go.decode_high s p hp (by omega)).1;cases e1:jj q ((Utf8.decode s p).1:Int) with
  | some q' => have := fK e1; omega
  | none =>
   cases e2:jj q ((s[p]'hp).toNat:Int) with
   | some q' => have := fK e2; omega
   | none => rfl
theorem Ou {s:ByteArray} {p:Nat} (hp:p<s.size) (hl:p<(dz s).length) {q q':RQ} (h:jj q (dz s)[p]=some q'):Utf8.decode s p=((s[p]'hp).toNat,1):=by
 rw [qD hp hl] at h;have:=fK h;exact Go.decode_ascii s p hp (by omega)

def lM (c:Int):Bool:=iK c || (decide (65≤c)&&decide (c≤90)) || decide (c=95) || decide (c=46) || decide (c=45)
def tOk (i:Nat) (c:Int):Bool:=lM c&&(decide (i≠0) || (decide (c≠46)&&decide (c≠45)))
theorem bB {c:Int}:lM c=true↔(97≤c∧c≤122)∨(48≤c∧c≤57)∨(65≤c∧c≤90)∨c=95∨c=46∨c=45:=by
 simp only [lM,ath,aqi,ar6,yg];omega
theorem T2 {i:Nat} {c:Int}:tOk i c=true↔((97≤c∧c≤122)∨(48≤c∧c≤57)∨(65≤c∧c≤90)∨c=95∨c=46∨c=45)∧(i≠0∨(c≠46∧c≠45)):=by
 simp only [tOk,aqi,ath,bB,ar6]
theorem nK {i:Nat} {c:Int} (h:tOk i c=true):0≤c∧c<128:=by have:=T2.1 h;omega
def Ov (L:List Int):Option Nat:=(List.range L.length).find? fun p=> !tOk p (L[p]?.getD 0)
def oQ (L:List Int) (p:Nat):Prop:=∀ k,k<p→∀ h:k<L.length,tOk k L[k]=true
theorem K0 {L:List Int} {p:Nat} (hp:p<L.length) (h:oQ L p) (h2:tOk p L[p]=false):Ov L=some p:=by
 unfold Ov;rw [List.find?_range_eq_some];refine ⟨by rw [apv hp];simp [h2],by simpa using hp,fun k hk=> ?_⟩;rw [apv (by omega)];simp [h k hk (by omega)]
theorem K1 {L:List Int} (h:oQ L L.length):Ov L=none:=by
 unfold Ov;rw [List.find?_eq_none];intro k hk;have hk:=aqr.1 hk;rw [apv hk];simp [h k hk hk]
def cB (L:List Int):Int × Int:=if 64<L.length then (4,64) else match Ov L with
 | some p => (7, p)
 | none => if L.length = 0 then (7, 0) else (0, 0)
theorem K2 {L:List Int} (h:64<L.length):cB L=(4,64):=if_pos h
theorem Cq {L:List Int} {p:Nat} (hl:¬ 64<L.length) (hp:p<L.length) (h:oQ L p) (h2:tOk p L[p]=false):cB L=(7,(p:Int)):=by
 unfold cB;rw [if_neg hl,K0 hp h h2]
theorem Ow {L:List Int} (hl:¬ 64<L.length) (h:oQ L L.length):cB L=if L.length=0 then (7,0) else (0,0):=by
 unfold cB;rw [if_neg hl,K1 h]
theorem oQ.step {L:List Int} {p:Nat} (h:oQ L p) (hp:p<L.length) (h2:tOk p L[p]=true):oQ L (p+1):=by
 intro k hk hl;by_cases e:k=p
 ·subst e;exact h2
 ·exact h k (by omega) hl
theorem Cr {s:ByteArray} {p i:Nat} (hp:p<s.size) (hl:p<(dz s).length):tOk i ((Utf8.decode s p).1:Int)=tOk i (dz s)[p]:=by
 rw [qD hp hl];by_cases h:(s[p]'hp).toNat<128
 ·rw [Go.decode_ascii s p hp h]
 ·have h1:=(Go.decode_high s p hp (by omega)).1;cases e1:tOk i ((Utf8.decode s p).1:Int) with
  | true => have := nK e1; omega
  | false =>
   cases e2:tOk i ((s[p]'hp).toNat:Int) with
   | true => have := nK e2; omega
   | false => rfl
theorem wZ {s:ByteArray} {p i:Nat} (hp:p<s.size) (hl:p<(dz s).length) (h:tOk i (dz s)[p]=true):Utf8.decode s p=((s[p]'hp).toNat,1):=by
 rw [qD hp hl] at h;have:=nK h;exact Go.decode_ascii s p hp (by omega)



theorem Gc {x:Int} (h:(Lit.int .i64 x).wf=true):I64 x:=(aln x).1 h
section
variable {b:World} {F:List SP} {e:Ev}
end

def nxF:RK→Nat
 | .word => aQ
 | .inside => x6
 | .second => x7
 | .dashes => x8
abbrev rpV (n:Nat):Value:= .agg ⟨[ii n]⟩
def stN (q:RQ):List Value:= [.func (.func (nxF q.1)) ⟨[rpV q.2]⟩ ⟨[]⟩,.bool (decide (q.1 = .inside))]
abbrev pN (g:Nat) (q:RQ):SP:=pt g bY (stN q)
section
variable {b:World} {F:List SP}
theorem Ia {c:Int}:SC Tryz.prog jN [.int .i32 c] b F (fun v F'=>v = .bool (iK c)∧F'=F):=by
 refine ao Tryz.func267 Z Z Z <| anf <| ae Z <| aby <| apo Z Z Z ?_;refine ni 5 Z (fun h1=> ?_) (fun h1=> ?_)
 ·refine apo Z Z Z <| ae Z ?_;refine ni 9 Z (fun h2=> ?_) (fun h2=> ?_)
  ·(iterate 8 refine ae Z ?_)
   refine ane <| aj <| bh Z Z av ?_;exact ⟨ap2 Value.bool (by rw [yg.2 (by omega)]),rfl⟩
  ·refine apo Z Z Z ?_;refine ni 12 Z (fun h3=> ?_) (fun h3=> ?_)
   ·(iterate 5 refine ae Z ?_)
    refine ane <| aj <| bh Z Z av ?_;exact ⟨ap2 Value.bool (by rw [atj,yg];simp only [ar6,reduceCtorEq,false_iff];omega),rfl⟩
   ·omega
 ·(iterate 7 refine ae Z ?_)
  refine ni 12 Z (fun h3=> ?_) (fun h3=> ?_)
  ·(iterate 5 refine ae Z ?_)
   refine ane <| aj <| bh Z Z av ?_;exact ⟨ap2 Value.bool (by rw [atj,yg];simp only [ar6,reduceCtorEq,false_iff];omega),rfl⟩
  ·(iterate 5 refine ae Z ?_)
   refine ane <| aj <| bh Z Z av ?_;exact ⟨ap2 Value.bool (by rw [atj,yg];simp only [ar6,reduceCtorEq,false_iff];omega),rfl⟩
theorem Ib {n:Nat} {x:Int} (hx:x=n):SC Tryz.prog mV [.agg ⟨[ii x]⟩] b F (fun v F'=>∃ g,v=pp g∧F'=pN g (.word,n)::F):=by
 subst hx;refine ao Tryz.func181 Z Z Z <| anf <| br Z Z Z Z Z fun g1=>ae Z <| aby <| ba 0 Z Z Z <| apn Z Z <| br Z Z Z Z Z fun g2=>ae Z <| ane <| aj <| bh Z Z (af 2 [0] Z) ?_
 exact ⟨g2,rfl,rfl⟩
def NxR (F:List SP) (o:Option RQ) (v:Value) (F':List SP):Prop:=match o with
 | some q => ∃ g, v = pp g ∧ F' = pN g q :: F
 | none => v = .pointer none ∧ F' = F
theorem fL {n:Nat} {c:Int}:SC Tryz.prog aQ [rpV n,.int .i32 c] b F (NxR F (jj (.word,n) c)):=by
 refine ao Tryz.func249 Z Z Z <| anf <| br Z Z Z Z Z fun g1=>ae Z <| ane <| ac <| anf <| ae Z <| au Z Z Z (Ia) <| ane ?_
 by_cases h:iK c=true
 ·simp only [h];refine ar Z <| anf <| ba 0 Z Z Z <| apn Z Z <| br Z Z Z Z Z fun g2=>ae Z <| ane <| aj <| al <| bh Z Z (af 2 [0] Z) ?_
  simp only [jj,fJ,if_pos h];exact ⟨g2,rfl,rfl⟩
 ·have h':iK c=false:=by simpa using h
  simp only [h'];refine ai Z <| ah <| ab <| anf <| ae Z <| ane <| aj <| bh Z Z (af 1 [] Z) ?_;simp only [jj,fJ,if_neg h];exact ⟨rfl,rfl⟩
theorem NxR.drop {A:SP} {F:List SP} {o:Option RQ} {v:Value} {F':List SP} (h:NxR (A::F) o v F'):∃ G,Ent F' G∧NxR F o v G:=by
 cases o with
 | none => obtain ⟨h1, rfl⟩ := h; exact ⟨F, af 1 [] rfl, h1, rfl⟩
 | some q => obtain ⟨g, h1, rfl⟩ := h; exact ⟨pN g q :: F, af 2 [0] rfl, g, h1, rfl⟩
theorem K3 {n:Nat} {c:Int}:SC Tryz.prog x7 [rpV n,.int .i32 c] b F (NxR F (jj (.second,n) c)):=by
 refine ao Tryz.func317 Z Z Z <| anf <| br Z Z Z Z Z fun g1=>ae Z <| ane <| ac <| anf <| apn Z Z <| ane ?_
 refine cj Z (fun h=> ?_) (fun h=> ?_)
 ·refine anf <| ba 0 Z Z Z <| apn Z Z <| br Z Z Z Z Z fun g2=>ae Z <| ane <| aj <| al <| bh Z Z (af 2 [0] Z) ?_
  simp only [jj,if_pos h];exact ⟨g2,rfl,rfl⟩
 ·refine ah <| ab <| anf <| ba 0 Z Z Z <| ae Z <| am Z Z Z (fL) ?_;rintro v F' hR;obtain ⟨G,hG,hR'⟩:=hR.drop;refine ae Z <| ane <| aj <| bh Z Z (hG) ?_;simp only [jj,if_neg h];exact hR'
theorem K4 {n:Nat} {c:Int}:SC Tryz.prog x8 [rpV n,.int .i32 c] b F (NxR F (jj (.dashes,n) c)):=by
 refine ao Tryz.func318 Z Z Z <| anf <| br Z Z Z Z Z fun g1=>ae Z <| ane <| ac <| anf <| apn Z Z <| ane ?_
 refine cj Z (fun h=> ?_) (fun h=> ?_)
 ·refine anf <| ba 0 Z Z Z <| apn Z Z <| br Z Z Z Z Z fun g2=>ae Z <| ane <| aj <| al <| bh Z Z (af 2 [0] Z) ?_
  simp only [jj,if_pos h];exact ⟨g2,rfl,rfl⟩
 ·refine ah <| ab <| anf <| ba 0 Z Z Z <| ae Z <| am Z Z Z (fL) ?_;rintro v F' hR;obtain ⟨G,hG,hR'⟩:=hR.drop;refine ae Z <| ane <| aj <| bh Z Z (hG) ?_;simp only [jj,if_neg h];exact hR'
theorem K5 {n:Nat} {c:Int} (h7:n≤7):SC Tryz.prog x6 [rpV n,.int .i32 c] b F (NxR F (jj (.inside,n) c)):=by
 refine ao Tryz.func292 Z Z Z <| anf <| br Z Z Z Z Z fun g1=>ae Z <| ane <| ac <| ak <| anf <| apo Z Z Z ?_
 refine ni 8 Z (fun h1=> ?_) (fun h1=> ?_)
 ·refine ae Z <| ba 0 Z Z Z <| apo Z Z Z <| ane ?_;refine cj Z (fun h2=> ?_) (fun h2=> ?_)
  ·refine anf <| ae Z <| ba 0 Z Z Z <| ay Z <| ae Z ?_;have hn:0<n:=by omega
   refine am Z Z Z (Ib (n:=n - 1) (by omega)) ?_;rintro v F' ⟨g,rfl,rfl⟩;refine ae Z <| ane <| aj <| az <| al <| bh Z Z (af 2 [0] Z) ?_;simp only [jj,if_pos (⟨h1,hn⟩:c=47∧0<n)];exact ⟨g,rfl,rfl⟩
  ·have hn:¬ (c=47∧0<n):=by omega
   refine anf <| apo Z Z Z <| ane <| cj Z (fun h=>absurd h (by omega)) (fun h3=>anf <| apo Z Z Z <| ane <| cj Z (fun h=>absurd h (by omega)) (fun h4=>anf <| apo Z Z Z <| ane <| cj Z (fun h=>absurd h (by omega)) (fun h5=>ah <| bg <| ab <| anf <| ba 0 Z Z Z <| ae Z <| am Z Z Z (fL) ?_)));rintro v F' hR;obtain ⟨G,hG,hR'⟩:=hR.drop;refine ae Z <| ane <| aj <| bh Z Z (hG) ?_;simp only [jj,if_neg hn,if_neg h3,if_neg h4,if_neg h5];exact hR'
 ·have hn:¬ (c=47∧0<n):=by omega
  (iterate 5 refine ae Z ?_)
  refine ane <| ai Z <| anf <| apo Z Z Z <| ane ?_;refine cj Z (fun h3=> ?_) (fun h3=> ?_)
  ·refine anf <| ba 0 Z Z Z <| apn Z Z <| br Z Z Z Z Z fun g2=>ae Z <| ane <| aj <| az <| al <| bh Z Z (af 2 [0] Z) ?_
   simp only [jj,if_neg hn,if_pos h3];exact ⟨g2,rfl,rfl⟩
  refine anf <| apo Z Z Z <| ane ?_;refine cj Z (fun h4=> ?_) (fun h4=> ?_)
  ·refine anf <| ba 0 Z Z Z <| apn Z Z <| br Z Z Z Z Z fun g2=>ae Z <| ane <| aj <| az <| al <| bh Z Z (af 2 [0] Z) ?_
   simp only [jj,if_neg hn,if_neg h3,if_pos h4];exact ⟨g2,rfl,rfl⟩
  refine anf <| apo Z Z Z <| ane ?_;refine cj Z (fun h5=> ?_) (fun h5=> ?_)
  ·refine anf <| ba 0 Z Z Z <| apn Z Z <| br Z Z Z Z Z fun g2=>ae Z <| ane <| aj <| az <| al <| bh Z Z (af 2 [0] Z) ?_
   simp only [jj,if_neg hn,if_neg h3,if_neg h4,if_pos h5];exact ⟨g2,rfl,rfl⟩
  refine ah <| bg <| ab <| anf <| ba 0 Z Z Z <| ae Z <| am Z Z Z (fL) ?_;rintro v F' hR;obtain ⟨G,hG,hR'⟩:=hR.drop;refine ae Z <| ane <| aj <| bh Z Z (hG) ?_;simp only [jj,if_neg hn,if_neg h3,if_neg h4,if_neg h5];exact hR'
theorem apa {q:RQ} {c:Int} (h7:q.2≤7):SC Tryz.prog (nxF q.1) [rpV q.2,.int .i32 c] b F (NxR F (jj q c)):=by
 obtain ⟨k,n⟩:=q;cases k
 ·exact fL
 ·exact K5 h7
 ·exact K3
 ·exact K4
instance nx_bodied (q:RQ):Bodied Tryz.prog (nxF q.1):=by
 obtain ⟨k,n⟩:=q;cases k <;> (dsimp only [nxF];infer_instance)
end

abbrev ftV (f:Int × Int):Value:= .agg ⟨[ii f.1,ii f.2]⟩
section
variable {b:World} {F:List SP}
theorem aab {s:ByteArray} {g:Nat} (hl:¬ 128<(dz s).length):SC Tryz.prog sE [.string s,pp g,ii 7] b (pN g (.word,7)::F) (fun v F'=>v=ftV (jk (dz s))∧F'=F):=by
 have hsz:=lz s;refine ao Tryz.func180 Z Z Z <| anf <| bq Z Z Z Z Z fun g6=>ane <| ac <| anf <| ae Z <| mK Z Z Z Z Z Z fun gi=>ane <| ak ?_
 refine d6 (S:=Nat × RQ × Nat) (fun s'=> [(0,.string s),(1,pp s'.2.2),(2,ii 7),(6,pp g6),(10,pp gi)]) (fun s'=>ob gi (.stringIter s s'.1)::pN s'.2.2 s'.2.1::pt g6 t_api_Fault [ii 0,ii 0]::F)
  (fun s'=>s'.1≤s.size∧tf ((dz s).take s'.1)=some s'.2.1) (fun s'=>s.size - s'.1) (0,(.word,7),g) (af 3 [0,2,1] Z) ⟨aqc _,rfl⟩ ?_
 rintro ⟨p,q,gq⟩ ⟨hp,hq⟩;dsimp only at hp hq ⊢;refine anf ?_;by_cases hlt:p<s.size
 ·have hpl:p<(dz s).length:=by omega
  have h7:q.2≤7:=by have:=(wY hq).1;omega
  have hstep:=Kz hlt hpl q;refine rO 0 Z Z Z Z Z hlt Z <| ae Z <| ane <| ac <| ar Z <| ah <| ab <| ak <| anf <| apo Z Z Z <| ae Z <| aby <| apo Z Z Z <| ba 1 Z Z Z <| ae Z <| am Z Z Z (apa h7) ?_;rintro v F' hR;rw [hstep] at hR;cases hr:jj q (dz s)[p] with
  | none =>
   rw [hr] at hR;obtain ⟨rfl,rfl⟩:=hR;refine ae Z <| aby <| apn Z Z <| ane <| ar Z <| anf <| apo Z Z Z <| cg 2 Z Z Z Z <| ane <| aj <| az <| du <| az <| al <| ez Z (.agg 2 Z Z Z Z Z .nil) (af 3 [] Z) ?_;exact ⟨by rw [Kx hl hpl hq hr];rfl,rfl⟩
  | some q' =>
   rw [hr] at hR;obtain ⟨g',rfl,rfl⟩:=hR;have h1:=Ou hlt hpl hr;refine ae Z <| aby <| apn Z Z <| ane <| ai Z <| ah <| bg ?_;refine dj (p+1,q',g') ?_ ⟨hlt,?_⟩
   ·rw [h1];exact af 4 [1,0,3] Z
   ·rw [cP hpl,hq];exact hr
 ·refine mL 0 Z Z Z Z Z (by omega) ?_;have hq':tf (dz s)=some q:=by rw [← hq,aqh (by omega)]
  have he:=Ky hl hq';refine ae Z <| ane <| ac <| ai Z <| b8 <| aw <| ax <| aq <| ab <| ac <| anf <| apo Z Z Z <| ba 1 Z Z Z <| ae Z <| ane ?_;by_cases hin:q.1 = .inside
  ·refine sm 30 (.bool false) Z (by simp [hin]) ?_;refine ai Z <| ah <| ab <| anf <| ae Z <| cg 2 Z Z Z Z <| ane <| aj <| ez Z (.agg 2 Z Z Z Z Z .nil) (af 3 [] Z) ?_;exact ⟨by rw [he,if_pos hin];rfl,rfl⟩
  ·refine sm 30 (.bool true) Z (by simp [hin]) ?_;refine ar Z <| anf <| apo Z Z Z <| ae Z <| cg 2 Z Z Z Z <| ane <| aj <| al <| ez Z (.agg 2 Z Z Z Z Z .nil) (af 3 [] Z) ?_;exact ⟨by rw [he,if_neg hin,hsz];rfl,rfl⟩
theorem Ic {s:ByteArray} {m:Int}:SC Tryz.prog Bp [.string s,ii m] b F (fun v F'=>(if m<s.size then v = .tuple ⟨[ftV (4,m),.bool true]⟩ else v = .tuple ⟨[ftV (0,0),.bool false]⟩)∧F'=F):=by
 refine ao Tryz.func179 Z Z Z <| anf <| bq Z Z Z Z Z fun g4=>ae Z <| ane <| ac <| anf <| apo Z Z Z <| ae Z <| ane ?_
 refine cj Z (fun h=> ?_) (fun h=> ?_)
 ·refine anf <| apn Z Z <| cg 0 Z Z Z Z <| ae Z <| ane <| aj <| al <| ez Z (.agg 0 Z Z Z Z Z (.tmp Z .nil)) (af 1 [] Z) ?_;exact ⟨by rw [if_pos (by omega)];rfl,rfl⟩
 ·refine ah <| ab <| anf <| ae Z <| cg 0 Z Z Z Z <| ae Z <| ane <| aj <| ez Z (.agg 0 Z Z Z Z Z (.tmp Z .nil)) (af 1 [] Z) ?_;exact ⟨by rw [if_neg (by omega)];rfl,rfl⟩
theorem tL {s:ByteArray}:SC Tryz.prog Bk [.string s] b F (fun v F'=>v=ftV (jk (dz s))∧F'=F):=by
 have hsz:=lz s;refine ao Tryz.func90 Z Z Z <| anf <| bq Z Z Z Z Z fun g2=>ane <| ac <| anf <| ae Z <| am Z Z Z (Ic) ?_
 rintro v F' ⟨hv,rfl⟩;by_cases h:(128:Int)<s.size
 ·rw [if_pos h] at hv;subst hv;refine apo Z Z Z <| bq Z Z Z Z Z fun g3=>cg 0 Z Z Z Z <| ae Z <| aby <| ae Z <| ane <| ar Z <| anf <| ba 0 Z Z Z <| cg 1 Z Z Z Z <| ane <| aj <| al <| ez Z (.agg 1 Z Z Z Z Z .nil) (af 2 [] Z) ?_
  exact ⟨by rw [Gb (by omega)];rfl,rfl⟩
 ·rw [if_neg h] at hv;subst hv;refine apo Z Z Z <| bq Z Z Z Z Z fun g3=>cg 0 Z Z Z Z <| ae Z <| aby <| ae Z <| ane <| ai Z <| ah <| ab <| anf <| apn Z Z <| am Z Z Z (Ib (n:=7) Z) ?_
  rintro v F' ⟨g,rfl,rfl⟩
  skip
  refine am Z Z Z (aab (by omega)) ?_;rintro v F' ⟨rfl,rfl⟩;refine cg 1 Z Z Z Z <| ane <| aj <| ez Z (.agg 1 Z Z Z Z Z .nil) (af 2 [] Z) ?_;exact ⟨rfl,rfl⟩
end

section
variable {b:World} {F:List SP}
end

instance:EqT Tryz.prog t_api_Fault:=⟨by kernel_rfl⟩
set_option maxRecDepth 100000 in
theorem n8 (a b c d:Int) (w:World):(Op.equalIn 10000 t_api_Fault (ftV (a,b)) (ftV (c,d))).run Tryz.prog w = .ok (decide (a=c∧b=d)) w:=by
 have hS:Tryz.prog.underlying t_api_Fault=some (.struct (Tryz.prog.fieldsOf t_api_Fault)):=by kernel_rfl
 have hp:Tryz.prog.stoodInHeld t_api_Fault=false:=by kernel_rfl
 have hf : ∃ f g : Field, (Tryz.prog.fieldsOf t_api_Fault).toList = [f, g] ∧ f.name ≠ "_" ∧ g.name ≠ "_" ∧ f.type = ja ∧ g.type = fp ∧ f.offset = 0 ∧ g.offset = 1 :=
  ⟨_,_,rfl,by decide,by decide,rfl,rfl,rfl,rfl⟩
 obtain ⟨f,g,h1,h2,h3,h4,h5,h6,h7⟩:=hf;have ui:Tryz.prog.underlying fp=some (.int .i64):=by kernel_rfl
 have ue:Tryz.prog.underlying ja=some (.int .i64):=by kernel_rfl
 rw [show (10000:Nat)=9998+1+1 from rfl,run_equalIn_struct w 9999 t_api_Fault _ _ hS hp,h1];have p0:∀ (x y:Int),(part ja #[ii x,ii y] 0).run Tryz.prog w = .ok (ii x) w:=fun x y=>by simp [part,isAgg,run_underlying ue]
 have p1:∀ (x y:Int),(part fp #[ii x,ii y] 1).run Tryz.prog w = .ok (ii y) w:=fun x y=>by simp [part,isAgg,run_underlying ui]
 have q:∀ x y:Int,(Op.equalIn 9999 fp (ii x) (ii y)).run Tryz.prog w = .ok (x == y) w:=fun x y=>run_equalIn_int w 9998 fp .i64 .i64 x y ui
 have q0:∀ x y:Int,(Op.equalIn 9999 ja (ii x) (ii y)).run Tryz.prog w = .ok (x == y) w:=fun x y=>run_equalIn_int w 9998 ja .i64 .i64 x y ue
 simp only [Op.eqFields,h2,h3,h4,h5,h6,h7,ne_eq,not_false_eq_true,ata,Sem.run_bind,p0,p1,q,q0,Result.andThen_ok];by_cases e1:a=c <;> by_cases e2:b=d <;> simp [e1,e2,p1,q]
theorem Ie {F G:List SP} {v:Value} {n:Nat} {cs:List Value} {l:List (List Int)} (k:Nat) (hk:nth F k=some (row t_api_ID 32 v n cs)) (hl:n=l.length) (hc:cs=q6 l) (hG:jf F k (rD v l)=some G):Ent F G:=by
 subst hl;subst hc;exact mo k hk (fun _ h=>h) hG
theorem Ox {α:Type} {f:List Int→RS→α × RS} (hf:Go1 f) {B:List Int} {s:RS} (h:s.e=0→s.at'≤B.length):(f B s).2.e=0→(f B s).2.at'≤B.length:=fun he =>
 (hf.go B [] s he (h (hf.stuck B s he))).2.1
theorem T3 {B:List Int} {s:RS} (hat:s.e=0→s.at'≤B.length):(rID B s).1.length=32:=by
 unfold rID
 split
 ·simp
 ·split
  ·simp
  ·rename_i h1 h2
   have:=hat (by simpa using h1);simp;omega
section
variable {b:World} {F:List SP} {B:List Int}
end

abbrev Xq:Value:= .func (.func yv) ⟨[]⟩ ⟨[]⟩
abbrev Oy (gs g1 g3:Nat):List SP:= [pt gs bY [.func (.func kV) ⟨[]⟩ ⟨[pp g1,pp g3]⟩,.bool true],pt g1 aT [Xq],pt g3 sL [pp gs]]
section
variable {b:World} {F:List SP}
theorem If {c:Int}:SC Tryz.prog yv [.int .i32 c] b F (fun v F'=>v = .bool (lM c)∧F'=F):=by
 refine ao Tryz.func213 Z Z Z <| anf <| ae Z <| aby <| ae Z <| au Z Z Z (Ia) <| ae Z ?_;by_cases h:iK c=true
 ·rw [h]
  (iterate 20 refine ae Z ?_)
  refine ane <| aj <| bh Z Z av ?_;exact ⟨ap2 Value.bool (by simp [lM,h]),rfl⟩
 have h':iK c=false:=by simpa using h
 rw [h'];refine apo Z Z Z ?_;refine ni 8 Z (fun h1=> ?_) (fun h1=> ?_)
 ·(iterate 5 refine ae Z ?_)
  refine ni 13 Z (fun h2=> ?_) (fun h2=> ?_)
  ·(iterate 12 refine ae Z ?_)
   refine ane <| aj <| bh Z Z av ?_;exact ⟨ap2 Value.bool (by rw [bB.2 (by omega)]),rfl⟩
  ·refine apo Z Z Z <| ae Z ?_;refine ni 17 Z (fun h3=> ?_) (fun h3=> ?_)
   ·(iterate 8 refine ae Z ?_)
    refine ane <| aj <| bh Z Z av ?_;exact ⟨ap2 Value.bool (by rw [bB.2 (by omega)]),rfl⟩
   refine apo Z Z Z <| ae Z ?_;refine ni 21 Z (fun h4=> ?_) (fun h4=> ?_)
   ·refine apo Z Z Z <| ae Z <| ane <| aj <| bh Z Z av ?_;exact ⟨ap2 Value.bool (by rw [bB.2 (by omega)]),rfl⟩
   ·refine apo Z Z Z <| ae Z <| ane <| aj <| bh Z Z av ?_;exact ⟨ap2 Value.bool (by simp only [lM,h',Bool.false_or];rw [atj];simp;omega),rfl⟩
 ·(iterate 9 refine ae Z ?_)
  refine ni 17 Z (fun h3=> ?_) (fun h3=> ?_)
  ·(iterate 8 refine ae Z ?_)
   refine ane <| aj <| bh Z Z av ?_;exact ⟨ap2 Value.bool (by rw [bB.2 (by omega)]),rfl⟩
  refine apo Z Z Z <| ae Z ?_;refine ni 21 Z (fun h4=> ?_) (fun h4=> ?_)
  ·refine apo Z Z Z <| ae Z <| ane <| aj <| bh Z Z av ?_;exact ⟨ap2 Value.bool (by rw [bB.2 (by omega)]),rfl⟩
  ·refine apo Z Z Z <| ae Z <| ane <| aj <| bh Z Z av ?_;exact ⟨ap2 Value.bool (by simp only [lM,h',Bool.false_or];rw [atj];simp;omega),rfl⟩
theorem T4 {c:Int} {gs g1 g3:Nat}:SC Tryz.prog kV [.int .i32 c,pp g1,pp g3] b (Oy gs g1 g3++F) (fun v F'=>v=(if lM c=true then pp gs else .pointer none)∧F'=Oy gs g1 g3++F):=by
 refine ao Tryz.func268 Z Z Z <| anf <| ae Z <| ane <| ac <| anf <| ba 1 Z Z Z <| ae Z <| au Z Z Z (If) <| ane ?_;by_cases h:lM c=true
 ·rw [h];refine ar Z <| anf <| ba 2 Z Z Z <| ae Z <| ane <| aj <| al <| bh Z Z av ?_;exact ⟨rfl,rfl⟩
 ·have h':lM c=false:=by simpa using h
  rw [h'];refine ai Z <| ah <| ab <| anf <| ae Z <| ane <| aj <| bh Z Z av ?_;exact ⟨rfl,rfl⟩
theorem aac:SC Tryz.prog Fe [Xq] b F (fun v F'=>∃ gs g1 g3,v=pp gs∧F'=Oy gs g1 g3++F):=by
 refine ao Tryz.func214 Z Z Z <| anf <| br Z Z Z Z Z fun g1=>ae Z <| aby <| bq Z Z Z Z Z fun g3=>aby <| apn Z Z <| br Z Z Z Z Z fun gs=>cg 1 Z Z Z Z <| aby <| ba 1 Z Z Z <| ae Z <| ane <| aj <| bh Z Z (af 3 [0,2,1] Z) ?_
 exact ⟨gs,g1,g3,rfl,rfl⟩
theorem T5 {c:Int}:SC Tryz.prog kT [.int .i32 c] b F (fun v F'=>(tOk 0 c=true∧∃ gs g1 g3,v=pp gs∧F'=Oy gs g1 g3++F)∨(tOk 0 c=false∧v = .pointer none∧F'=F)):=by
 refine ao Tryz.func212 Z Z Z <| anf <| ae Z <| ane <| ac <| anf <| apo Z Z Z ?_;by_cases h1:c=46
 ·refine bn 5 (.bool false) Z (by simp [h1]) ?_
  (iterate 7 refine ae Z ?_)
  refine ane <| ai Z <| ah <| ab <| anf <| ae Z <| ane <| aj <| bh Z Z av ?_;exact .inr ⟨by subst h1;rfl,rfl,rfl⟩
 refine bn 5 (.bool true) Z (by simp [h1]) ?_;refine apo Z Z Z <| ae Z ?_;by_cases h2:c=45
 ·refine bn 9 (.bool false) Z (by simp [h2]) ?_;refine apo Z Z Z <| ane <| ai Z <| ah <| ab <| anf <| ae Z <| ane <| aj <| bh Z Z av ?_;exact .inr ⟨by subst h2;rfl,rfl,rfl⟩
 refine bn 9 (.bool true) Z (by simp [h2]) ?_;refine ae Z <| au Z Z Z (If) <| ae Z <| ane ?_;have ht:tOk 0 c=lM c:=by simp [tOk,h1,h2]
 rw [ht];by_cases h3:lM c=true
 ·rw [h3];refine ar Z <| anf <| am Z Z Z (aac) ?_;rintro _ _ ⟨gs,g1,g3,rfl,rfl⟩;refine ae Z <| ane <| aj <| al <| bh Z Z av ?_;exact .inl ⟨rfl,gs,g1,g3,rfl,rfl⟩
 ·have h':lM c=false:=by simpa using h3
  rw [h'];refine ai Z <| ah <| ab <| anf <| ae Z <| ane <| aj <| bh Z Z av ?_;exact .inr ⟨rfl,rfl,rfl⟩
def Xr (g:Nat) (F:List SP):Option (Nat × Nat × Nat)→List SP
 | none => pt g bY [.func (.func kT) ⟨[]⟩ ⟨[]⟩, .bool false] :: F
 | some x => Oy x.1 x.2.1 x.2.2 ++ F
def alu (g:Nat):Option (Nat × Nat × Nat)→Nat
 | none => g
 | some x => x.1
end

section
variable {b:World} {F:List SP}
theorem T6 {s:ByteArray} {g:Nat} (hl:¬ 64<(dz s).length):SC Tryz.prog sE [.string s,pp g,ii 7] b (Xr g F none) (fun v F'=>v=ftV (cB (dz s))∧F'=F):=by
 have hsz:=lz s;refine ao Tryz.func180 Z Z Z <| anf <| bq Z Z Z Z Z fun g6=>ane <| ac <| anf <| ae Z <| mK Z Z Z Z Z Z fun gi=>ane <| ak ?_
 refine d6 (S:=Nat × Option (Nat × Nat × Nat)) (fun s'=> [(0,.string s),(1,pp (alu g s'.2)),(2,ii 7),(6,pp g6),(10,pp gi)]) (fun s'=>ob gi (.stringIter s s'.1)::pt g6 t_api_Fault [ii 0,ii 0]::Xr g F s'.2)
  (fun s'=>s'.1≤s.size∧oQ (dz s) s'.1∧(s'.2=none↔s'.1=0)) (fun s'=>s.size - s'.1) (0,none) av ⟨aqc _,fun k hk=>absurd hk (Nat.not_lt_zero k),⟨fun _=>rfl,fun _=>rfl⟩⟩ ?_
 rintro ⟨p,st⟩ ⟨hp,hgood,hst⟩;dsimp only at hp hgood hst ⊢;refine anf ?_;by_cases hlt:p<s.size
 ·have hpl:p<(dz s).length:=by omega
  refine rO 0 Z Z Z Z Z hlt Z ?_;cases st with
  | none =>
   have hp0:p=0:=hst.1 Z;have htok:=Cr (i:=0) hlt hpl;have hone:=wZ (i:=0) hlt hpl;refine ae Z <| ane <| ac <| ar Z <| ah <| ab <| ak <| anf <| apo Z Z Z <| ae Z <| aby <| apo Z Z Z <| ba 2 Z Z Z <| ae Z <| am Z Z Z (T5) ?_;rintro v F' h;rcases h with ⟨h1,gs,g1,g3,rfl,rfl⟩ | ⟨h1,rfl,rfl⟩
   ·rw [htok] at h1;have h2:=hone h1;have hg:=hgood.step hpl ((ap2 (fun i=>tOk i (dz s)[p]) hp0).trans h1);refine ae Z <| aby <| apn Z Z <| ane <| ai Z <| ah <| bg ?_;refine dj (p+1,some (gs,g1,g3)) ?_ ⟨hlt,hg,⟨(fun h=>by cases h),(fun h=>by cases h)⟩⟩;rw [h2];exact af 6 [3,4,0,1,2] Z
   ·rw [htok] at h1;refine ae Z <| aby <| apn Z Z <| ane <| ar Z <| anf <| apo Z Z Z <| cg 1 Z Z Z Z <| ane <| aj <| az <| du <| az <| al <| ez Z (.agg 1 Z Z Z Z Z .nil) (af 3 [] Z) ?_;exact ⟨by rw [Cq hl hpl hgood ((ap2 (fun i=>tOk i (dz s)[p]) hp0).trans h1)];rfl,rfl⟩
  | some x =>
   obtain ⟨gs,g1,g3⟩:=x;have hp0:p≠0:=fun e=>by have:=hst.2 e;cases this
   have htok:=Cr (i:=p) hlt hpl;have hone:=wZ (i:=p) hlt hpl;have htc:∀ c,tOk p c=lM c:=fun c=>by simp [tOk,hp0]
   refine ae Z <| ane <| ac <| ar Z <| ah <| ab <| ak <| anf <| apo Z Z Z <| ae Z <| aby <| apo Z Z Z <| ba 2 Z Z Z <| ae Z <| au Z Z Z ((T4 (gs:=gs)).at (af 5 [2,3,4,0,1] Z) (af 5 [3,4,0,1,2] Z)) <| ae Z <| aby <| ae Z ?_;rw [← htc,htok];by_cases h1:tOk p (dz s)[p]=true
   ·have h2:=hone h1;rw [if_pos h1];refine ae Z <| ane <| ai Z <| ah <| bg ?_;refine dj (p+1,some (gs,g1,g3)) ?_ ⟨hlt,hgood.step hpl h1,⟨(fun h=>by cases h),(fun h=>by cases h)⟩⟩;rw [h2];exact Ent.refl _
   ·rw [if_neg h1];refine ae Z <| ane <| ar Z <| anf <| apo Z Z Z <| cg 1 Z Z Z Z <| ane <| aj <| az <| du <| az <| al <| ez Z (.agg 1 Z Z Z Z Z .nil) (af 5 [] Z) ?_;exact ⟨by rw [Cq hl hpl hgood (by simpa using h1)];rfl,rfl⟩
 ·refine mL 0 Z Z Z Z Z (by omega) ?_;have he:=Ow hl (by
   have:p=(dz s).length:=by omega
   rw [this] at hgood;exact hgood)
  cases st with
  | none =>
   have hp0:p=0:=hst.1 Z;rw [if_pos (by omega)] at he;refine ae Z <| ane <| ac <| ai Z <| b8 <| aw <| ax <| aq <| ab <| ac <| anf <| apo Z Z Z <| ba 2 Z Z Z <| ae Z <| ane <| ar Z <| anf <| apo Z Z Z <| ae Z <| cg 1 Z Z Z Z <| ane <| aj <| al <| ez Z (.agg 1 Z Z Z Z Z .nil) (af 3 [] Z) ?_;exact ⟨by rw [he,show s.size=0 by omega];rfl,rfl⟩
  | some x =>
   have hp0:p≠0:=fun e=>by have:=hst.2 e;cases this
   rw [if_neg (by omega)] at he;refine ae Z <| ane <| ac <| ai Z <| b8 <| aw <| ax <| aq <| ab <| ac <| anf <| apo Z Z Z <| ba 2 Z Z Z <| ae Z <| ane <| ai Z <| ah <| ab <| anf <| ae Z <| cg 1 Z Z Z Z <| ane <| aj <| ez Z (.agg 1 Z Z Z Z Z .nil) (af 5 [] Z) ?_;exact ⟨by rw [he];rfl,rfl⟩
theorem Xs {s:ByteArray}:SC Tryz.prog Fb [.string s] b F (fun v F'=>v=ftV (cB (dz s))∧F'=F):=by
 have hsz:=lz s;refine ao Tryz.func144 Z Z Z <| anf <| bq Z Z Z Z Z fun g2=>ane <| ac <| anf <| ae Z <| am Z Z Z (Ic) ?_
 rintro v F' ⟨hv,rfl⟩;by_cases h:(64:Int)<s.size
 ·rw [if_pos h] at hv;subst hv;refine apo Z Z Z <| bq Z Z Z Z Z fun g3=>cg 0 Z Z Z Z <| ae Z <| aby <| ae Z <| ane <| ar Z <| anf <| ba 0 Z Z Z <| cg 1 Z Z Z Z <| ane <| aj <| al <| ez Z (.agg 1 Z Z Z Z Z .nil) (af 2 [] Z) ?_
  exact ⟨by rw [K2 (by omega)];rfl,rfl⟩
 ·rw [if_neg h] at hv;subst hv;refine apo Z Z Z <| bq Z Z Z Z Z fun g3=>cg 0 Z Z Z Z <| ae Z <| aby <| ae Z <| ane <| ai Z <| ah <| ab <| anf <| ae Z <| aby <| apo Z Z Z <| br Z Z Z Z Z fun g=> ?_
  skip
  refine am Z Z Z (T6 (by omega)) ?_;rintro v F' ⟨rfl,rfl⟩;refine cg 1 Z Z Z Z <| ane <| aj <| ez Z (.agg 1 Z Z Z Z Z .nil) (af 2 [] Z) ?_;exact ⟨rfl,rfl⟩
end

section
variable {b:World} {F:List SP} {e:Ev}
end

section
variable {b:World} {F:List SP} {e:Ev}
end

section
variable {β:Type} {lt:β→β→Bool} {ok:β→Prop}
end

section
variable {β:Type} {lt:β→β→Bool} {ok:β→Prop}
end

section
variable {b:World} {F:List SP} {x y:Ev}
end
def swp {α:Type} (D:List α) (i j:Nat) (x y:α):List α:=(D.set i y).set j x
section
variable {b:World} {F:List SP} {D:List (Nat × Ev)} {A:Option Addr} {c n:Nat}
end

section
variable {b:World} {F:List SP} {D:List (Nat × Ev)} {A:Option Addr} {c n:Nat} {fv:Value}
end

section
variable {b:World} {F:List SP} {A:Option Addr} {c n:Nat} {fv:Value}
end

theorem aad {α:Type} (A:List α) (s x:α) (R:List α):((A++s::x::R).set (A.length+1) s).set A.length x=A++x::s::R:=by
 induction A with
 | nil => rfl
 | cons a A ih => simp only [aq2, ap3, List.set_cons_succ, ih]
section
variable {b:World} {F:List SP} {A:Option Addr} {c n:Nat}
end

section
variable {x:Nat × Ev} {S T:List (Nat × Ev)}
end

section
variable {b:World} {F:List SP} {c n:Nat}
end

section
variable {b:World} {F:List SP} {A:Option Addr} {c n:Nat}
end

def tag {α:Type} (i:Nat):List α→List (Nat × α)
 | [] => []
 | x :: l => (i, x) :: tag (i + 1) l

section
variable {b:World} {F:List SP} {l:List Ev}
end

section
variable {α:Type} {f:α→List Value} {l:List α} {sz:Nat}
theorem gO (h:∀ a∈l,(f a).length=sz) (i:Nat):(flC f l).take (i*sz)=flC f (l.take i):=by
 induction l generalizing i with
 | nil => simp [flC]
 | cons x l ih =>
  have h1:=h x aqe;cases i with
  | zero => simp [flC]
  | succ i =>
   simp only [flC,List.take_succ_cons,← ih (fun w hw=>h w (aqj _ hw)) i];rw [asi,Nat.add_comm,← h1,List.take_length_add_append]
end
section
variable {b:World} {F:List SP} {l:List Ev}
end

section
variable {b:World} {F:List SP} {e:Ev}
theorem Gd {r n:Int} {v:Value} {xs:List Int} (h:∀ w,Sat b F w→VL (Value.int .i64) w v xs):SC Tryz.prog kR [v,qn r n] b F (fun u F'=>u = .bool (lj xs r n)∧F'=F) :=
 SC.ofExt fun w H=>iJ (h w H)
end

section
variable {b:World} {F:List SP}
end

section
variable {b:World} {F:List SP} {e:Ev}
end

section
variable {b:World} {F:List SP} {e:Ev}
end

section
variable {b:World} {F:List SP} {e:Ev}
end

section
variable {b:World} {F:List SP} {e:Ev}
end
open Go.WideMaps Go.Heap

structure Pf where
 d:Int × Int
 ids:List (List Int)
 v:Value
abbrev CL:=List ((Int × Int) × List (List Int))
def cfm (d:Int × Int):CL→List (List Int)
 | [] => []
 | e :: l => if e.1 = d then e.2 else cfm d l
section
variable {b:World} {F:List SP} {gg gq gs gp:Nat} {l:List Pf}
end
section
end

abbrev BL:=List (List Int × List Int)
section
variable {b:World} {F:List SP} {gq gs n:Nat} {w r:Int} {V:List Int} {L:List Wn} {X:BL}
end

section
variable {b:World} {F:List SP} {gg gq gs n:Nat} {w r:Int} {V:List Int} {L:List Wn} {X:BL} {C:CL} {e:Ev} {s:Int}
end

section
variable {b:World} {F:List SP} {gg gq gs gp n:Nat} {V:List Int} {L:List Wn} {P:List Pf} {d:Int × Int}
end

theorem k5 {α:Type} {X:List α} {i j:Nat} {y:α} (hij:i<j) (hi:i<X.length):(X.set i y).take (i+1)=X.take i ++ [y]∧(X.set i y).drop j=X.drop j:=by
 constructor
 ·apply atn;intro k;rw [arh,List.getElem?_set,List.getElem?_append,ap7,arh];have hm:min i X.length=i:=by omega
  rw [hm];by_cases h1:k<i
  ·rw [if_pos (by omega),if_neg (by omega),if_pos h1,if_pos h1]
  ·by_cases h2:k=i
   ·subst h2;rw [if_pos (by omega),if_pos rfl,if_pos hi,if_neg (by omega),Nat.sub_self];rfl
   ·rw [if_neg (by omega),if_neg h1,as4 (by simp;omega)]
 ·apply atn;intro k;rw [arc,arc,List.getElem?_set,if_neg (by omega)]
section
variable {b:World} {F:List SP} {p:Int × Int→Bool} {f:Nat} [Bodied Tryz.prog f] {pre post:List Value} {D:List (Int × Int)} {A:Option Addr} {c:Nat}
 (hc:∀ d∈D,∀ B:List SP,SC Tryz.prog f (pre++([Zv d]++post)) b (B++F) (fun u F'=>u = .bool (p d)∧F'=B++F))
include hc
end

section
variable {b:World} {F:List SP} {gg gq gs gp g1 n:Nat} {V:List Int} {L:List Wn} {P:List Pf} {C:CL} {d:Int × Int}
end

section
variable {b:World} {F:List SP} {gg gq gs gp n:Nat} {V:List Int} {L:List Wn} {P:List Pf} {C:CL}
end

section
variable {b:World} {F:List SP} {gg gq gs gp n:Nat} {V:List Int} {L:List Wn} {P:List Pf} {C:CL}
end


section
variable {b:World} {F:List SP} {gg gq gs gp n:Nat} {V:List Int} {L:List Wn} {P:List Pf} {C:CL}
end

theorem Ig:∀ x y:List UInt8,Lib.compareBytes x y = -Lib.compareBytes y x
 | [], [] => rfl
 | [], _ :: _ => rfl
 | _ :: _, [] => rfl
 | a :: x, b :: y => by
  have ih:=Ig x y;simp only [Lib.compareBytes,ati]
  repeat' split
  all_goals omega
def apb (l:List (List Int)):Prop:=l.Pairwise fun a c=>lD a c<0
theorem Ge {i j:Nat} (h:i+j≤4000000):IntKind.i64.wrap ((IntKind.u64.wrap ((i:Int)+(j:Int))).fdiv (2 ^ min (Int.toNat 1) IntKind.u64.bits))=(((i+j) / 2:Nat):Int):=by
 have h1:IntKind.u64.wrap ((i:Int)+(j:Int))=(i:Int)+(j:Int):=by
  have:IntKind.u64.wrap ((i:Int)+(j:Int))=((i:Int)+(j:Int)) % 18446744073709551616:=rfl;rw [this];omega
 rw [h1,show (2:Int) ^ min (Int.toNat 1) IntKind.u64.bits=2 from rfl,I64.wrap (by rw [as1 _ (by omega)];unfold I64;omega),as1 _ (by omega)];omega
section
variable {b:World} {F:List SP} {va:Value} {l:List (List Int)} {x:List Int}
end

def cbN (a b:ByteArray):Int:=Lib.compareBytes a.data.toList b.data.toList
theorem tM (a b:ByteArray):cbN a b = -cbN b a:=Ig _ _
theorem tj (a:ByteArray):cbN a a=0:=by have:=tM a a;omega
theorem Oz {a b:ByteArray} (h:cbN a b=0):a=b:=by
 have h1:=yS a.data.toList b.data.toList (by unfold cbN at h;omega) (by have:=tM a b;unfold cbN at this h;omega);exact ByteArray.ext (ast h1)
theorem oR:∀ {x y z:List UInt8},Lib.compareBytes x y<0→Lib.compareBytes y z<0→Lib.compareBytes x z<0
 | [], [], _, h, _ => by simp [Lib.compareBytes] at h
 | [], _ :: _, [], _, h => by simp [Lib.compareBytes] at h
 | [], _ :: _, _ :: _, _, _ => by simp [Lib.compareBytes]
 | _ :: _, [], _, h, _ => by simp [Lib.compareBytes] at h
 | _ :: _, _ :: _, [], _, h => by simp [Lib.compareBytes] at h
 | a :: x, b :: y, c :: z, h1, h2 => by
  have ih:= @oR x y z;simp only [Lib.compareBytes,ati] at h1 h2 ⊢;by_cases e1:a.toNat<b.toNat
  ·by_cases e2:b.toNat<c.toNat
   ·rw [if_pos (by omega)];omega
   ·rw [if_neg e2] at h2;by_cases e3:c.toNat<b.toNat
    ·rw [if_pos e3] at h2;omega
    ·rw [if_pos (by omega)];omega
  ·rw [if_neg e1] at h1;by_cases e2:b.toNat<a.toNat
   ·rw [if_pos e2] at h1;omega
   ·rw [if_neg e2] at h1;by_cases e3:b.toNat<c.toNat
    ·rw [if_pos (by omega)];omega
    ·rw [if_neg e3] at h2;by_cases e4:c.toNat<b.toNat
     ·rw [if_pos e4] at h2;omega
     ·rw [if_neg e4] at h2;rw [if_neg (by omega),if_neg (by omega)];exact ih h1 h2
theorem xk {a b c:ByteArray} (h1:cbN a b<0) (h2:cbN b c<0):cbN a c<0:=oR h1 h2
structure Hd where
 d:Int × Int
 id:List Int
structure TG where
 nm:ByteArray
 hs:List Hd
structure RP where
 nm:ByteArray
 ts:List TG
 ms:List Hd
structure TB where
 V:List Int
 rs:List RP
def ltD (a b:Int × Int):Prop:=a.1<b.1∨(a.1=b.1∧a.2<b.2)
instance (a b:Int × Int):Decidable (ltD a b):=by unfold ltD;infer_instance
theorem T7 (a:Int × Int):¬ ltD a a:=by unfold ltD;omega
theorem xA {a b c:Int × Int} (h1:ltD a b) (h2:ltD b c):ltD a c:=by unfold ltD at *;omega
theorem T8 {a b:Int × Int} (h1:¬ ltD a b) (h2:¬ ltD b a):a=b:=by unfold ltD at *;exact Prod.ext (by omega) (by omega)
def t8 (l:List Hd):Prop:=l.Pairwise fun a b=>ltD a.d b.d
theorem nL {α:Type} {lt:α→α→Prop} (irr:∀ a,¬ lt a a) (tr:∀ {a b c},lt a b→lt b c→lt a c):∀ {l m:List α},l.Pairwise lt→m.Pairwise lt→(∀ x,x∈l↔x∈m)→l=m
 | [], [], _, _, _ => rfl
 | [], y :: m, _, _, h => absurd ((h y).2 aqe) (by simp)
 | x :: l, [], _, _, h => absurd ((h x).1 aqe) (by simp)
 | x :: l, y :: m, h1, h2, h => by
  rw [aq1] at h1 h2;have e:x=y:=by
   rcases ap1.1 ((h x).1 aqe) with e | hx
   ·exact e
   ·rcases ap1.1 ((h y).2 aqe) with e | hy
    ·exact e.symm
    ·exact absurd (tr (h1.1 y hy) (h2.1 x hx)) (irr x)
  subst e;refine ap2 (x :: ·) (nL irr tr h1.2 h2.2 fun z=>⟨fun hz=> ?_,fun hz=> ?_⟩)
  ·rcases ap1.1 ((h z).1 (aqj _ hz)) with e | hz'
   ·subst e;exact absurd (h1.1 z hz) (irr z)
   ·exact hz'
  ·rcases ap1.1 ((h z).2 (aqj _ hz)) with e | hz'
   ·subst e;exact absurd (h2.1 z hz) (irr z)
   ·exact hz'
structure Pl where
 repo:ByteArray
 tag:Option ByteArray
def nk (s:ByteArray):List TG→List Hd
 | [] => []
 | g :: l => if g.nm = s then g.hs else nk s l
def zj (p:Pl) (r:RP):List Hd:=match p.tag with
 | none => r.ms
 | some s => nk s r.ts
def atP (p:Pl):List RP→List Hd
 | [] => []
 | r :: l => if r.nm = p.repo then zj p r else atP p l
structure alv (r:RP):Prop where
 ts:r.ts.Pairwise fun a b=>cbN a.nm b.nm<0
 th:∀ g∈r.ts,g.hs≠ []∧t8 g.hs
 ms:t8 r.ms
 ne:r.ts≠ []∨r.ms≠ []
structure zk (l:List RP):Prop where
 rs:l.Pairwise fun a b=>cbN a.nm b.nm<0
 ok:∀ r∈l,alv r
theorem cC {s:ByteArray}:∀ {l:List TG},(∀ g∈l,g.nm≠s)→nk s l = []
 | [], _ => rfl
 | g :: l, h => by
  rw [nk,if_neg (h g aqe)];exact cC fun x hx=>h x (aqj _ hx)
theorem gP {l:List TG} (hs:l.Pairwise fun a b=>cbN a.nm b.nm<0) {g:TG} (hg:g∈l):nk g.nm l=g.hs:=by
 induction l with
 | nil => cases hg
 | cons x l ih =>
  rw [aq1] at hs;rw [nk];rcases ap1.1 hg with rfl | hg
  ·exact if_pos Z
  ·rw [if_neg fun e=> ?_]
   ·exact ih hs.2 hg
   ·have:=hs.1 g hg;rw [e,tj] at this;omega
theorem lN {p:Pl}:∀ {l:List RP},(∀ r∈l,r.nm≠p.repo)→atP p l = []
 | [], _ => rfl
 | g :: l, h => by
  rw [atP,if_neg (h g aqe)];exact lN fun x hx=>h x (aqj _ hx)
theorem y3 {l:List RP} (hs:l.Pairwise fun a b=>cbN a.nm b.nm<0) {r:RP} (hr:r∈l) {p:Pl} (hp:p.repo=r.nm):atP p l=zj p r:=by
 induction l with
 | nil => cases hr
 | cons x l ih =>
  rw [aq1] at hs;rw [atP,hp];rcases ap1.1 hr with rfl | hr
  ·exact if_pos Z
  ·rw [if_neg fun e=> ?_]
   ·exact ih hs.2 hr
   ·have:=hs.1 r hr;rw [e,tj] at this;omega
theorem K6 {l m:List TG} (h1:l.Pairwise fun a b=>cbN a.nm b.nm<0) (h2:m.Pairwise fun a b=>cbN a.nm b.nm<0) (n1:∀ g∈l,g.hs≠ []) (n2:∀ g∈m,g.hs≠ []) (h:∀ s,nk s l=nk s m):l=m:=by
 have sub:∀ {l m:List TG},l.Pairwise (fun a b=>cbN a.nm b.nm<0)→m.Pairwise (fun a b=>cbN a.nm b.nm<0)→(∀ g∈l,g.hs≠ [])→(∀ s,nk s l=nk s m)→∀ g∈l,g∈m:=fun {l m} h1 h2 n1 h g hg=>by
  have e:=h g.nm;rw [gP h1 hg] at e;by_cases hx:∃ x∈m,x.nm=g.nm
  ·obtain ⟨x,hx,hn⟩:=hx;rw [← hn,gP h2 hx] at e;have:g=x:=by cases g;cases x;simp only at hn e;subst hn;subst e;rfl
   rw [this];exact hx
  ·rw [cC fun x hx2 hn=>hx ⟨x,hx2,hn⟩] at e;exact absurd e (n1 g hg)
 exact nL (lt:=fun a b:TG=>cbN a.nm b.nm<0) (fun a=>by rw [tj];omega) (fun h1 h2=>xk h1 h2) h1 h2 fun x=>⟨sub h1 h2 n1 h x,sub h2 h1 n2 (fun s=>(h s).symm) x⟩
theorem tN {l m:List RP} (h1:zk l) (h2:zk m) (h:∀ p,atP p l=atP p m):l=m:=by
 have sub:∀ {l m:List RP},zk l→zk m→(∀ p,atP p l=atP p m)→∀ r∈l,r∈m:=fun {l m} h1 h2 h r hr=>by
  have hok:=h1.ok r hr;by_cases hx:∃ x∈m,x.nm=r.nm
  ·obtain ⟨x,hx,hn⟩:=hx;have hxk:=h2.ok x hx;have em:r.ms=x.ms:=by
    have e:=h ⟨r.nm,none⟩;rw [y3 h1.rs hr rfl,y3 h2.rs hx hn.symm] at e;exact e
   have et:r.ts=x.ts:=K6 hok.ts hxk.ts (fun g hg=>(hok.th g hg).1) (fun g hg=>(hxk.th g hg).1) fun s=>by
    have e:=h ⟨r.nm,some s⟩;rw [y3 h1.rs hr rfl,y3 h2.rs hx hn.symm] at e;exact e
   have:r=x:=by cases r;cases x;simp only at hn em et;subst hn;subst em;subst et;rfl
   rw [this];exact hx
  ·have hno:∀ p:Pl,p.repo=r.nm→atP p m = []:=fun p hp=>lN fun x hx2 hn=>hx ⟨x,hx2,hn.trans hp⟩
   rcases hok.ne with hne | hne
   ·obtain ⟨g,hg⟩:=as5 _ hne;have e:=h ⟨r.nm,some g.nm⟩;rw [y3 h1.rs hr rfl,hno _ rfl] at e;have e':nk g.nm r.ts = []:=e;rw [gP hok.ts hg] at e';exact absurd e' (hok.th g hg).1
   ·have e:=h ⟨r.nm,none⟩;rw [y3 h1.rs hr rfl,hno _ rfl] at e;exact absurd e hne
 exact nL (lt:=fun a b:RP=>cbN a.nm b.nm<0) (fun a=>by rw [tj];omega) (fun h1 h2=>xk h1 h2) h1.rs h2.rs fun x=>⟨sub h1 h2 h x,sub h2 h1 (fun p=>(h p).symm) x⟩

instance:DecidableEq Pl:=fun a b=>if h:a.repo=b.repo∧a.tag=b.tag then .isTrue (by cases a;cases b;simp only at h;rw [h.1,h.2]) else .isFalse fun e=>h (by rw [e];exact ⟨rfl,rfl⟩)
abbrev iL (e:Ev):Int × Int:=(e.r,e.n)
def hdE (e:Ev):Hd:=⟨iL e,e.id⟩
def iX (e:Ev) (p:Pl):Prop:=(e.kind=1∧p=⟨e.repo,none⟩)∨(e.kind=3∧p=⟨e.repo,some e.tag⟩)
def cD (e:Ev) (p:Pl) (h:Hd):Prop:=((e.kind=2∧p=⟨e.repo,none⟩∧h.id=e.id)∨((e.kind=3∨e.kind=4)∧p=⟨e.repo,some e.tag⟩))∧lj e.deps h.d.1 h.d.2=true
def Cs (D:List Ev) (p:Pl) (h:Hd):Prop:=∃ x∈D,iX x p∧h=hdE x∧∀ e∈D,¬ cD e p h
theorem Cs.snoc {D:List Ev} {e:Ev} (h1:∀ y∈D,lj y.deps e.r e.n=false) (h2:lj e.deps e.r e.n=false) (p:Pl) (h:Hd):Cs (D ++ [e]) p h↔(iX e p∧h=hdE e)∨(Cs D p h∧¬ cD e p h):=by
 constructor
 ·rintro ⟨x,hx,ha,rfl,hn⟩;rcases ap6.1 hx with hx | hx
  ·exact .inr ⟨⟨x,hx,ha,rfl,fun y hy=>hn y (aqu _ hy)⟩,hn e (by simp)⟩
  ·rw [apy.1 hx] at ha ⊢;exact .inl ⟨ha,rfl⟩
 ·rintro (⟨ha,rfl⟩ | ⟨⟨x,hx,ha,rfl,hn⟩,ht⟩)
  ·refine ⟨e,by simp,ha,rfl,fun y hy ht=> ?_⟩;have h3:lj y.deps e.r e.n=true:=ht.2;rcases ap6.1 hy with hy | hy
   ·rw [h1 y hy] at h3;cases h3
   ·rw [apy.1 hy,h2] at h3;cases h3
  ·refine ⟨x,aqu _ hx,ha,rfl,fun y hy=> ?_⟩;rcases ap6.1 hy with hy | hy
   ·exact hn y hy
   ·rw [apy.1 hy];exact ht
theorem Gg {e:Ev} {p q:Pl} (h1:iX e p) (h2:iX e q):p=q:=by
 rcases h1 with ⟨k1,rfl⟩ | ⟨k1,rfl⟩ <;> rcases h2 with ⟨k2,rfl⟩ | ⟨k2,rfl⟩
 ·rfl
 ·omega
 ·omega
 ·rfl
structure TI (n:Nat) (D:List Ev) (t:TB):Prop where
 rs:zk t.rs
 vl:t.V.length=n
 vo:tA t.V
 at_:∀ p h,h∈atP p t.rs↔Cs D p h
 un:∀ e∈D,lj t.V e.r e.n=true
 nd:(D.map iL).Nodup
theorem TI.dots {n:Nat} {D:List Ev} {t:TB} (h:TI n D t) {p:Pl} {x:Hd} (hx:x∈atP p t.rs):lj t.V x.d.1 x.d.2=true:=by
 obtain ⟨e,he,_,rfl,_⟩:=(h.at_ p x).1 hx;exact h.un e he
theorem K7 {D:List Ev} (h:(D.map iL).Nodup) {a c:Ev} (ha:a∈D) (hc:c∈D) (e:iL a=iL c):a=c:=by
 obtain ⟨i,hi,rfl⟩:=asu.1 ha;obtain ⟨j,hj,rfl⟩:=asu.1 hc;rcases Nat.lt_trichotomy i j with hlt | hlt | hlt
 ·have:=arg.1 h i j (by rw [ap9];exact hi) (by rw [ap9];exact hj) hlt;rw [aq7,aq7] at this;exact absurd e this
 ·subst hlt;rfl
 ·have:=arg.1 h j i (by rw [ap9];exact hj) (by rw [ap9];exact hi) hlt;rw [aq7,aq7] at this;exact absurd e.symm this
theorem TI.one {n:Nat} {D:List Ev} {t:TB} (h:TI n D t) {p q:Pl} {x y:Hd} (hx:x∈atP p t.rs) (hy:y∈atP q t.rs) (e:x.d=y.d):p=q∧x=y:=by
 obtain ⟨a,ha,h1,rfl,_⟩:=(h.at_ p x).1 hx;obtain ⟨c,hc,h2,rfl,_⟩:=(h.at_ q y).1 hy;have:=K7 h.nd ha hc e;subst this;exact ⟨Gg h1 h2,rfl⟩
def q7 (h:Hd):List Hd→List Hd
 | [] => [h]
 | x :: l => if ltD x.d h.d then x :: q7 h l else h :: x :: l
theorem bC {h x:Hd}:∀ {l:List Hd},x∈q7 h l↔x=h∨x∈l
 | [] => by simp [q7]
 | y :: l => by
  rw [q7]
  split
  ·rw [ap1,bC,ap1]
   constructor
   ·rintro (h1 | h1 | h1)
    ·exact .inr (.inl h1)
    ·exact .inl h1
    ·exact .inr (.inr h1)
   ·rintro (h1 | h1 | h1)
    ·exact .inr (.inl h1)
    ·exact .inl h1
    ·exact .inr (.inr h1)
  ·rw [ap1]
theorem nM {h:Hd}:∀ {l:List Hd},t8 l→(∀ x∈l,x.d≠h.d)→t8 (q7 h l)
 | [], _, _ => ar8 _ _
 | y :: l, hr, hn => by
  have hr':=aq1.1 hr;rw [q7]
  split
  ·rename_i hlt
   refine aq1.2 ⟨fun z hz=> ?_,nM hr'.2 fun x hx=>hn x (aqj _ hx)⟩;rcases bC.1 hz with rfl | hz
   ·exact hlt
   ·exact hr'.1 z hz
  ·rename_i hge
   have hhy:ltD h.d y.d:=by
    by_cases h1:ltD h.d y.d
    ·exact h1
    ·exact absurd (T8 hge h1) (hn y aqe)
   refine aq1.2 ⟨fun z hz=> ?_,hr⟩;rcases ap1.1 hz with rfl | hz
   ·exact hhy
   ·exact xA hhy (hr'.1 z hz)
def wg (e:Ev) (l:List Hd):List Hd:=l.filter fun h=> !lj e.deps h.d.1 h.d.2
def wi (e:Ev) (l:List Hd):List Hd:=l.filter fun h=> !(lj e.deps h.d.1 h.d.2&&decide (h.id=e.id))
def wj (e:Ev) (p:Pl) (l:List Hd):List Hd :=
 if e.kind=1∧p=⟨e.repo,none⟩ then q7 (hdE e) l
 else if e.kind=2∧p=⟨e.repo,none⟩ then wi e l
 else if e.kind=3∧p=⟨e.repo,some e.tag⟩ then q7 (hdE e) (wg e l)
 else if e.kind=4∧p=⟨e.repo,some e.tag⟩ then wg e l
 else l
theorem O0 {e:Ev} {p:Pl} {l:List Hd} {x:Hd} (hs:lj e.deps e.r e.n=false):x∈wj e p l↔(iX e p∧x=hdE e)∨(x∈l∧¬ cD e p x):=by
 have hno:¬ cD e p (hdE e):=fun h=>by
  have:=h.2;rw [show (hdE e).d=(e.r,e.n) from rfl] at this;rw [hs] at this;cases this
 unfold wj;by_cases k1:e.kind=1∧p=⟨e.repo,none⟩
 ·rw [if_pos k1,bC];have ht:¬ cD e p x:=fun h=>by
   rcases h.1 with ⟨h1,_⟩ | ⟨h1,_⟩ <;> omega
  have ha:iX e p:= .inl k1;simp [ha,ht]
 ·rw [if_neg k1];by_cases k2:e.kind=2∧p=⟨e.repo,none⟩
  ·rw [if_pos k2,wi,aqv];have ha:¬ iX e p:=fun h=>by
    rcases h with ⟨h1,_⟩ | ⟨h1,_⟩ <;> omega
   have ht:cD e p x↔(lj e.deps x.d.1 x.d.2=true∧x.id=e.id):=by
    constructor
    ·rintro ⟨h1 | h1,h2⟩
     ·exact ⟨h2,h1.2.2⟩
     ·omega
    ·rintro ⟨h1,h2⟩;exact ⟨.inl ⟨k2.1,k2.2,h2⟩,h1⟩
   rw [ht];cases hh:lj e.deps x.d.1 x.d.2 <;> simp [ha]
  ·rw [if_neg k2];by_cases k3:e.kind=3∧p=⟨e.repo,some e.tag⟩
   ·rw [if_pos k3,bC,wg,aqv];have ha:iX e p:= .inr k3;have ht:cD e p x↔lj e.deps x.d.1 x.d.2=true:=by
     constructor
     ·exact fun h=>h.2
     ·exact fun h=>⟨.inr ⟨.inl k3.1,k3.2⟩,h⟩
    rw [ht];simp [ha]
   ·rw [if_neg k3];by_cases k4:e.kind=4∧p=⟨e.repo,some e.tag⟩
    ·rw [if_pos k4,wg,aqv];have ha:¬ iX e p:=fun h=>by
      rcases h with ⟨h1,_⟩ | ⟨h1,_⟩ <;> omega
     have ht:cD e p x↔lj e.deps x.d.1 x.d.2=true:=by
      constructor
      ·exact fun h=>h.2
      ·exact fun h=>⟨.inr ⟨.inr k4.1,k4.2⟩,h⟩
     rw [ht];simp [ha]
    ·rw [if_neg k4];have ha:¬ iX e p:=fun h=>by
      rcases h with h | h
      ·exact k1 h
      ·exact k3 h
     have ht:¬ cD e p x:=fun h=>by
      rcases h.1 with ⟨h1,h2,_⟩ | ⟨h1 | h1,h2⟩
      ·exact k2 ⟨h1,h2⟩
      ·exact k3 ⟨h1,h2⟩
      ·exact k4 ⟨h1,h2⟩
     simp [ha,ht]
theorem TI.step {n:Nat} {D:List Ev} {t t':TB} {e:Ev} (h:TI n D t) (hnew:lj t.V e.r e.n=false) (hle:jP e.deps t.V=true) (hself:lj e.deps e.r e.n=false) (hD:∀ y∈D,jP y.deps t.V=true) (h1:1≤e.r) (h2:e.r≤n) (h3:atL t.V e.r=e.n - 1) (h4:1≤e.n) (h5:e.n≤1048576)
  (hr:zk t'.rs) (hv:t'.V=tC t.V e.r e.n) (ha:∀ p,atP p t'.rs=wj e p (atP p t.rs)):TI n (D ++ [e]) t':=by
 have hlen:=h.vl;have hadv:=Tc (V:=t.V) (r:=e.r) (m:=e.n) h1 (by omega) (by omega);have hy:∀ y∈D,lj y.deps e.r e.n=false:=fun y hy=>by
  cases hc:lj y.deps e.r e.n with
  | false => rfl
  | true => rw [Ce (hD y hy) hc] at hnew; cases hnew
 refine ⟨hr,by rw [hv];simp [tC,hlen],?_,fun p x=> ?_,fun y hy'=> ?_,?_⟩
 ·rw [hv];intro x hx;unfold tC at hx;rcases asc hx with hx | rfl
  ·exact h.vo x hx
  ·omega
 ·rw [ha,O0 hself,Cs.snoc hy hself,h.at_]
 ·rw [hv];rcases ap6.1 hy' with hy' | hy'
  ·exact Ce hadv (h.un y hy')
  ·rw [apy.1 hy'];exact Cd.2 ⟨h1,h4,by rw [Ta h1 (by omega) (by omega),if_pos rfl];omega⟩
 ·rw [aqa];refine atk.2 ⟨h.nd,by simp,fun a ha c hc hac=> ?_⟩;obtain ⟨y,hy',rfl⟩:=ap8.1 ha;have hce:c=iL e:=by simpa using hc
  rw [hce] at hac;have h6:=h.un y hy';have e1:y.r=e.r:=ap2 Prod.fst hac;have e2:y.n=e.n:=ap2 Prod.snd hac;rw [e1,e2,hnew] at h6;cases h6

theorem re (a z X:List Value):spl (a++z) a.length X=a++X++z.drop X.length:=by
 unfold spl;rw [arl rfl,ap0];congr 2;rw [← atz,asf rfl]
section
variable {b:World} {F:List SP} {l1 l2:List (List Int)} {x:List Int} {gl c:Nat} {A:Option Addr}
end

def Xt (id:List Int):BL→Option (List Int)
 | [] => none
 | e :: l => if e.1 = id then some e.2 else Xt id l
section
variable {b:World} {F:List SP} {gs:Nat} {w r:Int} {X:BL} {id xs:List Int} {vb:Value}
end

def apc (L:List Wn) (d:Int × Int) (id:List Int):Bool:=match alo d L with
 | some x => decide (id ∈ x.e.refs)
 | none => false
def RC' (C:CL):Prop:=∀ d,apb (cfm d C)
section
variable {b:World} {F:List SP} {gg gq gs gp n:Nat} {w r:Int} {V:List Int} {L:List Wn} {X:BL} {C:CL} {d:Int × Int} {id xs:List Int} {vb:Value}
end

theorem T9 (k:Nat) (a b:Int) (w:World):(Op.equalIn (k+1+1) t_api_Dot (qn a b) (qn a b)).run Tryz.prog w = .ok true w:=by
 have hS:Tryz.prog.underlying t_api_Dot=some (.struct (Tryz.prog.fieldsOf t_api_Dot)):=by kernel_rfl
 have hp:Tryz.prog.stoodInHeld t_api_Dot=false:=by kernel_rfl
 have hf : ∃ f g : Field, (Tryz.prog.fieldsOf t_api_Dot).toList = [f, g] ∧ f.name ≠ "_" ∧ g.name ≠ "_" ∧ f.type = fp ∧ g.type = fp ∧ f.offset = 0 ∧ g.offset = 1 :=
  ⟨_,_,rfl,by decide,by decide,rfl,rfl,rfl,rfl⟩
 obtain ⟨f,g,h1,h2,h3,h4,h5,h6,h7⟩:=hf;have ui:Tryz.prog.underlying fp=some (.int .i64):=by kernel_rfl
 rw [run_equalIn_struct w (k+1) t_api_Dot _ _ hS hp,h1];have p0:∀ (x y:Int),(part fp #[ii x,ii y] 0).run Tryz.prog w = .ok (ii x) w:=fun x y=>by simp [part,isAgg,run_underlying ui]
 have p1:∀ (x y:Int),(part fp #[ii x,ii y] 1).run Tryz.prog w = .ok (ii y) w:=fun x y=>by simp [part,isAgg,run_underlying ui]
 have q:∀ x y:Int,(Op.equalIn (k+1) fp (ii x) (ii y)).run Tryz.prog w = .ok (x == y) w:=fun x y=>run_equalIn_int w k fp .i64 .i64 x y ui
 simp only [Op.eqFields,h2,h3,h4,h5,h6,h7,ne_eq,not_false_eq_true,ata,Sem.run_bind,p0,p1,q,Result.andThen_ok];simp [p1,q]
theorem alw {P:Program} {t n:Nat} {k:IntKind} [h:ArrI P t n k] (dp:Nat) {a:List Int} (ha:a.length=n) (w:World) :
  (Op.equalIn (dp+1+1) t (.agg ⟨a.map (Value.int k)⟩) (.agg ⟨a.map (Value.int k)⟩)).run P w = .ok true w:=by
 obtain ⟨e,i,h1,h2,h3,h4⟩:=h.ex;rw [run_equalIn_array w (dp+1) _ _ h1 h3];have hc:P.cellsOf e=1:=by simp [Program.cellsOf,h3,h4]
 have hp:P.plainKey e=true:=by simp [Program.plainKey,h2]
 rw [hc];have key:∀ m j,j+m=n→(Op.eqItems (dp+1) e 1 ⟨a.map (Value.int k)⟩ ⟨a.map (Value.int k)⟩ (List.range' j m)).run P w = .ok true w:=by
  intro m
  induction m with
  | zero => intro j hj; simp [Op.eqItems]
  | succ m ih =>
   intro j hj;have hja:j<a.length:=by omega
   have p1:=run_part_plain (P:=P) w hp (xs:=⟨a.map (Value.int k)⟩) (off:=j) (v:= .int k a[j]) (by simp [hja]);simp only [asq,Op.eqItems,aq8,Sem.run_bind,p1,Result.andThen_ok,run_equalIn_int w dp e k k _ _ h2];simp only [beq_self_eq_true,Bool.not_true,atd,if_false];exact ih (j+1) (by omega)
 have:=key n 0 (by omega);simpa [List.range_eq_range'] using this
theorem bD {P : Program} {dp : Nat} {xs ys : Array Value} {f : Field} {fs : List Field} {w : World} {a c : Value} (hn : f.name ≠ "_") (ha : (part f.type xs f.offset).run P w = .ok a w) (hb : (part f.type ys f.offset).run P w = .ok c w) (he : (Op.equalIn dp f.type a c).run P w = .ok true w) :
  (Op.eqFields dp xs ys (f::fs)).run P w=(Op.eqFields dp xs ys fs).run P w:=by
 simp [Op.eqFields,hn,ha,hb,he]
section
variable {b:World} {F:List SP}
end

section
variable {b:World} {F:List SP}
variable {gg gq gs n:Nat} {w r:Int} {V:List Int} {L:List Wn} {X:BL} {C:CL} {d:Int × Int} {id:List Int} {s:ByteArray} {want:Bool} {err:Int}
end
section
variable {b:World} {F:List SP} {l:List Ev} {v:Value}
end

section
variable {b:World} {F:List SP}
end
end Go.Proofs.YtbfailbgdnpaiaaGreatDoor
