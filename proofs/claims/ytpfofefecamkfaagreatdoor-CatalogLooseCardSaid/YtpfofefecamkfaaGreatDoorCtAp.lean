/- PLAIN: the document's example of layer 15, evaluated; a new store, opened. No statement of the seat is proved here; no condition. -/
import Derived.Test.YtpfofefecamkfaaGreatDoorCtPl
import Derived.Test.YtpfofefecamkfaaGreatDoorCtM
namespace Go.Proofs.YtpfofefecamkfaaGreatDoor
open Go.RowKit

def draftOff (o:UInt64):Dr:=⟨false,[],[],[],o,0⟩
theorem most_names (m:Mp):mostOf (namesM m) = mostOf (m.map (·.1)):=by
 refine Nat.le_antisymm (most_le fun x hx => ?_) (most_le fun x hx => ?_)
 ·obtain ⟨t,ht⟩:=names_has hx
  exact le_most (List.mem_map.2 ⟨(x,t),mget_mem ht,rfl⟩)
 ·obtain ⟨p,hp,rfl⟩:=List.mem_map.1 hx
  exact le_most (mem_names hp)
def So.stageK (s:So) (c:UInt8) (bs:List UInt8):So × ByteArray × Nat :=
 if isLow c = false then (s,no_,1)
 else if s.dead = true then (s,no_,120)
 else if 1073741824 ≤ mostOf (s.m.map (·.1)) then (s,no_,6)
 else s.stage2 (stName c (mostOf (s.m.map (·.1)) + 1)) bs
theorem stage_k (s:So) (c:UInt8) (bs:List UInt8):s.stage c bs = s.stageK c bs:=by
 unfold So.stage So.stageK
 rw [most_names]
def chCommit2K (s:So) (w:Tb) (g:Nat × Sn × List En):Ch :=
 if g.1 ≠ 0 then ⟨s,g.1,default,default⟩
 else if errE g.2.2 ≠ 0 then ⟨s,errE g.2.2,default,default⟩
 else chCommit3 s w g.2.1 (s.stageK 109 (wrES g.2.2))
def chCommitK (d:Dr) (s:So) (t:Tb):Ch :=
 if (wider t d.fs).2 ≠ 0 then ⟨s,(wider t d.fs).2,default,default⟩ else chCommit2K s (wider t d.fs).1 (s.draft t d (wider t d.fs).1.lastS.1)
theorem commit_k (d:Dr):chCommit d = chCommitK d:=by
 funext s t
 unfold chCommit chCommitK chCommit2 chCommit2K
 simp only [stage_k]
def try1K (c:Ct) (h:Ch):Tr :=
 if h.e ≠ 0 then ⟨h.s,c,h.e,false,default⟩
 else if rightP h.t.ss h.t.ns h.t.cur.toNat = false then ⟨h.s,c,1,false,default⟩
 else try2 c h (h.s.stageK 116 (wrS h.t.ss h.t.ns))
theorem try_k (c:Ct) (h:Ch):try1 c h = try1K c h:=by
 unfold try1 try1K
 rw [stage_k]
def publishK (chg:So → Tb → Ch):Nat → So → Ct → Tr
 | 0,s,c => ⟨s,c,123,false,default⟩
 | k + 1,s,c => if (try1K c (chg s c.t)).on = true then publishK chg k (try1K c (chg s c.t)).s (try1K c (chg s c.t)).c else try1K c (chg s c.t)
theorem publish_k (chg:So → Tb → Ch):∀ (k:Nat) (s:So) (c:Ct),publish chg k s c = publishK chg k s c
 | 0,_,_ => rfl
 | k + 1,s,c => by
   show (if _ then _ else _) = (if _ then _ else _)
   simp only [try_k,publish_k chg k]
def alA (q:Int):So × Option Ct × Nat:=(So.new q).openC (1,two)
def alB:So × Option Ct × Nat:=(alA 100000).1.openC (1,two)
def alS:So × ByteArray × Nat:=alB.1.stage 100 [120]
def alCa:Ct:=(alA 100000).2.1.getD noC
def alCb:Ct:=alB.2.1.getD noC
def al1:Tr:=publish (chCommit (draftOff 5)) 3 alS.1 alCa
def al2:Tr:=publish (chCommit (draftOff 5)) 3 al1.s al1.c
def al3:Tr:=publish (chCommit (draftOff 9)) 3 al2.s alCb
def nmIs (s:ByteArray) (l:List UInt8):Bool:=decide (s.data.toList = l)
theorem nm_is {s:ByteArray} {l:List UInt8} (h:nmIs s l = true):s = ⟨l.toArray⟩:=by
 unfold nmIs at h
 rw [decide_eq_true_iff] at h
 obtain ⟨⟨d⟩⟩:=s
 subst h
 rfl
theorem al_open (q:Int) (hq:q = 100000 ∨ q = 1000000 ∨ q = 4000000):(alA q).2.1.isSome = true ∧ (alA q).2.2 = 0 ∧ nmIs ((alA q).2.1.getD noC).nm [116,49] = true:=by
 rcases hq with rfl | rfl | rfl <;> decide +kernel
theorem al_b:alB.2.1.isSome = true ∧ alB.2.2 = 0:=by decide +kernel
theorem al_s:nmIs alS.2.1 [100,50] = true ∧ alS.2.2 = 0:=by decide +kernel
def al1K:Tr:=publishK (chCommitK (draftOff 5)) 3 alS.1 alCa
def al2K:Tr:=publishK (chCommitK (draftOff 5)) 3 al1K.s al1K.c
def al3K:Tr:=publishK (chCommitK (draftOff 9)) 3 al2K.s alCb
theorem al1_k:al1 = al1K:=by unfold al1 al1K;rw [publish_k,commit_k]
theorem al2_k:al2 = al2K:=by unfold al2 al2K;rw [publish_k,commit_k,al1_k]
theorem al3_k:al3 = al3K:=by unfold al3 al3K;rw [publish_k,commit_k,al2_k]
theorem al_1:al1.e = 0 ∧ al1.n.id.toNat = 1 ∧ al1.n.seq.toNat = 1:=by rw [al1_k];decide +kernel
theorem al_2:al2.e = 220 ∧ nmIs al2.c.nm [116,52] = true:=by rw [al2_k];decide +kernel
theorem al_3:al3.e = 0 ∧ al3.n.id.toNat = 2 ∧ nmIs al3.c.nm [116,56] = true:=by rw [al3_k];decide +kernel
theorem opened_ok {s s2:So} {p:Ps} {c:Ct} (h:s.openC p = (s2,some c,0)):c.t.ok:=by
 unfold So.openC at h
 split at h
 ·cases h
 unfold So.open3 at h
 split at h
 ·rename_i h1 h2
  injection h with _ h
  injection h with h _
  injection h with h
  subst h
  unfold So.open2 at h2 ⊢
  split at h2
  ·cases h2
  rename_i h3
  rw [if_neg h3]
  split at h2
  ·rename_i h4
   rw [if_pos h4]
   unfold So.begin at h2 ⊢
   split at h2
   ·cases h2
   rename_i h5
   rw [if_neg h5]
   generalize s.stage 116 (wrS [p] []) = st at *
   generalize (if st.2.2 = 0 then st.1.swap no_ st.2.1 else (st.1,st.2.2)) = q at *
   unfold So.begin2 at h2 ⊢
   split at h2
   ·rename_i h6
    rw [if_pos h6]
    show rightP [p] [] 0 = true
    simpa using h5
   ·rename_i h6
    exact absurd h2 h6
  ·rename_i h4
   rw [if_neg h4]
   show (s.refresh noC).1.t.ok
   replace h2:(s.refresh noC).2 = 0:=h2
   unfold So.refresh at h2 ⊢
   split at h2
   ·cases h2
   rename_i h5
   rw [if_neg h5]
   split at h2
   ·rename_i h6
    exact absurd h2 h6
   rename_i h6
   rw [if_neg h6]
   split at h2
   ·rename_i h7
    exact absurd h2 h7
   rename_i h7
   rw [if_neg h7]
   exact tbOpen_ok (by simpa using h7)
 ·cases h
theorem opn_is {r:So × Option Ct × Nat} (h:r.2.1.isSome = true) (h0:r.2.2 = 0):r = (r.1,some (r.2.1.getD noC),0):=by
 obtain ⟨s,oc,e⟩:=r
 cases oc with
 | none => cases h
 | some c =>
   dsimp only at h0
   subst h0
   rfl
/-- the document's example -/
theorem alive_plan:∃ (s1:So) (ca:Ct) (s2:So) (cb:Ct) (s3:So) (r1 r2 r3:Tr),(So.new 100000).openC (1,two) = (s1,some ca,0) ∧ ca.nm = ⟨#[116,49]⟩ ∧ s1.openC (1,two) = (s2,some cb,0) ∧ s2.stage 100 [120] = (s3,⟨#[100,50]⟩,0) ∧
 publish (chCommit (draftOff 5)) 3 s3 ca = r1 ∧ r1.e = 0 ∧ r1.n.id.toNat = 1 ∧ r1.n.seq.toNat = 1 ∧ publish (chCommit (draftOff 5)) 3 r1.s r1.c = r2 ∧ r2.e = 220 ∧ r2.c.nm = ⟨#[116,52]⟩ ∧ publish (chCommit (draftOff 9)) 3 r2.s cb = r3 ∧ r3.e = 0 ∧ r3.n.id.toNat = 2 ∧ r3.c.nm = ⟨#[116,56]⟩:=by
 obtain ⟨a1,a2,a3⟩:=al_open 100000 (.inl rfl)
 have hA:=opn_is a1 a2
 have hB:=opn_is al_b.1 al_b.2
 refine ⟨(alA 100000).1,alCa,alB.1,alCb,alS.1,al1,al2,al3,hA,nm_is a3,hB,?_,rfl,al_1.1,al_1.2.1,al_1.2.2,rfl,al_2.1,nm_is al_2.2,rfl,al_3.1,al_3.2.1,nm_is al_3.2.2⟩
 show alS = _
 have h1:=nm_is al_s.1
 have h2:=al_s.2
 generalize alS = st at *
 obtain ⟨s,n,e⟩:=st
 dsimp only at h1 h2 ⊢
 rw [h1,h2]
theorem open_plan (q:Int) (hq:q = 1000000 ∨ q = 4000000):∃ (s1:So) (ca:Ct),(So.new q).openC (1,two) = (s1,some ca,0):=by
 obtain ⟨a1,a2,_⟩:=al_open q (.inr hq)
 exact ⟨_,_,opn_is a1 a2⟩
end Go.Proofs.YtpfofefecamkfaaGreatDoor
