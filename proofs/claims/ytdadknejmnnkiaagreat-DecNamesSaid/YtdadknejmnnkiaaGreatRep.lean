import Derived.Test.YtdadknejmnnkiaaGreatBits4
namespace Go.Proofs.YtdadknejmnnkiaaGreat
open Go Go.RowKit

/-! The records, as plain data, and how they read in memory. -/
structure Sect where
  book : Int
  len : Int
structure Filt where
  len : Int
  order : Int
  down : Bool
  fine : Bool
  coefs : List Int
structure Info where
  seq : Int
  shape : Int
  max : Int
  groups : List Int
structure Chan where
  gain : Int
  info : Info
  sections : List (List Sect)
  steps : List (List Int)
  tns : List (List Filt)
  lines : List Int
structure Frame where
  chans : List Chan
  common : Bool
  mask : Int
  bands : List (List Bool)
  fill : List UInt8

def i2v (n : Int) : Value := .int .i64 n
def intR : Rep Int := c1 i2v
def u8R : Rep Int := c1 (Value.int .u8)
def boolR : Rep Bool := c1 Value.bool
def byteR : Rep UInt8 := c1 y2v
/-- R, k cells further on, of f's answer -/
def fld {α β : Type} (k : Nat) (f : β → α) (R : Rep α) : Rep β := fun D w b o x => R D w b (o + k) (f x)
def rand {α : Type} (R R' : Rep α) : Rep α := fun D w b o x => R D w b o x ∧ R' D w b o x
theorem fld_good {α β : Type} (k : Nat) (f : β → α) {R : Rep α} (g : R.Good) : (fld k f R).Good := ⟨fun h hk => g.keep h hk, fun h hd => g.mono h hd, fun h => g.dom h⟩
theorem rand_good {α : Type} {R R' : Rep α} (g : R.Good) (g' : R'.Good) : (rand R R').Good := ⟨fun h hk => ⟨g.keep h.1 hk, g'.keep h.2 hk⟩, fun h hd => ⟨g.mono h.1 hd, g'.mono h.2 hd⟩, fun h => g.dom h.1⟩

def sectR : Rep Sect := rand (fld 0 Sect.book intR) (fld 1 Sect.len intR)
def filtR : Rep Filt := rand (fld 0 Filt.len intR) (rand (fld 1 Filt.order intR) (rand (fld 2 Filt.down boolR) (rand (fld 3 Filt.fine boolR) (fld 4 Filt.coefs (slc 1 intR)))))
def infoR : Rep Info := rand (fld 0 Info.seq u8R) (rand (fld 1 Info.shape u8R) (rand (fld 2 Info.max intR) (fld 3 Info.groups (slc 1 intR))))
def chanR : Rep Chan := rand (fld 0 Chan.gain intR) (rand (fld 1 Chan.info infoR) (rand (fld 5 Chan.sections (slc 1 (slc 2 sectR))) (rand (fld 6 Chan.steps (slc 1 (slc 1 intR))) (rand (fld 7 Chan.tns (slc 1 (slc 5 filtR))) (fld 8 Chan.lines (slc 1 intR))))))
def frameR : Rep Frame := rand (fld 0 Frame.chans (slc 9 chanR)) (rand (fld 1 Frame.common boolR) (rand (fld 2 Frame.mask intR) (rand (fld 3 Frame.bands (slc 1 (slc 1 boolR))) (fld 4 Frame.fill (slc 1 byteR)))))
theorem int_good : intR.Good := c1_good _
theorem sect_good : sectR.Good := rand_good (fld_good _ _ (c1_good _)) (fld_good _ _ (c1_good _))
theorem filt_good : filtR.Good := rand_good (fld_good _ _ (c1_good _)) (rand_good (fld_good _ _ (c1_good _)) (rand_good (fld_good _ _ (c1_good _)) (rand_good (fld_good _ _ (c1_good _)) (fld_good _ _ (slc_good _ (c1_good _))))))
theorem info_good : infoR.Good := rand_good (fld_good _ _ (c1_good _)) (rand_good (fld_good _ _ (c1_good _)) (rand_good (fld_good _ _ (c1_good _)) (fld_good _ _ (slc_good _ (c1_good _)))))
theorem chan_good : chanR.Good := rand_good (fld_good _ _ (c1_good _)) (rand_good (fld_good _ _ info_good) (rand_good (fld_good _ _ (slc_good _ (slc_good _ sect_good))) (rand_good (fld_good _ _ (slc_good _ (slc_good _ (c1_good _)))) (rand_good (fld_good _ _ (slc_good _ (slc_good _ filt_good))) (fld_good _ _ (slc_good _ (c1_good _)))))))
theorem frame_good : frameR.Good := rand_good (fld_good _ _ (slc_good _ chan_good)) (rand_good (fld_good _ _ (c1_good _)) (rand_good (fld_good _ _ (c1_good _)) (rand_good (fld_good _ _ (slc_good _ (slc_good _ (c1_good _)))) (fld_good _ _ (slc_good _ (c1_good _))))))

theorem one_map {α : Type} (enc : α → Value) (l : List α) (h : ∀ x, (enc x).oneCell' = true) : ∀ u ∈ l.map enc, u.oneCell' = true := by intro u hu; obtain ⟨x, _, rfl⟩ := List.mem_map.1 hu; exact h x
theorem intT : ElemT Tryz.prog 30 3 (.int .i64 0) 1 8 := ElemT.of Tryz.underlying30 (by kernel_rfl) rfl (by decide)

/-! Offsets of bands. -/
/-- the next offset, of a window of 'lines' lines -/
def nextOff (k lines by_ at_ : Int) : Int := min lines (at_ + 4 + 4 * (at_ * k / by_))
def offList (k lines by_ : Int) : Nat → Int → List Int
  | 0, _ => []
  | n + 1, at_ => at_ :: if at_ < lines then offList k lines by_ n (nextOff k lines by_ at_) else []
def offsets (rate : Int) (short : Bool) : List Int := offList (3 + (11 - rate) / 2) (if short then 32 else 256) (if short then 64 else 256) 70 0
end Go.Proofs.YtdadknejmnnkiaaGreat
