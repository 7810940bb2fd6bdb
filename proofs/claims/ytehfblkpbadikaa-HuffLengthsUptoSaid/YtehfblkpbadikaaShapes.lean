/- The shapes, all parts. No conditions. -/
import Derived.Test.YtehfblkpbadikaaShapes2
