/- For seats whose shapes all stand in the first parts. No conditions. -/
import Derived.Test.YtcigoifhcfbcdaaGreatDoorShapes
